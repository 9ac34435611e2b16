/-
  Texts laid together: Rn, Ap, Cp, Zn, Mp, Tab, Lt, LfA, Pcs, Tok, PlA, Ql, PcW, Cls, ClsW, ClsW2, Vow, RefW, RefW3, LfF, Vs, LfG, LfP, LfT, Qt, PlB, Qa, Qb, Qc, Qd, LfR, Qr. Nothing is assumed.
-/
import Derived.Test.YtlamcpgnmeileaaFoldStays1
import Derived.Laws.Cover4
import Derived.Laws.IdiomStrings
import Derived.Laws.CopyRow
import Derived.Laws.Tables
import Derived.LoopNIn
import Derived.MapKept
import Derived.Test.YtlamcpgnmeileaaProg
import Derived.Shelf.Abstract
namespace Go.Proofs.Ytlamcpgnmeileaa
open Go.RowKit Go.Lib
set_option linter.unusedVariables false
set_option linter.unusedSimpArgs false
/-- A text's runes. -/
def runesOf (s : ByteArray) : List Int := (pcs s.data.toList).map fun p => (p.r : Int)
theorem runesFrom_pcs (s : ByteArray) : ∀ (n i : Nat) (acc : Array Value), s.size - i ≤ n → Conv.runesFrom s n i acc = acc ++ ((pcsFrom i (s.data.toList.drop i)).map fun p => Value.int .i32 (p.r : Int)).toArray
  | 0, i, acc, h => by
    rw [List.drop_eq_nil_of_le (by simp; omega), pcsFrom_nil]; simp [Conv.runesFrom]
  | n + 1, i, acc, h => by
    unfold Conv.runesFrom
    by_cases hi : i < s.size
    · have hne : s.data.toList.drop i ≠ [] := by
        intro e; have := congrArg List.length e; simp at this; omega
      have hd := decodeL_drop s i
      have h1 := dec_pos (s.data.toList.drop i)
      rw [if_pos hi]
      simp only
      rw [← hd, runesFrom_pcs s n _ _ (by omega), pcsFrom_cons _ _ hne, List.drop_drop]
      simp
    · rw [if_neg hi, List.drop_eq_nil_of_le (by simp; omega), pcsFrom_nil]; simp
theorem runesFrom_of (s : ByteArray) : Conv.runesFrom s s.size 0 #[] = ((runesOf s).map (Value.int .i32)).toArray := by
  rw [runesFrom_pcs s s.size 0 #[] (by omega)]
  simp [runesOf, pcs, Function.comp_def]
section
variable {F : Fence} {P : Program} {w0 : World} {K : Nat → Prop} {N : Nat} {dfs : List Deferred} {ops : Array Oper} {Q : Exit → Act → World → Prop} {rest : List Oper} {σ : List (Nat × Value)} {L : List Asn}
  {d : Nat} {ty : TypeId} {pos : String} {aft : Array Edge} {g : Option (Nat × Bool)} {x : Operand} {t e : TypeId} {k : Nat} {vv : Value}
/-- A fresh row with room behind, as an owned slice. -/
theorem Ent.row {ε : Type} {enc1 : ε → List Value} {size b cap : Nat} {arr : Array Value} {ys : List ε} (hlen : ∀ x, (enc1 x).length = size) (ht : arr.toList.take (ys.length * size) = ys.flatMap enc1) (hs : arr.size = cap * size) (hc : ys.length ≤ cap) (hm : cap ≤ maxLen) : Ent (obj b (.cells arr e (0, 0))) (vec enc1 e size (.slice (some ⟨b, 0, none⟩) ys.length cap) ys) := by
  rintro C w ⟨h1, h2⟩
  have hl : (ys.flatMap enc1).length = ys.length * size := flat_len hlen ys
  refine ⟨⟨hl, .inr ⟨b, cap, arr, rfl, Nat.zero_le _, h2, hc, hm, hs, ht⟩⟩, ?_⟩
  funext j; simp [Value.ownBlock, h1, eq_comm]
theorem runesOf_len (s : ByteArray) : (runesOf s).length ≤ s.size := by
  have h := size_runesFrom s s.size 0 #[]
  rw [runesFrom_of] at h
  simpa using h
/-- The text of runes. -/
def strOf (ns : List Int) : ByteArray := runesBytes ns
theorem TO.runesStr [WideF F] {src : TypeId} {xs : List Int} (hg : gd ops σ g = some true) (hd : d < N) (hx : ev σ x = some vv) (hk : L[k]? = some (vec (encI .i32) e 1 vv xs)) (hs : P.underlying src = some (.slice e)) (he : P.underlying e = some (.int .i32)) (ht : P.underlying t = some .string)
    (h : TO F P w0 K N dfs ops Q rest ((d, .string (strOf xs)) :: σ) L) : TO F P w0 K N dfs ops Q (⟨some d, .convert src t x, ty, pos, aft, g⟩ :: rest) σ L :=
  TO.val hg hd (by simp) (fun a w ha hw => by
    obtain ⟨C, hV⟩ := hw.vec hk
    have hc : (convert src t vv).run P w = .ok (.string (strOf xs)) w := by
      rcases hV.shape with ⟨rfl, rfl, _⟩ | ⟨gb, cap, rfl, _⟩
      · rw [run_convert_runes_string w src t e none 0 0 hs he ht]; simp [Conv.runesToString, strOf, runesBytes]
      · rw [run_convert_runes_string w src t e _ _ _ hs he ht]
        refine run_runesToString w _ _ _ xs ?_
        have := run_loadCells_list (P := P) (w := w) ⟨gb, 0, none⟩ (xs.map (Value.int .i32)) (by
          intro j v hj
          rw [List.getElem?_map, Option.map_eq_some_iff] at hj
          obtain ⟨n, hn, rfl⟩ := hj
          have hadd : (⟨gb, 0, none⟩ : Addr).add j = ⟨gb, j, none⟩ := by unfold Addr.add; split <;> simp_all
          rw [hadd]
          have := hV.cell (i := j) (j := 0) (x := n) (u := .int .i32 n) (encI_len (k := .i32)) rfl hn (by omega) rfl
          simpa using this)
        simpa using this
    simp only [execOp, ha.ev hx, Sem.run_bind, hc]; rfl) h
end
end Go.Proofs.Ytlamcpgnmeileaa
namespace Go.Proofs.Ytlamcpgnmeileaa
open Go.RowKit Go.Lib
set_option linter.unusedVariables false
set_option linter.unusedSimpArgs false
section
variable {F : Fence} {P : Program} {w0 : World} {K : Nat → Prop} {N : Nat} {dfs : List Deferred} {ops : Array Oper} {Q : Exit → Act → World → Prop} {rest : List Oper} {σ : List (Nat × Value)} {L : List Asn}
  {d : Nat} {ty : TypeId} {pos : String} {aft : Array Edge} {g : Option (Nat × Bool)} {s x : Operand} {t e e2 : TypeId} {k k2 j size : Nat} {vv v2 v : Value} {α : Type} {enc : α → List Value} {xs ys Ls : List α}
theorem Vw.cells {C : Nat → Prop} {w : World} (hlen : ∀ x, (enc x).length = size) (hs : 0 < size) (h : Vec enc e2 size v2 Ls C w) (hV : Vw v2 Ls size j v ys) (hne : ys ≠ []) : ∃ c, v = .slice (some ⟨vblk v2, j * size, none⟩) ys.length c ∧ ∀ n u, (ys.flatMap enc)[n]? = some u → w.cell? ((⟨vblk v2, j * size, none⟩ : Addr).add n) = some u := by
  have hgt := fun (i : Nat) (q : α) (hq : ys[i]? = some q) => hV.get (i := (i : Int)) (getO_nat hq)
  obtain ⟨_, _, q', c, hq', _, hp⟩ := hV
  have hp := hp hne
  subst hp
  refine ⟨c, hq', fun n u hu => ?_⟩
  have hadd : (⟨vblk v2, j * size, none⟩ : Addr).add n = ⟨vblk v2, j * size + n, none⟩ := by unfold Addr.add; split <;> simp_all
  rw [hadd]
  have hnl : n < ys.length * size := by
    have := (List.getElem?_eq_some_iff.1 hu).1; rwa [flat_len hlen ys] at this
  have hi : n / size < ys.length := Nat.div_lt_of_lt_mul (by rwa [Nat.mul_comm] at hnl)
  have hr : n % size < size := Nat.mod_lt _ hs
  have hdm : n / size * size + n % size = n := Nat.div_add_mod' n size
  have hy : ys[n / size]? = some ys[n / size] := List.getElem?_eq_getElem hi
  have h2 := flat_get hlen ys (n / size) (n % size) _ hy hr
  rw [hdm, hu] at h2
  have h3 := h.cellAt hlen (hgt _ _ hy) hr h2.symm
  have e1 : (j + ((n / size : Nat) : Int).toNat) * size + n % size = j * size + n := by
    rw [Int.toNat_natCast, Nat.add_mul]; omega
  rwa [e1] at h3
end
end Go.Proofs.Ytlamcpgnmeileaa
namespace Go.Proofs.Ytlamcpgnmeileaa
open Go.RowKit Go.Lib
set_option linter.unusedVariables false
set_option linter.unusedSimpArgs false
section
variable {F : Fence} {P : Program} {w0 : World} {K : Nat → Prop} {N : Nat} {dfs : List Deferred} {ops : Array Oper} {Q : Exit → Act → World → Prop} {rest : List Oper} {σ : List (Nat × Value)} {L : List Asn}
  {d : Nat} {ty : TypeId} {pos : String} {aft : Array Edge} {g : Option (Nat × Bool)} {s x : Operand} {t t2 e e2 : TypeId} {k k2 j j2 size : Nat} {vv v2 v u : Value} {α : Type} {enc : α → List Value} {xs ds ys Ls : List α}
end
end Go.Proofs.Ytlamcpgnmeileaa
namespace Go.Proofs.Ytlamcpgnmeileaa
open Go.RowKit Go.Lib
set_option linter.unusedVariables false
set_option linter.unusedSimpArgs false
/-- Decided. -/
theorem dc {p : Prop} [Decidable p] (h : decide p = true := by rfl) : p := of_decide_eq_true h
/-- The same by computation. -/
theorem kr {α : Sort _} {a b : α} (h : a = b := by as_aux_lemma => kernel_rfl) : a = b := h
/-- What an iterator yields first, and then. -/
def consO {α : Type} (x : α) (o : Option (List α)) : Option (List α) := o.map (x :: ·)
theorem consE {α : Type} {x : α} {o : Option (List α)} {r : List α} (h : consO x o = some r) : ∃ r', r = x :: r' ∧ o = some r' := by
  obtain ⟨r', h1, h2⟩ := Option.map_eq_some_iff.1 h
  exact ⟨r', h2.symm, h1⟩
theorem strCells_of {l : List Int} (h : ∀ x ∈ l, U8 x) : l.map (fun x => Value.int .u8 x) = strCells (bytesOf l) := by
  have e := ints_bytesOf h
  conv => lhs; rw [← e]
  simp [ints, strCells]
section
variable {F : Fence} {P : Program} {w0 : World} {K : Nat → Prop} {N : Nat} {dfs : List Deferred} {ops : Array Oper} {Q : Exit → Act → World → Prop} {rest : List Oper} {c : Code} {ex : Exit} {σ : List (Nat × Value)} {L L' As R : List Asn} {A B : Asn} {k : Nat} {β : Type}
theorem TO.weakenL (hs : Splits L L' R) (h : TO F P w0 K N dfs ops Q rest σ L') : TO F P w0 K N dfs ops Q rest σ L := fun a w ha hw => h a w ha (hw.weaken hs)
theorem TC.weakenL (hs : Splits L L' R) (h : TC F P w0 K N dfs Q c σ L') : TC F P w0 K N dfs Q c σ L := fun a w ha hw => h a w ha (hw.weaken hs)
theorem TX.weakenL (hs : Splits L L' R) (h : TX w0 K N dfs Q ex σ L') : TX w0 K N dfs Q ex σ L := fun a w ha hw => h a w ha (hw.weaken hs)
theorem TX.ent (hk : L[k]? = some A) (he : Ent A B) (h : TX w0 K N dfs Q ex σ (L.set k B)) : TX w0 K N dfs Q ex σ L := fun a w ha hw => h a w ha (hw.ent hk he)
/-- A loop of at most m rounds, round by round. -/
def TR (F : Fence) (P : Program) (w0 : World) (K : Nat → Prop) (N : Nat) (dfs : List Deferred) (Q : Exit → Act → World → Prop) (c : Code) (m : Nat) (σ : List (Nat × Value)) (L : List Asn) : Prop :=
  ∀ a w, At N dfs σ a → Holds w0 K L w → Code.roundsIn F 0 P c Q m a w
theorem TC.loopN (m : Nat) (h : TR F P w0 K N dfs Q c m σ L) : TC F P w0 K N dfs Q (.loop c) σ L := fun a w ha hw => wpIn_loop_rounds m (h a w ha hw)
theorem TR.succ {m : Nat} (h : TC F P w0 K N dfs (Exit.then (Code.roundsIn F 0 P c Q m) Q) c σ L) : TR F P w0 K N dfs Q c (m + 1) σ L := fun a w ha hw => h a w ha hw
theorem TX.nextN {m : Nat} (h : TR F P w0 K N dfs Q c m σ L) : TX w0 K N dfs (Exit.then (Code.roundsIn F 0 P c Q m) Q) .normal σ L := fun a w ha hw => h a w ha hw
/-- The entry k and others become one, at k. -/
theorem Holds.fold1 {w : World} (h : Holds w0 K L w) (hk : L[k]? = some A) (hs : Splits (L.set k emp) As R) (hR : R[k]? = some emp) (hE : ∀ C w, sepL (A :: As) C w → B.P C w) : Holds w0 K (R.set k B) w := by
  obtain ⟨C, hL, hx⟩ := h
  obtain ⟨C1, C2, h1, h2, h3, h4⟩ := sepL.take hk hL
  obtain ⟨D1, D2, g1, g2, g3, g4⟩ := hs C2 w h2
  have hset : R.set k emp = R := by
    obtain ⟨hl, he⟩ := List.getElem?_eq_some_iff.1 hR
    rw [← he]; exact List.set_getElem_self hl
  refine ⟨C, sepL.put (C1 := fun i => C1 i ∨ D1 i) (C2 := D2) (List.getElem?_eq_some_iff.1 hR).1 (hE _ _ ⟨C1, D1, h1, g1, fun i a b => h3 i a ((g4 i).2 (.inl b)), fun i => Iff.rfl⟩) (by rw [hset]; exact g2) (fun i a b => ?_) (fun i => ?_), hx⟩
  · rcases a with a | a
    · exact h3 i a ((g4 i).2 (.inr b))
    · exact g3 i a b
  · rw [h4, g4, or_assoc]
/-- The entry k becomes another and some more, behind. -/
theorem Holds.unfold1 {w : World} {I : β → Prop} {Bf : β → Asn} {Bs : β → List Asn} (h : Holds w0 K L w) (hk : L[k]? = some A) (hE : ∀ C w, A.P C w → ∃ b, I b ∧ sepL (Bf b :: Bs b) C w) : ∃ b, I b ∧ Holds w0 K (L.set k (Bf b) ++ Bs b) w := by
  obtain ⟨C, hL, hx⟩ := h
  obtain ⟨C1, C2, h1, h2, h3, h4⟩ := sepL.take hk hL
  obtain ⟨b, hI, D1, D2, g1, g2, g3, g4⟩ := hE _ _ h1
  refine ⟨b, hI, C, sepL.append' (C1 := fun i => D1 i ∨ C2 i) (C2 := D2) (sepL.put (C1 := D1) (C2 := C2) (List.getElem?_eq_some_iff.1 hk).1 g1 h2 (fun i a b => h3 i ((g4 i).2 (.inl a)) b) (fun i => Iff.rfl)) g2 (fun i a b => ?_) (fun i => ?_), hx⟩
  · rcases a with a | a
    · exact g3 i a b
    · exact h3 i ((g4 i).2 (.inr b)) a
  · rw [h4, g4]
    constructor
    · rintro ((a | a) | a)
      · exact .inl (.inl a)
      · exact .inr a
      · exact .inl (.inr a)
    · rintro ((a | a) | a)
      · exact .inl (.inl a)
      · exact .inr a
      · exact .inl (.inr a)
theorem TO.fold1 (hk : L[k]? = some A) (hs : Splits (L.set k emp) As R) (hR : R[k]? = some emp) (hE : ∀ C w, sepL (A :: As) C w → B.P C w) (h : TO F P w0 K N dfs ops Q rest σ (R.set k B)) : TO F P w0 K N dfs ops Q rest σ L := fun a w ha hw => h a w ha (hw.fold1 hk hs hR hE)
theorem TC.fold1 (hk : L[k]? = some A) (hs : Splits (L.set k emp) As R) (hR : R[k]? = some emp) (hE : ∀ C w, sepL (A :: As) C w → B.P C w) (h : TC F P w0 K N dfs Q c σ (R.set k B)) : TC F P w0 K N dfs Q c σ L := fun a w ha hw => h a w ha (hw.fold1 hk hs hR hE)
theorem TX.fold1 (hk : L[k]? = some A) (hs : Splits (L.set k emp) As R) (hR : R[k]? = some emp) (hE : ∀ C w, sepL (A :: As) C w → B.P C w) (h : TX w0 K N dfs Q ex σ (R.set k B)) : TX w0 K N dfs Q ex σ L := fun a w ha hw => h a w ha (hw.fold1 hk hs hR hE)
theorem TO.unfold1 {I : β → Prop} {Bf : β → Asn} {Bs : β → List Asn} (hk : L[k]? = some A) (hE : ∀ C w, A.P C w → ∃ b, I b ∧ sepL (Bf b :: Bs b) C w) (h : ∀ b, I b → TO F P w0 K N dfs ops Q rest σ (L.set k (Bf b) ++ Bs b)) : TO F P w0 K N dfs ops Q rest σ L := fun a w ha hw => by
  obtain ⟨b, hI, hb⟩ := hw.unfold1 hk hE; exact h b hI a w ha hb
theorem TC.unfold1 {I : β → Prop} {Bf : β → Asn} {Bs : β → List Asn} (hk : L[k]? = some A) (hE : ∀ C w, A.P C w → ∃ b, I b ∧ sepL (Bf b :: Bs b) C w) (h : ∀ b, I b → TC F P w0 K N dfs Q c σ (L.set k (Bf b) ++ Bs b)) : TC F P w0 K N dfs Q c σ L := fun a w ha hw => by
  obtain ⟨b, hI, hb⟩ := hw.unfold1 hk hE; exact h b hI a w ha hb
theorem TX.unfold1 {I : β → Prop} {Bf : β → Asn} {Bs : β → List Asn} (hk : L[k]? = some A) (hE : ∀ C w, A.P C w → ∃ b, I b ∧ sepL (Bf b :: Bs b) C w) (h : ∀ b, I b → TX w0 K N dfs Q ex σ (L.set k (Bf b) ++ Bs b)) : TX w0 K N dfs Q ex σ L := fun a w ha hw => by
  obtain ⟨b, hI, hb⟩ := hw.unfold1 hk hE; exact h b hI a w ha hb
end
section
variable {F : Fence} {P : Program} {w0 : World} {K : Nat → Prop} {N : Nat} {dfs : List Deferred} {ops : Array Oper} {Q : Exit → Act → World → Prop} {rest : List Oper} {c : Code} {ex : Exit} {σ : List (Nat × Value)} {L As R : List Asn} {k : Nat}
  {α η : Type} {enc : α × η → List Value} {nest : α × η → List Asn} {e : TypeId} {size : Nat} {v : Value} {xs : List α} {zs zs' : List (α × η)} {z z' : α × η} {i : Nat} {x x' : α} {h h' : η}
/-- What the records zs own. -/
def own (nest : α × η → List Asn) (zs : List (α × η)) : Asn := star (zs.flatMap nest)
theorem openE (C : Nat → Prop) (w : World) (h : (vecN enc nest e size v xs).P C w) : ∃ zs : List (α × η), zs.map Prod.fst = xs ∧ sepL (vec enc e size v zs :: [own nest zs]) C w := by
  obtain ⟨⟨zs, hz⟩, h⟩ := h; exact ⟨zs, hz, h⟩
theorem closeE (hz : zs.map Prod.fst = xs) (C : Nat → Prop) (w : World) (h : sepL (vec enc e size v zs :: [own nest zs]) C w) : (vecN enc nest e size v xs).P C w := ⟨⟨zs, hz⟩, h⟩
theorem pullE (hz : zs[i]? = some z) (C : Nat → Prop) (w : World) (h : (own nest zs).P C w) : ∃ _u : Unit, True ∧ sepL (own nest (zs.eraseIdx i) :: nest z) C w := by
  obtain ⟨C1, C2, h1, h2, h3, h4⟩ := (sepL.pull hz).1 h
  exact ⟨(), trivial, C2, C1, h2, h1, fun k a b => h3 k b a, fun k => by rw [h4]; exact Or.comm⟩
theorem pushE (hz : zs'[i]? = some z) (he : zs'.eraseIdx i = zs.eraseIdx i) (C : Nat → Prop) (w : World) (h : sepL (own nest (zs.eraseIdx i) :: nest z) C w) : (own nest zs').P C w := by
  obtain ⟨C1, C2, h1, h2, h3, h4⟩ := h
  exact (sepL.pull hz).2 ⟨C2, C1, h2, by rw [he]; exact h1, fun k a b => h3 k b a, fun k => by rw [h4]; exact Or.comm⟩
theorem ownApp (C : Nat → Prop) (w : World) (h : sepL (own nest zs :: nest z) C w) : (own nest (zs ++ [z])).P C w := by
  obtain ⟨C1, C2, h1, h2, h3, h4⟩ := h
  show sepL ((zs ++ [z]).flatMap nest) C w
  rw [List.flatMap_append, List.flatMap_cons, List.flatMap_nil, List.append_nil]
  exact sepL.append' h1 h2 h3 h4
theorem getO_z {i : Int} (hz : zs.map Prod.fst = xs) (hq : getO xs i = some x) : ∃ h, getO zs i = some (x, h) := by
  subst hz
  unfold getO at hq ⊢
  split at hq
  · rename_i h0
    rw [if_pos h0]
    rw [List.getElem?_map] at hq
    obtain ⟨z, h1, h2⟩ := Option.map_eq_some_iff.1 hq
    exact ⟨z.2, by rw [h1, ← h2]⟩
  · cases hq
theorem zlen (hz : zs.map Prod.fst = xs) : zs.length = xs.length := by rw [← hz, List.length_map]
theorem zset (hz : zs.map Prod.fst = xs) : (zs.set i (x', h)).map Prod.fst = xs.set i x' := by rw [List.map_set, hz]
theorem zapp (hz : zs.map Prod.fst = xs) : (zs ++ [(x, h)]).map Prod.fst = xs ++ [x] := by rw [List.map_append, hz]; rfl
theorem set_get (hz : zs[i]? = some z) : (zs.set i z')[i]? = some z' := by
  have := (List.getElem?_eq_some_iff.1 hz).1; simp [this]
theorem set_erase : (zs.set i z').eraseIdx i = zs.eraseIdx i := List.eraseIdx_set_eq
variable {d : Nat} {ty : TypeId} {pos : String} {aft : Array Edge} {g : Option (Nat × Bool)} {o : Operand}
theorem TO.lenVwZ [WideF F] {tt te : TypeId} {Ls : List (α × η)} {vv : Value} {j : Nat} (hz : zs.map Prod.fst = xs) (hV : Vw vv Ls size j v zs) (hg : gd ops σ g = some true) (hd : d < N) (hx : ev σ o = some v) (ht : P.underlying tt = some (.slice te))
    (h : TO F P w0 K N dfs ops Q rest ((d, .int .i64 (xs.length : Int)) :: σ) L) : TO F P w0 K N dfs ops Q (⟨some d, .call { callee := .builtin .len, args := #[o], argTypes := #[tt] }, ty, pos, aft, g⟩ :: rest) σ L :=
  TO.lenVw hV hg hd hx ht (by rw [zlen hz]; exact h)
theorem TC.nameHd {ε : Type} {enc1 : ε → List Value} {ys : List ε} (hk : L[k]? = some (vec enc1 e size v ys)) (hh : ∀ hd : Hd, v = hd.v → TC F P w0 K N dfs Q c σ L) : TC F P w0 K N dfs Q c σ L := fun a w ha hw => by
  obtain ⟨C, hv, _⟩ := hw.focus hk
  obtain ⟨q, cc, he⟩ := Vec.len hv
  exact hh ⟨q, ys.length, cc⟩ he a w ha hw
theorem TC.newByt (h : TC F P w0 K N dfs Q c σ (L ++ [byt e (.slice none 0 0) ⟨#[]⟩])) : TC F P w0 K N dfs Q c σ L := fun a w ha hw =>
  h a w ha (hw.grow (C' := fun _ => False) (Ext.refl _ _) (sepL.one (A := byt e (.slice none 0 0) ⟨#[]⟩) Byt.nil))
theorem TX.newN (hh : TX w0 K N dfs Q ex σ (L ++ [vecN enc nest e size (.slice none 0 0) ([] : List α)])) : TX w0 K N dfs Q ex σ L := fun a w ha hw =>
  hh a w ha (hw.grow (C' := fun _ => False) (Ext.refl _ _) (by obtain ⟨_, _, h⟩ := Entl.nilN (enc := enc) (nest := nest) (e := e) (size := size) (fun _ => False) w (fun _ h => h); exact h))
theorem TC.newN (hh : TC F P w0 K N dfs Q c σ (L ++ [vecN enc nest e size (.slice none 0 0) ([] : List α)])) : TC F P w0 K N dfs Q c σ L := fun a w ha hw =>
  hh a w ha (hw.grow (C' := fun _ => False) (Ext.refl _ _) (by obtain ⟨_, _, h⟩ := Entl.nilN (enc := enc) (nest := nest) (e := e) (size := size) (fun _ => False) w (fun _ h => h); exact h))
theorem TO.newN (hh : TO F P w0 K N dfs ops Q rest σ (L ++ [vecN enc nest e size (.slice none 0 0) ([] : List α)])) : TO F P w0 K N dfs ops Q rest σ L := fun a w ha hw =>
  hh a w ha (hw.grow (C' := fun _ => False) (Ext.refl _ _) (by obtain ⟨_, _, h⟩ := Entl.nilN (enc := enc) (nest := nest) (e := e) (size := size) (fun _ => False) w (fun _ h => h); exact h))
theorem flat_setE {ε : Type} {enc1 : ε → List Value} {q1 q2 : ε} (he : enc1 q1 = enc1 q2) : ∀ (ys : List ε) (i : Nat), (ys.set i q1).flatMap enc1 = (ys.set i q2).flatMap enc1
  | [], i => rfl
  | y :: ys, 0 => by simp [he]
  | y :: ys, i + 1 => by simp [flat_setE he ys i]
/-- What is not to be seen in the cells may differ. -/
theorem vec_setE {ε : Type} {enc1 : ε → List Value} {ys zs : List ε} {q1 q2 : ε} (hz : zs = ys.set i q1) (hlen : ∀ x, (enc1 x).length = size) (he : enc1 q1 = enc1 q2) : Ent (vec enc1 e size v zs) (vec enc1 e size v (ys.set i q2)) := by
  subst hz
  rintro C w ⟨h1, h3⟩
  refine ⟨?_, h3⟩
  have hf := flat_setE he ys i
  have hl : (ys.set i q1).length = (ys.set i q2).length := by simp
  unfold Rw at h1 ⊢
  rw [← hf, ← hl]; exact h1
/-- A slice of one record that was a box is a box again. -/
theorem boxE {b : Nat} {ε : Type} {enc1 : ε → List Value} {y : ε} (hlen : ∀ x, (enc1 x).length = size) : Ent (vec enc1 e size (.slice (some ⟨b, 0, none⟩) 1 1) [y]) (cells b (enc1 y) e) := by
  intro C w h
  obtain ⟨_, _, h'⟩ := Entl.fromVec (enc1 := enc1) (e := e) (size := size) (b := b) (y := y) hlen C w (sepL.one1.2 h)
  exact sepL.one1.1 h'
end
end Go.Proofs.Ytlamcpgnmeileaa
namespace Go.Proofs.Ytlamcpgnmeileaa
open Go.RowKit Go.Lib Go.MapKept
set_option linter.unusedVariables false
set_option linter.unusedSimpArgs false
/-- A map in plain Lean: the last that is put is found. -/
def getM {κ ν : Type} [DecidableEq κ] (k : κ) : List (κ × ν) → Option ν
  | [] => none
  | p :: l => if k = p.1 then some p.2 else getM k l
def putM {κ ν : Type} [DecidableEq κ] (k : κ) (v : ν) : List (κ × ν) → List (κ × ν)
  | [] => [(k, v)]
  | p :: l => if k = p.1 then (k, v) :: l else p :: putM k v l
def idxM {κ : Type} [DecidableEq κ] (k : κ) : List κ → Nat → Option Nat
  | [], _ => none
  | p :: l, i => if k = p then some i else idxM k l (i + 1)
/-- What is asked of keys. -/
structure KeyOk (P : Program) (kt : TypeId) {κ : Type} [DecidableEq κ] (ek : κ → Value) : Prop where
  check : ∀ em k (w : World), (Instr.checkKey em 10000 kt (ek k)).run P w = .ok () w
  find : ∀ (es : List MapEntry) (ks : List κ) k (w : World), es.map (·.key) = ks.map ek → (Instr.findKey kt (ek k) es).run P w = .ok ((idxM k ks 0).map fun i => (i, ((es[i]?).map (·.val)).getD default)) w
  same : ∀ k, Instr.sameBits 10000 (ek k) (ek k) = true
theorem idxM_succ {κ : Type} [DecidableEq κ] (k : κ) : ∀ (l : List κ) (i : Nat), idxM k l (i + 1) = (idxM k l i).map (· + 1)
  | [], i => rfl
  | p :: l, i => by unfold idxM; split <;> simp [idxM_succ k l (i + 1)]
theorem find_cons {κ : Type} [DecidableEq κ] (k p : κ) (e : MapEntry) (es : List MapEntry) (ks : List κ) (n : Nat) :
    ((idxM k (p :: ks) 0).map fun i => (i + n, (((e :: es)[i]?).map (·.val)).getD default)) = if k = p then some (n, e.val) else (idxM k ks 0).map fun i => (i + (n + 1), ((es[i]?).map (·.val)).getD default) := by
  have e : idxM k (p :: ks) 0 = if k = p then some 0 else idxM k ks (0 + 1) := rfl
  rw [e]
  split
  · simp
  · rw [idxM_succ, Option.map_map]; congr 1; funext i; simp [Nat.add_assoc, Nat.add_comm 1 n]
theorem KeyOk.int {P : Program} {kt : TypeId} {kd : IntKind} (h : P.underlying kt = some (.int kd)) : KeyOk P kt (fun n : Int => Value.int kd n) where
  check := fun em k w => run_checkKey h (show IsKey (.int kd) (.int kd k) by simp [IsKey]) em 9999
  find := fun es ks k w hk => run_findKey h (by
    have : ∀ (es : List MapEntry) (ks : List Int) (n : Nat), es.map (·.key) = ks.map (fun n : Int => Value.int kd n) → Instr.findNow (.int kd) (.int kd k) es n = some ((idxM k ks 0).map fun i => (i + n, ((es[i]?).map (·.val)).getD default)) := by
      intro es
      induction es with
      | nil => intro ks n h; cases ks with
        | nil => rfl
        | cons _ _ => simp at h
      | cons e es ih => intro ks n h; cases ks with
        | nil => simp at h
        | cons p ks =>
          simp only [List.map_cons, List.cons.injEq] at h
          rw [find_cons]
          have hs : Instr.sameNow (.int kd) (.int kd k) e.key = some (k == p) := by rw [h.1]; simp [Instr.sameNow]
          unfold Instr.findNow
          rw [hs]
          by_cases hp : k = p
          · subst hp; simp
          · have : (k == p) = false := by simpa using hp
            rw [this, if_neg hp]; exact ih ks (n + 1) h.2
    exact this es ks 0 hk)
  same := fun k => by simp [Instr.sameBits]
/-- A pair of numbers as an array. -/
theorem part_int0 {P : Program} {t : TypeId} {kd : IntKind} {xs : Array Value} {j : Nat} {v : Value} {w : World} (h : P.underlying t = some (.int kd)) (hv : xs[j]? = some v) : (part t xs j).run P w = .ok v w := by
  simp [part, Sem.run_bind, run_underlying h, hv, isAgg]
theorem run_equal_arr2 {P : Program} {t e : TypeId} {kd : IntKind} (ht : P.underlying t = some (.array 2 e)) (he : P.underlying e = some (.int kd)) (hs : SizeOk P e 1) {a b a' b' : Int} (w : World) :
    (Op.equalIn 10000 t (.agg #[.int kd a, .int kd b]) (.agg #[.int kd a', .int kd b'])).run P w = .ok (a == a' && b == b') w := by
  obtain ⟨i, hi, hsz⟩ := hs.some
  have h1 : ∀ (d : Nat) (x y : Int), (Op.equalIn (d + 1) e (.int kd x) (.int kd y)).run P w = .ok (x == y) w := fun d x y => run_equalIn_int w d e kd kd x y he
  have p1 : ∀ (x y : Int), (part e #[.int kd x, .int kd y] 0).run P w = .ok (.int kd x) w := fun x y => part_int0 he rfl
  have p2 : ∀ (x y : Int), (part e #[.int kd x, .int kd y] 1).run P w = .ok (.int kd y) w := fun x y => part_int0 he rfl
  have hc : P.cellsOf e = 1 := by simp [Program.cellsOf, hi, hsz]
  have key : ∀ d : Nat, (Op.equalIn (d + 1 + 1) t (.agg #[.int kd a, .int kd b]) (.agg #[.int kd a', .int kd b'])).run P w = .ok (a == a' && b == b') w := fun d => by
    unfold Op.equalIn
    simp only [Sem.run_bind, run_underlying ht, Result.andThen_ok, run_sizeOf w hi]
    simp only [Std.Legacy.Range.forIn_eq_forIn_range', Std.Legacy.Range.size, Nat.sub_zero, Nat.add_one_sub_one, Nat.div_one, hsz, List.range'_succ, List.range'_zero, List.forIn_cons, List.forIn_nil, Sem.run_bind, Result.andThen_ok, Nat.zero_mul, Nat.zero_add, Nat.one_mul, p1, p2, h1, Nat.mul_one]
    cases h : (a == a') <;> cases h2 : (b == b') <;> simp [Sem.run_bind, p1, p2, h1, h, h2, hc]
  exact key 9998
theorem KeyOk.arr2 {P : Program} {kt e : TypeId} {kd : IntKind} {κ : Type} [DecidableEq κ] {f0 f1 : κ → Int} (hinj : ∀ a b : κ, f0 a = f0 b → f1 a = f1 b → a = b)
    (ht : P.underlying kt = some (.array 2 e)) (he : P.underlying e = some (.int kd)) (hs : SizeOk P e 1) : KeyOk P kt (fun p : κ => Value.agg #[.int kd (f0 p), .int kd (f1 p)]) where
  check := fun em k w => by
    obtain ⟨i, hi, hsz⟩ := hs.some
    have hc : P.cellsOf e = 1 := by simp [Program.cellsOf, hi, hsz]
    have h1 : ∀ (n : Nat) (x : Int), (Instr.checkKey em (n + 1) e (.int kd x)).run P w = .ok () w := fun n x => run_checkKey he (show IsKey (.int kd) (.int kd x) by simp [IsKey]) em n
    have p1 : ∀ (x y : Int), (part e #[.int kd x, .int kd y] 0).run P w = .ok (.int kd x) w := fun x y => part_int0 he rfl
    have p2 : ∀ (x y : Int), (part e #[.int kd x, .int kd y] 1).run P w = .ok (.int kd y) w := fun x y => part_int0 he rfl
    have key : ∀ n : Nat, (Instr.checkKey em (n + 1 + 1) kt (.agg #[.int kd (f0 k), .int kd (f1 k)])).run P w = .ok () w := fun n => by
      unfold Instr.checkKey
      simp only [Sem.run_bind, run_underlying ht, Result.andThen_ok]
      simp only [Std.Legacy.Range.forIn_eq_forIn_range', Std.Legacy.Range.size, Nat.sub_zero, Nat.add_one_sub_one, Nat.div_one, List.range'_succ, List.range'_zero, List.forIn_cons, List.forIn_nil, Sem.run_bind, run_sizeOf w hi, hsz, Result.andThen_ok, Nat.zero_mul, Nat.zero_add, Nat.one_mul, p1, p2, h1, Nat.mul_one]
      simp [Sem.run_bind, run_sizeOf w hi, hsz, p1, p2, h1, hc]
    exact key 9998
  find := fun es ks k w hk => by
    have hA : ∀ (es : List MapEntry) (ks : List κ) (n : Nat), es.map (·.key) = ks.map (fun p : κ => Value.agg #[.int kd (f0 p), .int kd (f1 p)]) → (Instr.findAsking kt (.agg #[.int kd (f0 k), .int kd (f1 k)]) es n).run P w = .ok ((idxM k ks 0).map fun i => (i + n, ((es[i]?).map (·.val)).getD default)) w := by
      intro es
      induction es with
      | nil => intro ks n h; cases ks with
        | nil => rfl
        | cons _ _ => simp at h
      | cons e' es ih => intro ks n h; cases ks with
        | nil => simp at h
        | cons p ks =>
          simp only [List.map_cons, List.cons.injEq] at h
          rw [find_cons]
          unfold Instr.findAsking
          rw [h.1]
          have he2 : (Op.equal kt (.agg #[.int kd (f0 k), .int kd (f1 k)]) (.agg #[.int kd (f0 p), .int kd (f1 p)])).run P w = .ok (f0 k == f0 p && f1 k == f1 p) w := run_equal_arr2 ht he hs w
          simp only [Sem.run_bind, he2, Result.andThen_ok]
          by_cases hp : k = p
          · subst hp; simp
          · have : (f0 k == f0 p && f1 k == f1 p) = false := by
              cases h' : (f0 k == f0 p && f1 k == f1 p) with
              | false => rfl
              | true => simp at h'; exact absurd (hinj _ _ h'.1 h'.2) hp
            rw [this, if_neg hp]; exact ih ks (n + 1) h.2
    have hA := hA es ks 0 hk
    unfold Instr.findKey
    simp only [Sem.run_bind, run_underlying ht, Result.andThen_ok]
    cases es with
    | nil => cases ks with
      | nil => rfl
      | cons _ _ => simp at hk
    | cons e' es => cases ks with
      | nil => simp at hk
      | cons p ks =>
        simp only [List.map_cons, List.cons.injEq] at hk
        have : Instr.findNow (.array 2 e) (.agg #[.int kd (f0 k), .int kd (f1 k)]) (e' :: es) 0 = none := by
          unfold Instr.findNow; rw [hk.1]; rfl
        rw [this]; exact hA
  same := fun k => by simp [Instr.sameBits]
/-- The map b holds L. -/
def mapA {κ ν : Type} (ek : κ → Value) (ev : ν → Value) (b : Nat) (L : List (κ × ν)) : Asn :=
  exA fun z : {z : Array MapEntry × Nat // z.1.toList.map (fun e => (e.key, e.val)) = L.map (fun p => (ek p.1, ev p.2))} => obj b (.map z.1.1 z.1.2)
theorem getM_idx {κ ν : Type} [DecidableEq κ] (k : κ) : ∀ (L : List (κ × ν)), ((idxM k (L.map Prod.fst) 0).bind fun i => (L[i]?).map Prod.snd) = getM k L
  | [] => rfl
  | p :: L => by
    have e : idxM k ((p :: L).map Prod.fst) 0 = if k = p.1 then some 0 else idxM k (L.map Prod.fst) (0 + 1) := rfl
    rw [e]; unfold getM
    split
    · simp
    · rw [idxM_succ, ← getM_idx k L]; cases idxM k (L.map Prod.fst) 0 <;> simp
theorem idxM_lt {κ : Type} [DecidableEq κ] (k : κ) : ∀ (L : List κ) (i n : Nat), idxM k L i = some n → i ≤ n ∧ n < i + L.length ∧ L[n - i]? = some k
  | [], i, n, h => by cases h
  | p :: L, i, n, h => by
    unfold idxM at h
    split at h
    · rename_i hp; cases h; subst hp; simp
    · obtain ⟨h1, h2, h3⟩ := idxM_lt k L (i + 1) n h
      refine ⟨by omega, by simp; omega, ?_⟩
      rw [show n - i = (n - (i + 1)) + 1 by omega]; simpa using h3
theorem putM_idx {κ ν : Type} [DecidableEq κ] (k : κ) (v : ν) : ∀ (L : List (κ × ν)), putM k v L = match idxM k (L.map Prod.fst) 0 with | some i => L.set i (k, v) | none => L ++ [(k, v)]
  | [] => rfl
  | p :: L => by
    have e : idxM k ((p :: L).map Prod.fst) 0 = if k = p.1 then some 0 else idxM k (L.map Prod.fst) (0 + 1) := rfl
    rw [e]; unfold putM
    by_cases h : k = p.1
    · rw [if_pos h, if_pos h]; rfl
    · rw [if_neg h, if_neg h, idxM_succ, putM_idx k v L]; cases idxM k (L.map Prod.fst) 0 <;> rfl
section
variable {F : Fence} {P : Program} {w0 : World} {K : Nat → Prop} {N : Nat} {dfs : List Deferred} {ops : Array Oper} {Q : Exit → Act → World → Prop} {rest : List Oper} {σ : List (Nat × Value)} {L : List Asn}
  {d : Nat} {ty : TypeId} {pos : String} {aft : Array Edge} {g : Option (Nat × Bool)} {x y z : Operand} {k b : Nat} {κ ν : Type} [DecidableEq κ] {ek : κ → Value} {ev' : ν → Value} {mt kt et : TypeId} {M : List (κ × ν)}
omit [DecidableEq κ] in
theorem TO.makeMap [WideF F] (ek : κ → Value) (ev' : ν → Value) (hg : gd ops σ g = some true) (hd : d < N)
    (h : ∀ b, TO F P w0 K N dfs ops Q rest ((d, .map (some b)) :: σ) (L ++ [mapA ek ev' b []])) : TO F P w0 K N dfs ops Q (⟨some d, .makeMap mt none, ty, pos, aft, g⟩ :: rest) σ L :=
  TO.step hg (by simp) fun a w ha hw => ⟨.map (some w.heap.size), w.alloc (.map #[] 0), by simp [execOp, Instr.makeMap, Sem.run_bind], h _ _ _ (ha.put hd _) (by
    have h1 := hw.alloc (.map #[] 0)
    have h2 := h1.ent (k := L.length) (A := obj w.heap.size (.map #[] 0)) (B := mapA ek ev' w.heap.size []) (by simp) (fun C w' hp => ⟨⟨(#[], 0), rfl⟩, hp⟩)
    simpa using h2)⟩
theorem TO.mapUpdate [WideF F] {kk : κ} {vv : ν} (hK : KeyOk P kt ek) (ht : P.underlying mt = some (.map kt et)) (hg : gd ops σ g = some true) (hx : ev σ x = some (.map (some b))) (hy : ev σ y = some (ek kk)) (hz : ev σ z = some (ev' vv))
    (hk : L[k]? = some (mapA ek ev' b M)) (h : TO F P w0 K N dfs ops Q rest σ (L.set k (mapA ek ev' b (putM kk vv M)))) : TO F P w0 K N dfs ops Q (⟨none, .mapUpdate mt x y z, ty, pos, aft, g⟩ :: rest) σ L :=
  TO.stepSkip hg (by simp) fun a w ha hw => by
    obtain ⟨C1, ⟨⟨⟨es, clock⟩, hes⟩, hC, hb⟩, hset⟩ := hw.focus hk
    have hb : w.heap[b]? = some (.map es clock) := hb
    have hes : es.toList.map (fun e => (e.key, e.val)) = M.map (fun p => (ek p.1, ev' p.2)) := hes
    have hkeys : es.toList.map (·.key) = (M.map Prod.fst).map ek := by
      have := congrArg (List.map Prod.fst) hes
      simpa [List.map_map, Function.comp_def] using this
    have hfind := hK.find es.toList (M.map Prod.fst) kk w hkeys
    have hput := putM_idx kk vv M
    have hlen : es.toList.length = M.length := by have := congrArg List.length hes; simpa using this
    have fin : ∀ o' : Obj, (∀ C' w', (∀ k, C' k ↔ k = b) → w'.heap[b]? = some o' → (mapA ek ev' b (putM kk vv M)).P C' w') → Holds w0 K (L.set k (mapA ek ev' b (putM kk vv M))) (w.putObj b o') := fun o' ho =>
      hset _ C1 _ ⟨(Fr.refl _ _).putObj (.inl ((hC b).2 rfl)) _, fun k hk => .inl hk⟩ (ho _ _ hC (World.putObj_heap_same (lt_of_some hb)))
    have ex := ha.ev hx; have ey := ha.ev hy; have ez := ha.ev hz
    cases hi : idxM kk (M.map Prod.fst) 0 with
    | none =>
      rw [hi] at hfind hput
      refine ⟨w.putObj b (.map (es.push { key := ek kk, val := ev' vv, born := clock }) (clock + 1)), ?_, h _ _ ha (fin _ fun C' w' h1 h2 => ⟨⟨(_, _), ?_⟩, h1, h2⟩)⟩
      · simp [execOp, ex, ey, ez, Instr.mapUpdate, run_underlying ht, Go.MapKept.run_getObj_map hb, hK.check, hfind, run_setObj_map _ hb, Sem.run_bind, World.putObj]
      · simp [hput, hes]
    | some i =>
      rw [hi] at hfind hput
      obtain ⟨_, h2, h3⟩ := idxM_lt kk _ _ _ hi
      simp at h2
      have h3 : (M.map Prod.fst)[i]? = some kk := by simpa using h3
      have hie : i < es.toList.length := by omega
      have hkey : (es[i]?).map (·.key) = some (ek kk) := by
        have := congrArg (fun l => l[i]?) hkeys
        simp only [List.getElem?_map] at this
        rw [show es[i]? = es.toList[i]? by simp, this]
        have h4 : M[i]?.map Prod.fst = some kk := by simpa using h3
        rw [h4]; rfl
      refine ⟨w.putObj b (.map (es.modify i fun e => { e with key := ek kk, val := ev' vv }) clock), ?_, h _ _ ha (fin _ fun C' w' h1 h2 => ⟨⟨(es.modify i fun e => { e with key := ek kk, val := ev' vv }, clock), ?_⟩, h1, h2⟩)⟩
      · have hst : (Instr.keyThatStays (ek kk) (ek kk)).run P w = .ok (ek kk) w := by simp [Instr.keyThatStays, hK.same]
        simp [execOp, ex, ey, ez, Instr.mapUpdate, run_underlying ht, Go.MapKept.run_getObj_map hb, hK.check, hfind, hkey, hst, run_setObj_map _ hb, Sem.run_bind, World.putObj]
      · show List.map (fun e => (e.key, e.val)) (es.modify i fun e => { e with key := ek kk, val := ev' vv }).toList = _
        rw [hput]
        apply List.ext_getElem?
        intro j
        have hj := congrArg (fun l => l[j]?) hes
        simp only [List.getElem?_map] at hj
        simp only [Array.toList_modify, List.getElem?_map, List.getElem?_modify, List.getElem?_set]
        by_cases hji : i = j
        · subst hji
          have h5 : es.toList[i]? = some es.toList[i] := List.getElem?_eq_getElem hie
          simp [h5, show i < M.length by omega] 
        · simp [hji]; simpa using hj
theorem TO.lookupOk [WideF F] {kk : κ} {z0 : ν} (hK : KeyOk P kt ek) (ht : P.underlying mt = some (.map kt et)) (hz0 : (P.info? et).bind (fun i => i.zero) = some (ev' z0)) (hg : gd ops σ g = some true) (hd : d < N) (hx : ev σ x = some (.map (some b))) (hy : ev σ y = some (ek kk))
    (hk : L[k]? = some (mapA ek ev' b M)) (h : TO F P w0 K N dfs ops Q rest ((d, .tuple #[ev' ((getM kk M).getD z0), .bool (getM kk M).isSome]) :: σ) L) : TO F P w0 K N dfs ops Q (⟨some d, .lookup mt x y true, ty, pos, aft, g⟩ :: rest) σ L :=
  TO.val hg hd (by simp) (fun a w ha hw => by
    obtain ⟨C1, ⟨⟨⟨es, clock⟩, hes⟩, hC, hb⟩, hset⟩ := hw.focus hk
    have hb : w.heap[b]? = some (.map es clock) := hb
    have hes : es.toList.map (fun e => (e.key, e.val)) = M.map (fun p => (ek p.1, ev' p.2)) := hes
    have hkeys : es.toList.map (·.key) = (M.map Prod.fst).map ek := by
      have := congrArg (List.map Prod.fst) hes
      simpa [List.map_map, Function.comp_def] using this
    have hfind := hK.find es.toList (M.map Prod.fst) kk w hkeys
    have ex := ha.ev hx; have ey := ha.ev hy
    have hzero : (zeroValue et).run P w = .ok (ev' z0) w := by
      cases hi : P.info? et with
      | none => rw [hi] at hz0; cases hz0
      | some i =>
        rw [hi] at hz0
        have hz1 : i.zero = some (ev' z0) := hz0
        simp [zeroValue, typeInfo, hi, hz1, Sem.run_bind]
    rw [← getM_idx kk M]
    cases hi : idxM kk (M.map Prod.fst) 0 with
    | none =>
      rw [hi] at hfind
      simp [execOp, ex, ey, Instr.lookup, run_underlying ht, Go.MapKept.run_getObj_map hb, hK.check, hfind, hzero, Sem.run_bind]
    | some i =>
      rw [hi] at hfind
      obtain ⟨_, h2, h3⟩ := idxM_lt kk _ _ _ hi
      simp at h2
      have hj := congrArg (fun l => (l[i]?).map Prod.snd) hes
      simp only [List.getElem?_map, Option.map_map, Function.comp_def] at hj
      have hM : M[i]? = some M[i] := List.getElem?_eq_getElem h2
      have hv : (es.toList[i]?).map (·.val) = some (ev' M[i].2) := by rw [hj, hM]; rfl
      have hv2 : (es[i]?).map (·.val) = some (ev' M[i].2) := by simpa using hv
      simp [execOp, ex, ey, Instr.lookup, run_underlying ht, Go.MapKept.run_getObj_map hb, hK.check, hfind, hv2, hM, Sem.run_bind]) h
end
end Go.Proofs.Ytlamcpgnmeileaa
namespace Go.Proofs.Ytlamcpgnmeileaa
open Go.RowKit Go.Lib Go.Shelf
theorem sc_3 : ScalarOk Try.prog 3 := ⟨_, Try.underlying3, rfl⟩
theorem sc_4 : ScalarOk Try.prog 4 := ⟨_, Try.underlying4, rfl⟩
theorem sc_5 : ScalarOk Try.prog 5 := ⟨_, Try.underlying5, rfl⟩
theorem by_5 : ByteOk Try.prog 5 := ByteOk.mk' (by as_aux_lemma => kernel_rfl)
theorem sc_9 : ScalarOk Try.prog 9 := ⟨_, Try.underlying9, rfl⟩
theorem sz_9 : SizeOk Try.prog 9 1 := by unfold SizeOk; as_aux_lemma => kernel_rfl
theorem sc_21 : ScalarOk Try.prog 21 := ⟨_, Try.underlying21, rfl⟩
theorem sz_21 : SizeOk Try.prog 21 1 := by unfold SizeOk; as_aux_lemma => kernel_rfl
theorem el_21 : ElemOk Try.prog 21 1 := ElemOk.mk' (by as_aux_lemma => kernel_rfl)
theorem sc_42 : ScalarOk Try.prog 42 := ⟨_, Try.underlying42, rfl⟩
theorem sz_42 : SizeOk Try.prog 42 1 := by unfold SizeOk; as_aux_lemma => kernel_rfl
theorem zr_42 : ZeroOk Try.prog 42 [.slice none 0 0] := by unfold ZeroOk; as_aux_lemma => kernel_rfl
theorem sc_44 : ScalarOk Try.prog 44 := ⟨_, Try.underlying44, rfl⟩
theorem sz_44 : SizeOk Try.prog 44 1 := by unfold SizeOk; as_aux_lemma => kernel_rfl
theorem rw_46 : RowOk Try.prog 46 5 := ⟨_, Try.underlying46, rfl, by as_aux_lemma => kernel_rfl⟩
theorem fl_46_1 : FieldOk Try.prog 46 1 1 := ⟨_, _, Try.underlying46, rfl, rfl, by as_aux_lemma => kernel_rfl⟩
theorem fl_46_2 : FieldOk Try.prog 46 2 2 := ⟨_, _, Try.underlying46, rfl, rfl, by as_aux_lemma => kernel_rfl⟩
theorem fl_46_3 : FieldOk Try.prog 46 3 3 := ⟨_, _, Try.underlying46, rfl, rfl, by as_aux_lemma => kernel_rfl⟩
theorem fl_46_4 : FieldOk Try.prog 46 4 4 := ⟨_, _, Try.underlying46, rfl, rfl, by as_aux_lemma => kernel_rfl⟩
theorem sz_46 : SizeOk Try.prog 46 5 := by unfold SizeOk; as_aux_lemma => kernel_rfl
theorem zr_46 : ZeroOk Try.prog 46 [.int .i64 0, .int .u8 0, .int .i32 0, .slice none 0 0, .slice none 0 0] := by unfold ZeroOk; as_aux_lemma => kernel_rfl
theorem el_46 : ElemOk Try.prog 46 5 := ElemOk.mk' (by as_aux_lemma => kernel_rfl)
theorem rw_55 : RowOk Try.prog 55 4 := ⟨_, Try.underlying55, rfl, by as_aux_lemma => kernel_rfl⟩
theorem fl_55_0 : FieldOk Try.prog 55 0 0 := ⟨_, _, Try.underlying55, rfl, rfl, by as_aux_lemma => kernel_rfl⟩
theorem fl_55_2 : FieldOk Try.prog 55 2 2 := ⟨_, _, Try.underlying55, rfl, rfl, by as_aux_lemma => kernel_rfl⟩
theorem fl_55_3 : FieldOk Try.prog 55 3 3 := ⟨_, _, Try.underlying55, rfl, rfl, by as_aux_lemma => kernel_rfl⟩
theorem sz_55 : SizeOk Try.prog 55 4 := by unfold SizeOk; as_aux_lemma => kernel_rfl
theorem zr_55 : ZeroOk Try.prog 55 [.int .i64 0, .int .i64 0, .int .i32 0, .bool false] := by unfold ZeroOk; as_aux_lemma => kernel_rfl
theorem sc_66 : ScalarOk Try.prog 66 := ⟨_, Try.underlying66, rfl⟩
theorem sz_66 : SizeOk Try.prog 66 1 := by unfold SizeOk; as_aux_lemma => kernel_rfl
theorem zr_66 : ZeroOk Try.prog 66 [.map none] := by unfold ZeroOk; as_aux_lemma => kernel_rfl
theorem sc_67 : ScalarOk Try.prog 67 := ⟨_, Try.underlying67, rfl⟩
theorem sz_67 : SizeOk Try.prog 67 1 := by unfold SizeOk; as_aux_lemma => kernel_rfl
theorem zr_67 : ZeroOk Try.prog 67 [.map none] := by unfold ZeroOk; as_aux_lemma => kernel_rfl
theorem rw_73 : RowOk Try.prog 73 2 := ⟨_, Try.underlying73, rfl, by as_aux_lemma => kernel_rfl⟩
theorem sz_73 : SizeOk Try.prog 73 2 := by unfold SizeOk; as_aux_lemma => kernel_rfl
theorem zr_73 : ZeroOk Try.prog 73 [.int .i32 0, .int .i32 0] := by unfold ZeroOk; as_aux_lemma => kernel_rfl
theorem en_7 : ∀ args w, (callFunc 7 args).run Try.prog w = .ok (.enter 7 args) w := enters_of Try.func7 (by as_aux_lemma => kernel_rfl) rfl
theorem en_10 : ∀ args w, (callFunc 10 args).run Try.prog w = .ok (.enter 10 args) w := enters_of Try.func10 (by as_aux_lemma => kernel_rfl) rfl
theorem en_11 : ∀ args w, (callFunc 11 args).run Try.prog w = .ok (.enter 11 args) w := enters_of Try.func11 (by as_aux_lemma => kernel_rfl) rfl
theorem en_16 : ∀ args w, (callFunc 16 args).run Try.prog w = .ok (.enter 16 args) w := enters_of Try.func16 (by as_aux_lemma => kernel_rfl) rfl
theorem en_18 : ∀ args w, (callFunc 18 args).run Try.prog w = .ok (.enter 18 args) w := enters_of Try.func18 (by as_aux_lemma => kernel_rfl) rfl
theorem en_19 : ∀ args w, (callFunc 19 args).run Try.prog w = .ok (.enter 19 args) w := enters_of Try.func19 (by as_aux_lemma => kernel_rfl) rfl
theorem en_20 : ∀ args w, (callFunc 20 args).run Try.prog w = .ok (.enter 20 args) w := enters_of Try.func20 (by as_aux_lemma => kernel_rfl) rfl
theorem en_21 : ∀ args w, (callFunc 21 args).run Try.prog w = .ok (.enter 21 args) w := enters_of Try.func21 (by as_aux_lemma => kernel_rfl) rfl
theorem en_22 : ∀ args w, (callFunc 22 args).run Try.prog w = .ok (.enter 22 args) w := enters_of Try.func22 (by as_aux_lemma => kernel_rfl) rfl
theorem en_23 : ∀ args w, (callFunc 23 args).run Try.prog w = .ok (.enter 23 args) w := enters_of Try.func23 (by as_aux_lemma => kernel_rfl) rfl
theorem en_24 : ∀ args w, (callFunc 24 args).run Try.prog w = .ok (.enter 24 args) w := enters_of Try.func24 (by as_aux_lemma => kernel_rfl) rfl
theorem en_25 : ∀ args w, (callFunc 25 args).run Try.prog w = .ok (.enter 25 args) w := enters_of Try.func25 (by as_aux_lemma => kernel_rfl) rfl
theorem en_26 : ∀ args w, (callFunc 26 args).run Try.prog w = .ok (.enter 26 args) w := enters_of Try.func26 (by as_aux_lemma => kernel_rfl) rfl
theorem en_39 : ∀ args w, (callFunc 39 args).run Try.prog w = .ok (.enter 39 args) w := enters_of Try.func39 (by as_aux_lemma => kernel_rfl) rfl
theorem en_40 : ∀ args w, (callFunc 40 args).run Try.prog w = .ok (.enter 40 args) w := enters_of Try.func40 (by as_aux_lemma => kernel_rfl) rfl
theorem en_41 : ∀ args w, (callFunc 41 args).run Try.prog w = .ok (.enter 41 args) w := enters_of Try.func41 (by as_aux_lemma => kernel_rfl) rfl
theorem en_42 : ∀ args w, (callFunc 42 args).run Try.prog w = .ok (.enter 42 args) w := enters_of Try.func42 (by as_aux_lemma => kernel_rfl) rfl
theorem en_43 : ∀ args w, (callFunc 43 args).run Try.prog w = .ok (.enter 43 args) w := enters_of Try.func43 (by as_aux_lemma => kernel_rfl) rfl
theorem en_49 : ∀ args w, (callFunc 49 args).run Try.prog w = .ok (.enter 49 args) w := enters_of Try.func49 (by as_aux_lemma => kernel_rfl) rfl
theorem en_50 : ∀ args w, (callFunc 50 args).run Try.prog w = .ok (.enter 50 args) w := enters_of Try.func50 (by as_aux_lemma => kernel_rfl) rfl
theorem en_51 : ∀ args w, (callFunc 51 args).run Try.prog w = .ok (.enter 51 args) w := enters_of Try.func51 (by as_aux_lemma => kernel_rfl) rfl
theorem en_52 : ∀ args w, (callFunc 52 args).run Try.prog w = .ok (.enter 52 args) w := enters_of Try.func52 (by as_aux_lemma => kernel_rfl) rfl
theorem en_59 : ∀ args w, (callFunc 59 args).run Try.prog w = .ok (.enter 59 args) w := enters_of Try.func59 (by as_aux_lemma => kernel_rfl) rfl
theorem en_66 : ∀ args w, (callFunc 66 args).run Try.prog w = .ok (.enter 66 args) w := enters_of Try.func66 (by as_aux_lemma => kernel_rfl) rfl
theorem en_73 : ∀ args w, (callFunc 73 args).run Try.prog w = .ok (.enter 73 args) w := enters_of Try.func73 (by as_aux_lemma => kernel_rfl) rfl
theorem en_74 : ∀ args w, (callFunc 74 args).run Try.prog w = .ok (.enter 74 args) w := enters_of Try.func74 (by as_aux_lemma => kernel_rfl) rfl
theorem en_81 : ∀ args w, (callFunc 81 args).run Try.prog w = .ok (.enter 81 args) w := enters_of Try.func81 (by as_aux_lemma => kernel_rfl) rfl
theorem mixed : Try.prog.follows .mixedOrders = true := by as_aux_lemma => kernel_rfl
end Go.Proofs.Ytlamcpgnmeileaa
namespace Go.Proofs.Ytlamcpgnmeileaa
open Go.RowKit Go.Lib
set_option linter.unusedSimpArgs false
@[ext] structure T_3_int where
  e0 : Int
  e1 : Int
  e2 : Int
def eq_T_3_int (a b : T_3_int) : Bool := (a.e0 == b.e0) && (a.e1 == b.e1) && (a.e2 == b.e2)
theorem eq_T_3_int_iff (a b : T_3_int) : eq_T_3_int a b = true ↔ a = b := by
  rcases a with ⟨a0, a1, a2⟩
  rcases b with ⟨b0, b1, b2⟩
  simp [eq_T_3_int, Bool.and_eq_true, and_assoc]
instance : DecidableEq T_3_int := fun a b => decidable_of_iff _ (eq_T_3_int_iff a b)
@[ext] structure Gapi_Span where
  From : Int
  To : Int
def eq_Gapi_Span (a b : Gapi_Span) : Bool := (a.From == b.From) && (a.To == b.To)
theorem eq_Gapi_Span_iff (a b : Gapi_Span) : eq_Gapi_Span a b = true ↔ a = b := by
  rcases a with ⟨a0, a1⟩
  rcases b with ⟨b0, b1⟩
  simp [eq_Gapi_Span, Bool.and_eq_true, and_assoc]
instance : DecidableEq Gapi_Span := fun a b => decidable_of_iff _ (eq_Gapi_Span_iff a b)
@[ext] structure T_6_string where
  e0 : ByteArray
  e1 : ByteArray
  e2 : ByteArray
  e3 : ByteArray
  e4 : ByteArray
  e5 : ByteArray
def eq_T_6_string (a b : T_6_string) : Bool := decide (a.e0 = b.e0) && decide (a.e1 = b.e1) && decide (a.e2 = b.e2) && decide (a.e3 = b.e3) && decide (a.e4 = b.e4) && decide (a.e5 = b.e5)
theorem eq_T_6_string_iff (a b : T_6_string) : eq_T_6_string a b = true ↔ a = b := by
  rcases a with ⟨a0, a1, a2, a3, a4, a5⟩
  rcases b with ⟨b0, b1, b2, b3, b4, b5⟩
  simp [eq_T_6_string, Bool.and_eq_true, and_assoc]
instance : DecidableEq T_6_string := fun a b => decidable_of_iff _ (eq_T_6_string_iff a b)
@[ext] structure Gref04_Item where
  Rune : Int
  Text : ByteArray
  At : Int
def eq_Gref04_Item (a b : Gref04_Item) : Bool := (a.Rune == b.Rune) && decide (a.Text = b.Text) && (a.At == b.At)
theorem eq_Gref04_Item_iff (a b : Gref04_Item) : eq_Gref04_Item a b = true ↔ a = b := by
  rcases a with ⟨a0, a1, a2⟩
  rcases b with ⟨b0, b1, b2⟩
  simp [eq_Gref04_Item, Bool.and_eq_true, and_assoc]
instance : DecidableEq Gref04_Item := fun a b => decidable_of_iff _ (eq_Gref04_Item_iff a b)
@[ext] structure Gapi_Piece where
  At : Int
  Width : Int
  Rune : Int
  Broken : Bool
def eq_Gapi_Piece (a b : Gapi_Piece) : Bool := (a.At == b.At) && (a.Width == b.Width) && (a.Rune == b.Rune) && (a.Broken == b.Broken)
theorem eq_Gapi_Piece_iff (a b : Gapi_Piece) : eq_Gapi_Piece a b = true ↔ a = b := by
  rcases a with ⟨a0, a1, a2, a3⟩
  rcases b with ⟨b0, b1, b2, b3⟩
  simp [eq_Gapi_Piece, Bool.and_eq_true, and_assoc]
instance : DecidableEq Gapi_Piece := fun a b => decidable_of_iff _ (eq_Gapi_Piece_iff a b)
@[ext] structure Gapi_Token where
  Kind : Int
  Span_From : Int
  Span_To : Int
def eq_Gapi_Token (a b : Gapi_Token) : Bool := (a.Kind == b.Kind) && (a.Span_From == b.Span_From) && (a.Span_To == b.Span_To)
theorem eq_Gapi_Token_iff (a b : Gapi_Token) : eq_Gapi_Token a b = true ↔ a = b := by
  rcases a with ⟨a0, a1, a2⟩
  rcases b with ⟨b0, b1, b2⟩
  simp [eq_Gapi_Token, Bool.and_eq_true, and_assoc]
instance : DecidableEq Gapi_Token := fun a b => decidable_of_iff _ (eq_Gapi_Token_iff a b)
@[ext] structure T_2_int32 where
  e0 : Int
  e1 : Int
def eq_T_2_int32 (a b : T_2_int32) : Bool := (a.e0 == b.e0) && (a.e1 == b.e1)
theorem eq_T_2_int32_iff (a b : T_2_int32) : eq_T_2_int32 a b = true ↔ a = b := by
  rcases a with ⟨a0, a1⟩
  rcases b with ⟨b0, b1⟩
  simp [eq_T_2_int32, Bool.and_eq_true, and_assoc]
instance : DecidableEq T_2_int32 := fun a b => decidable_of_iff _ (eq_T_2_int32_iff a b)
@[ext] structure Gfold_pair where
  e0 : Int
  e1 : Int
def eq_Gfold_pair (a b : Gfold_pair) : Bool := (a.e0 == b.e0) && (a.e1 == b.e1)
theorem eq_Gfold_pair_iff (a b : Gfold_pair) : eq_Gfold_pair a b = true ↔ a = b := by
  rcases a with ⟨a0, a1⟩
  rcases b with ⟨b0, b1⟩
  simp [eq_Gfold_pair, Bool.and_eq_true, and_assoc]
instance : DecidableEq Gfold_pair := fun a b => decidable_of_iff _ (eq_Gfold_pair_iff a b)
@[ext] structure Gword_unit where
  kind : Int
  r : Int
  span_From : Int
  span_To : Int
  alone : Bool
def eq_Gword_unit (a b : Gword_unit) : Bool := (a.kind == b.kind) && (a.r == b.r) && (a.span_From == b.span_From) && (a.span_To == b.span_To) && (a.alone == b.alone)
theorem eq_Gword_unit_iff (a b : Gword_unit) : eq_Gword_unit a b = true ↔ a = b := by
  rcases a with ⟨a0, a1, a2, a3, a4⟩
  rcases b with ⟨b0, b1, b2, b3, b4⟩
  simp [eq_Gword_unit, Bool.and_eq_true, and_assoc]
instance : DecidableEq Gword_unit := fun a b => decidable_of_iff _ (eq_Gword_unit_iff a b)
@[ext] structure Gword_scanner where
  state : Int
  t_Kind : Int
  t_Span_From : Int
  t_Span_To : Int
  held_kind : Int
  held_r : Int
  held_span_From : Int
  held_span_To : Int
  held_alone : Bool
def eq_Gword_scanner (a b : Gword_scanner) : Bool := (a.state == b.state) && (a.t_Kind == b.t_Kind) && (a.t_Span_From == b.t_Span_From) && (a.t_Span_To == b.t_Span_To) && (a.held_kind == b.held_kind) && (a.held_r == b.held_r) && (a.held_span_From == b.held_span_From) && (a.held_span_To == b.held_span_To) && (a.held_alone == b.held_alone)
theorem eq_Gword_scanner_iff (a b : Gword_scanner) : eq_Gword_scanner a b = true ↔ a = b := by
  rcases a with ⟨a0, a1, a2, a3, a4, a5, a6, a7, a8⟩
  rcases b with ⟨b0, b1, b2, b3, b4, b5, b6, b7, b8⟩
  simp [eq_Gword_scanner, Bool.and_eq_true, and_assoc]
instance : DecidableEq Gword_scanner := fun a b => decidable_of_iff _ (eq_Gword_scanner_iff a b)
@[ext] structure T_3_string where
  e0 : ByteArray
  e1 : ByteArray
  e2 : ByteArray
def eq_T_3_string (a b : T_3_string) : Bool := decide (a.e0 = b.e0) && decide (a.e1 = b.e1) && decide (a.e2 = b.e2)
theorem eq_T_3_string_iff (a b : T_3_string) : eq_T_3_string a b = true ↔ a = b := by
  rcases a with ⟨a0, a1, a2⟩
  rcases b with ⟨b0, b1, b2⟩
  simp [eq_T_3_string, Bool.and_eq_true, and_assoc]
instance : DecidableEq T_3_string := fun a b => decidable_of_iff _ (eq_T_3_string_iff a b)
@[ext] structure T_8_2_int32 where
  e0_0 : Int
  e0_1 : Int
  e1_0 : Int
  e1_1 : Int
  e2_0 : Int
  e2_1 : Int
  e3_0 : Int
  e3_1 : Int
  e4_0 : Int
  e4_1 : Int
  e5_0 : Int
  e5_1 : Int
  e6_0 : Int
  e6_1 : Int
  e7_0 : Int
  e7_1 : Int
structure Gfold_unit where
  at_ : Int
  broken : Int
  base : Int
  low : List Int
  high : List Int
def encN_Gfold_unit (z : Gfold_unit × Hd × Hd) : List Value := [.int .i64 z.1.at_, .int .u8 z.1.broken, .int .i32 z.1.base, z.2.1.v, z.2.2.v]
def nest_Gfold_unit (z : Gfold_unit × Hd × Hd) : List Asn := [vec (encI (.i32)) 21 1 z.2.1.v z.1.low, vec (encI (.i32)) 21 1 z.2.2.v z.1.high]
theorem encN_Gfold_unit_len (z : Gfold_unit × Hd × Hd) : (encN_Gfold_unit z).length = 5 := rfl
theorem encN_Gfold_unit_one (z : Gfold_unit × Hd × Hd) : ∀ u ∈ encN_Gfold_unit z, u.oneCell' = true := by
  intro u hu
  simp only [encN_Gfold_unit, List.mem_cons, List.not_mem_nil, or_false] at hu
  rcases hu with rfl | rfl | rfl | rfl | rfl <;> rfl
end Go.Proofs.Ytlamcpgnmeileaa
namespace Go.Proofs.Ytlamcpgnmeileaa
open Go.RowKit Go.Lib
set_option linter.unusedVariables false
set_option linter.unusedSimpArgs false
end Go.Proofs.Ytlamcpgnmeileaa
namespace Go.Proofs.Ytlamcpgnmeileaa
open Go.RowKit Go.Lib

/-- A piece in the midst: what stands there. -/
theorem pcsFrom_split : ∀ (P : List Pc) (i : Nat) (l : List UInt8) (x : Pc) (B : List Pc), pcsFrom i l = P ++ x :: B →
    ∃ n, x.i = i + n ∧ n + x.w ≤ l.length ∧ DecOk (l.drop n) x.r x.w ∧ pcsFrom (i + n) (l.drop n) = x :: B ∧ B = pcsFrom (x.i + x.w) (l.drop (n + x.w))
  | [], i, l, x, B, h => by
    by_cases hl : l = []
    · subst hl; simp [pcsFrom_nil] at h
    · have hok := decOk l hl
      have h' := h
      rw [pcsFrom_cons i l hl] at h
      simp only [List.nil_append, List.cons.injEq] at h
      obtain ⟨rfl, hB⟩ := h
      exact ⟨0, by simp, by simpa using hok.le, by simpa using hok, by simpa using h', by simpa using hB.symm⟩
  | p :: P, i, l, x, B, h => by
    by_cases hl : l = []
    · subst hl; simp [pcsFrom_nil] at h
    · have hle := dec_le l hl
      rw [pcsFrom_cons i l hl] at h
      simp only [List.cons_append, List.cons.injEq] at h
      obtain ⟨n, h1, h2, h3, h4, h5⟩ := pcsFrom_split P _ _ x B h.2
      refine ⟨(decodeL l).2 + n, by omega, by simp at h2; omega, by rw [← List.drop_drop]; exact h3, by rw [← List.drop_drop, ← Nat.add_assoc]; exact h4, ?_⟩
      rw [h5, List.drop_drop, Nat.add_assoc]
theorem pcs_split (l : List UInt8) (P : List Pc) (x : Pc) (B : List Pc) (h : pcs l = P ++ x :: B) :
    x.i + x.w ≤ l.length ∧ DecOk (l.drop x.i) x.r x.w ∧ pcsFrom x.i (l.drop x.i) = x :: B ∧ B = pcsFrom (x.i + x.w) (l.drop (x.i + x.w)) := by
  obtain ⟨n, h1, h2, h3, h4, h5⟩ := pcsFrom_split P 0 l x B h
  have : x.i = n := by omega
  subst this
  exact ⟨h2, h3, by simpa using h4, h5⟩
theorem pcs_pos (l : List UInt8) (x : Pc) (h : x ∈ pcs l) : 1 ≤ x.w ∧ x.i + x.w ≤ l.length ∧ DecOk (l.drop x.i) x.r x.w := by
  obtain ⟨P, B, hs⟩ := List.append_of_mem h
  obtain ⟨h1, h2, _⟩ := pcs_split l P x B hs
  exact ⟨h2.pos, h1, h2⟩

end Go.Proofs.Ytlamcpgnmeileaa
namespace Go.Proofs.Ytlamcpgnmeileaa
open Go.RowKit Go.Lib

/-- A piece: its rune, its bytes. -/
structure Tok where
  r : Nat
  bs : List UInt8
  deriving DecidableEq
def Tok.broken (t : Tok) : Bool := t.r == 65533 && t.bs.length == 1
/-- A rune's own form. -/
def Tok.valid (t : Tok) : Prop := (t.r < 55296 ∨ (57343 < t.r ∧ t.r ≤ 1114111)) ∧ t.bs = encodeRune t.r
def flat (ts : List Tok) : List UInt8 := ts.flatMap Tok.bs
def toksF : Nat → List UInt8 → List Tok
  | 0, _ => []
  | f + 1, l => if l = [] then [] else ⟨(decodeL l).1, l.take (decodeL l).2⟩ :: toksF f (l.drop (decodeL l).2)
def toks (l : List UInt8) : List Tok := toksF l.length l

theorem flat_cons (t : Tok) (ts : List Tok) : flat (t :: ts) = t.bs ++ flat ts := by simp [flat]
theorem flat_append (a b : List Tok) : flat (a ++ b) = flat a ++ flat b := by simp [flat]
theorem toksF_enough : ∀ (f g : Nat) (l : List UInt8), l.length ≤ f → l.length ≤ g → toksF f l = toksF g l := by
  intro f
  induction f with
  | zero =>
    intro g l h1 h2
    have : l = [] := List.eq_nil_of_length_eq_zero (by omega)
    subst this
    cases g <;> simp [toksF]
  | succ f ih =>
    intro g l h1 h2
    cases g with
    | zero =>
      have : l = [] := List.eq_nil_of_length_eq_zero (by omega)
      subst this
      simp [toksF]
    | succ g =>
      by_cases hl : l = []
      · simp [toksF, hl]
      · simp only [toksF, hl, if_false]
        have := dec_pos l
        have hlen : 0 < l.length := List.length_pos_iff.2 hl
        rw [ih g _ (by simp; omega) (by simp; omega)]
theorem toks_nil : toks [] = [] := by simp [toks, toksF]
theorem toks_cons (l : List UInt8) (h : l ≠ []) : toks l = ⟨(decodeL l).1, l.take (decodeL l).2⟩ :: toks (l.drop (decodeL l).2) := by
  have hlen : 0 < l.length := List.length_pos_iff.2 h
  unfold toks
  obtain ⟨n, hn⟩ : ∃ n, l.length = n + 1 := ⟨l.length - 1, by omega⟩
  rw [hn]
  simp only [toksF, h, if_false]
  have := dec_pos l
  rw [toksF_enough n (l.drop (decodeL l).2).length _ (by simp; omega) (Nat.le_refl _)]
/-- Induction over a text, piece by piece. -/
theorem dec_induction {P : List UInt8 → Prop} (h0 : P []) (h1 : ∀ l, l ≠ [] → P (l.drop (decodeL l).2) → P l) : ∀ l, P l := by
  have key : ∀ (n : Nat) (l : List UInt8), l.length ≤ n → P l := by
    intro n
    induction n with
    | zero => intro l hl; rw [List.eq_nil_of_length_eq_zero (by omega : l.length = 0)]; exact h0
    | succ n ih =>
      intro l hl
      by_cases hn : l = []
      · rw [hn]; exact h0
      · have := dec_pos l
        exact h1 l hn (ih _ (by simp; omega))
  exact fun l => key l.length l (Nat.le_refl _)
theorem flat_toks (l : List UInt8) : flat (toks l) = l := by
  induction l using dec_induction with
  | h0 => rw [toks_nil]; rfl
  | h1 l hn ih => rw [toks_cons l hn, flat_cons, ih]; exact List.take_append_drop _ _
/-- A piece of a text is a rune's form or a broken byte. -/
theorem tok_ok (l : List UInt8) (h : l ≠ []) : (⟨(decodeL l).1, l.take (decodeL l).2⟩ : Tok).valid ∨ (⟨(decodeL l).1, l.take (decodeL l).2⟩ : Tok).broken = true := by
  by_cases hb : (decodeL l).1 = 65533 ∧ (decodeL l).2 = 1
  · right
    have hlen : 0 < l.length := List.length_pos_iff.2 h
    simp [Tok.broken, hb.1, hb.2]; omega
  · left
    exact ⟨dec_valid l, (encode_decode l h hb).symm⟩
theorem toks_ok (l : List UInt8) : ∀ t ∈ toks l, t.valid ∨ t.broken = true := by
  induction l using dec_induction with
  | h0 => rw [toks_nil]; simp
  | h1 l hn ih =>
    rw [toks_cons l hn]
    intro t ht
    rcases List.mem_cons.1 ht with rfl | ht
    · exact tok_ok l hn
    · exact ih t ht
theorem valid_not_broken {t : Tok} (h : t.valid) : t.broken = false := by
  unfold Tok.broken
  by_cases hr : t.r = 65533
  · have := h.2; rw [hr, enc_lost] at this; simp [this]
  · simp [hr]
theorem bs_ne {t : Tok} (h : t.valid ∨ t.broken = true) : t.bs ≠ [] := by
  rcases h with h | h
  · rw [h.2]; intro e; have := (encodeRune_len (t.r : Int)).1; rw [e] at this; simp at this
  · intro e; unfold Tok.broken at h; rw [e] at h; simp at h

/-- A byte that may go on a form. -/
def contB (b : UInt8) : Bool := b.toNat / 64 == 2
/-- What can't go on a form that stands ahead of it. -/
def Stop : List UInt8 → Prop
  | [] => True
  | b :: _ => contB b = false
theorem decodeN_stop1 {n b0 b1 b2 b3 c1 c2 c3 m : Nat} (h1 : n ≤ 1 ∨ b1 / 64 ≠ 2) (h2 : m ≤ 1 ∨ c1 / 64 ≠ 2) : decodeN n b0 b1 b2 b3 = decodeN m b0 c1 c2 c3 := by
  unfold decodeN
  have e1 : ¬ (1 < n ∧ b1 / 64 = 2) := by omega
  have e2 : ¬ (1 < m ∧ c1 / 64 = 2) := by omega
  simp only [e1, e2, and_false, false_and, if_false]
theorem decodeN_stop2 {n b0 b1 b2 b3 c2 c3 m : Nat} (hn : 1 < n) (hm : 1 < m) (h1 : n ≤ 2 ∨ b2 / 64 ≠ 2) (h2 : m ≤ 2 ∨ c2 / 64 ≠ 2) : decodeN n b0 b1 b2 b3 = decodeN m b0 b1 c2 c3 := by
  unfold decodeN
  have e1 : ¬ (2 < n ∧ b2 / 64 = 2) := by omega
  have e2 : ¬ (2 < m ∧ c2 / 64 = 2) := by omega
  simp only [e1, e2, and_false, false_and, if_false, hn, hm, true_and]
theorem decodeN_stop3 {n b0 b1 b2 b3 c3 m : Nat} (hn : 2 < n) (hm : 2 < m) (h1 : n ≤ 3 ∨ b3 / 64 ≠ 2) (h2 : m ≤ 3 ∨ c3 / 64 ≠ 2) : decodeN n b0 b1 b2 b3 = decodeN m b0 b1 b2 c3 := by
  unfold decodeN
  have e1 : ¬ (3 < n ∧ b3 / 64 = 2) := by omega
  have e2 : ¬ (3 < m ∧ c3 / 64 = 2) := by omega
  have h1n : 1 < n := by omega
  have h1m : 1 < m := by omega
  simp only [e1, e2, and_false, if_false, hn, hm, h1n, h1m, true_and]
theorem decodeN_stop4 {n b0 b1 b2 b3 m : Nat} (hn : 3 < n) (hm : 3 < m) : decodeN n b0 b1 b2 b3 = decodeN m b0 b1 b2 b3 := by
  unfold decodeN
  have h1n : 1 < n := by omega
  have h1m : 1 < m := by omega
  have h2n : 2 < n := by omega
  have h2m : 2 < m := by omega
  simp only [hn, hm, h1n, h1m, h2n, h2m, true_and]
theorem stop_get {x : List UInt8} (h : Stop x) (n : Nat) : n + x.length ≤ n ∨ (x.getD 0 0).toNat / 64 ≠ 2 := by
  cases x with
  | nil => simp
  | cons b x => right; simpa [Stop, contB] using h
/-- What stands behind a stop does not matter. -/
theorem dec_stop (l x : List UInt8) (hl : l ≠ []) (hx : Stop x) : decodeL (l ++ x) = decodeL l := by
  rw [decodeL_N, decodeL_N]
  rcases l with _ | ⟨a, _ | ⟨b, _ | ⟨c, _ | ⟨d, l⟩⟩⟩⟩
  · exact absurd rfl hl
  · refine decodeN_stop1 ?_ (.inl (by simp))
    rcases stop_get hx 1 with h | h
    · left; simp only [List.length_append, List.length_cons, List.length_nil]; omega
    · right; simpa using h
  · refine decodeN_stop2 (by simp) (by simp) ?_ (.inl (by simp))
    rcases stop_get hx 2 with h | h
    · left; simp only [List.length_append, List.length_cons, List.length_nil]; omega
    · right; simpa using h
  · refine decodeN_stop3 (by simp) (by simp) ?_ (.inl (by simp))
    rcases stop_get hx 3 with h | h
    · left; simp only [List.length_append, List.length_cons, List.length_nil]; omega
    · right; simpa using h
  · exact decodeN_stop4 (by simp) (by simp)
theorem toks_append (l x : List UInt8) (hx : Stop x) : toks (l ++ x) = toks l ++ toks x := by
  induction l using dec_induction with
  | h0 => rw [toks_nil]; rfl
  | h1 l hn ih =>
    have hle := dec_le l hn
    have hne : l ++ x ≠ [] := by simp [hn]
    rw [toks_cons _ hne, toks_cons l hn, dec_stop l x hn hx, List.drop_append_of_le_length hle, ih, List.take_append_of_le_length hle]
    rfl

theorem encZ_shape (r : Nat) (hv : r < 55296 ∨ (57343 < r ∧ r ≤ 1114111)) :
    (r ≤ 127 ∧ encodeRuneZ r = [(r : Int)]) ∨ (128 ≤ r ∧ r ≤ 2047 ∧ encodeRuneZ r = [192 + (r : Int) / 64, 128 + (r : Int) % 64]) ∨
    (2048 ≤ r ∧ r ≤ 65535 ∧ encodeRuneZ r = [224 + (r : Int) / 4096, 128 + (r : Int) / 64 % 64, 128 + (r : Int) % 64]) ∨
    (65536 ≤ r ∧ r ≤ 1114111 ∧ encodeRuneZ r = [240 + (r : Int) / 262144, 128 + (r : Int) / 4096 % 64, 128 + (r : Int) / 64 % 64, 128 + (r : Int) % 64]) := by
  by_cases h1 : r ≤ 127
  · exact .inl ⟨h1, encodeRuneZ_one (by omega) (by omega)⟩
  · by_cases h2 : r ≤ 2047
    · exact .inr (.inl ⟨by omega, h2, encodeRuneZ_two (by omega) (by omega)⟩)
    · by_cases h3 : r ≤ 65535
      · exact .inr (.inr (.inl ⟨by omega, h3, encodeRuneZ_three (by omega)⟩))
      · exact .inr (.inr (.inr ⟨by omega, by omega, encodeRuneZ_four (by omega) (by omega)⟩))
theorem u8_toNat (z : Int) (_h0 : 0 ≤ z) (h1 : z < 256) : (z.toNat.toUInt8).toNat = z.toNat := by
  simp; omega
theorem dec_enc (r : Nat) (hv : r < 55296 ∨ (57343 < r ∧ r ≤ 1114111)) (x : List UInt8) : decodeL (encodeRune r ++ x) = (r, (encodeRune r).length) := by
  rw [decodeL_N]
  rcases encZ_shape r hv with ⟨h, e⟩ | ⟨h, h', e⟩ | ⟨h, h', e⟩ | ⟨h, h', e⟩
  · have hl : encodeRune r = [((r : Int).toNat.toUInt8)] := by simp only [encodeRune, e, List.map_cons, List.map_nil]
    rw [hl]
    simp only [List.cons_append, List.nil_append, List.getD_cons_zero, List.length_cons]
    rw [u8_toNat _ (by omega) (by omega)]
    unfold decodeN
    simp only [Int.toNat_natCast]
    rw [if_pos (by omega)]
    simp
  · have hl : encodeRune r = [((192 + (r : Int) / 64).toNat.toUInt8), ((128 + (r : Int) % 64).toNat.toUInt8)] := by simp only [encodeRune, e, List.map_cons, List.map_nil]
    rw [hl]
    simp only [List.cons_append, List.nil_append, List.getD_cons_zero, List.getD_cons_succ, List.length_cons]
    rw [u8_toNat _ (by omega) (by omega), u8_toNat _ (by omega) (by omega)]
    have a1 : (192 + (r : Int) / 64).toNat = 192 + r / 64 := by omega
    have a2 : (128 + (r : Int) % 64).toNat = 128 + r % 64 := by omega
    rw [a1, a2]
    unfold decodeN
    have c1 : ¬ 192 + r / 64 < 128 := by omega
    have c2 : (192 + r / 64) / 32 = 6 := by omega
    have c3 : (128 + r % 64) / 64 = 2 := by omega
    have c4 : (192 + r / 64) % 32 * 64 + (128 + r % 64) % 64 = r := by omega
    have c5 : 128 ≤ r := by omega
    rw [if_neg c1, if_pos ⟨c2, by omega, c3⟩, c4, if_pos c5]
    rfl
  · have hl : encodeRune r = [((224 + (r : Int) / 4096).toNat.toUInt8), ((128 + (r : Int) / 64 % 64).toNat.toUInt8), ((128 + (r : Int) % 64).toNat.toUInt8)] := by simp only [encodeRune, e, List.map_cons, List.map_nil]
    rw [hl]
    simp only [List.cons_append, List.nil_append, List.getD_cons_zero, List.getD_cons_succ, List.length_cons]
    rw [u8_toNat _ (by omega) (by omega), u8_toNat _ (by omega) (by omega), u8_toNat _ (by omega) (by omega)]
    have a1 : (224 + (r : Int) / 4096).toNat = 224 + r / 4096 := by omega
    have a2 : (128 + (r : Int) / 64 % 64).toNat = 128 + r / 64 % 64 := by omega
    have a3 : (128 + (r : Int) % 64).toNat = 128 + r % 64 := by omega
    rw [a1, a2, a3]
    unfold decodeN
    have c1 : ¬ 224 + r / 4096 < 128 := by omega
    have c2 : (224 + r / 4096) / 32 ≠ 6 := by omega
    have c2' : (224 + r / 4096) / 16 = 14 := by omega
    have c3 : (128 + r / 64 % 64) / 64 = 2 := by omega
    have c3' : (128 + r % 64) / 64 = 2 := by omega
    have c4 : (224 + r / 4096) % 16 * 4096 + (128 + r / 64 % 64) % 64 * 64 + (128 + r % 64) % 64 = r := by omega
    have c5 : 2048 ≤ r := by omega
    rw [if_neg c1, if_neg (fun h => c2 h.1), if_pos ⟨c2', ⟨by omega, c3⟩, ⟨by omega, c3'⟩⟩, c4, if_pos ⟨c5, by omega⟩]
    rfl
  · have hl : encodeRune r = [((240 + (r : Int) / 262144).toNat.toUInt8), ((128 + (r : Int) / 4096 % 64).toNat.toUInt8), ((128 + (r : Int) / 64 % 64).toNat.toUInt8), ((128 + (r : Int) % 64).toNat.toUInt8)] := by simp only [encodeRune, e, List.map_cons, List.map_nil]
    rw [hl]
    simp only [List.cons_append, List.nil_append, List.getD_cons_zero, List.getD_cons_succ, List.length_cons]
    rw [u8_toNat _ (by omega) (by omega), u8_toNat _ (by omega) (by omega), u8_toNat _ (by omega) (by omega), u8_toNat _ (by omega) (by omega)]
    have a1 : (240 + (r : Int) / 262144).toNat = 240 + r / 262144 := by omega
    have a2 : (128 + (r : Int) / 4096 % 64).toNat = 128 + r / 4096 % 64 := by omega
    have a2' : (128 + (r : Int) / 64 % 64).toNat = 128 + r / 64 % 64 := by omega
    have a3 : (128 + (r : Int) % 64).toNat = 128 + r % 64 := by omega
    rw [a1, a2, a2', a3]
    unfold decodeN
    have c1 : ¬ 240 + r / 262144 < 128 := by omega
    have c2 : (240 + r / 262144) / 32 ≠ 6 := by omega
    have c2' : (240 + r / 262144) / 16 ≠ 14 := by omega
    have c2'' : (240 + r / 262144) / 8 = 30 := by omega
    have c3 : (128 + r / 4096 % 64) / 64 = 2 := by omega
    have c3' : (128 + r / 64 % 64) / 64 = 2 := by omega
    have c3'' : (128 + r % 64) / 64 = 2 := by omega
    have c4 : (240 + r / 262144) % 8 * 262144 + (128 + r / 4096 % 64) % 64 * 4096 + (128 + r / 64 % 64) % 64 * 64 + (128 + r % 64) % 64 = r := by omega
    have c5 : 65536 ≤ r := by omega
    rw [if_neg c1, if_neg (fun h => c2 h.1), if_neg (fun h => c2' h.1), if_pos ⟨c2'', ⟨by omega, c3⟩, ⟨by omega, c3'⟩, ⟨by omega, c3''⟩⟩, c4, if_pos ⟨c5, by omega⟩]
    rfl
/-- A rune's form stops what stands ahead of it. -/
theorem stop_enc (r : Nat) (hv : r < 55296 ∨ (57343 < r ∧ r ≤ 1114111)) (x : List UInt8) : Stop (encodeRune r ++ x) := by
  rcases encZ_shape r hv with ⟨h, e⟩ | ⟨h, h', e⟩ | ⟨h, h', e⟩ | ⟨h, h', e⟩ <;>
  · simp only [encodeRune, e, List.map_cons, List.map_nil, List.cons_append, Stop, contB, beq_eq_false_iff_ne, ne_eq]
    rw [u8_toNat _ (by omega) (by omega)]
    omega
theorem toks_valid {t : Tok} (h : t.valid) (x : List UInt8) : toks (t.bs ++ x) = t :: toks x := by
  have hne : t.bs ++ x ≠ [] := by simp [bs_ne (.inl h)]
  rw [toks_cons _ hne]
  rw [h.2, dec_enc t.r h.1 x, ← h.2]
  simp
theorem toks_valids {vs : List Tok} (h : ∀ t ∈ vs, t.valid) (x : List UInt8) : toks (flat vs ++ x) = vs ++ toks x := by
  induction vs with
  | nil => rfl
  | cons t vs ih =>
    rw [flat_cons, List.append_assoc, toks_valid (h t (List.mem_cons_self ..)), ih (fun q hq => h q (List.mem_cons_of_mem _ hq))]
    rfl
theorem stop_valids {vs : List Tok} (hne : vs ≠ []) (h : ∀ t ∈ vs, t.valid) (x : List UInt8) : Stop (flat vs ++ x) := by
  cases vs with
  | nil => exact absurd rfl hne
  | cons t vs =>
    have := h t (List.mem_cons_self ..)
    rw [flat_cons, List.append_assoc, this.2]
    exact stop_enc t.r this.1 _

/-- The pieces are their own text's. -/
def Good (ts : List Tok) : Prop := toks (flat ts) = ts
theorem good_toks (l : List UInt8) : Good (toks l) := by unfold Good; rw [flat_toks]
theorem good_tail {t : Tok} {ts : List Tok} (h : Good (t :: ts)) : Good ts := by
  unfold Good at *
  by_cases hn : flat (t :: ts) = []
  · rw [hn, toks_nil] at h; cases h
  · rw [toks_cons _ hn] at h
    have h1 : (⟨(decodeL (flat (t :: ts))).1, (flat (t :: ts)).take (decodeL (flat (t :: ts))).2⟩ : Tok) = t := by injection h
    have h2 : toks ((flat (t :: ts)).drop (decodeL (flat (t :: ts))).2) = ts := by injection h
    have h3 : (flat (t :: ts)).take (decodeL (flat (t :: ts))).2 = t.bs := congrArg Tok.bs h1
    have h4 := List.take_append_drop (decodeL (flat (t :: ts))).2 (flat (t :: ts))
    rw [h3] at h4
    have h5 : (flat (t :: ts)).drop (decodeL (flat (t :: ts))).2 = flat ts := by
      rw [flat_cons] at h4 ⊢
      exact List.append_cancel_left h4
    rw [← h5]; exact h2
theorem good_drop {a ts : List Tok} (h : Good (a ++ ts)) : Good ts := by
  induction a with
  | nil => exact h
  | cons t a ih => exact ih (good_tail h)
/-- Broken bytes stay, valid pieces become other valid ones. -/
inductive Sub : List Tok → List Tok → Prop
  | nil : Sub [] []
  | brk {b : Tok} {ts us : List Tok} : b.broken = true → Sub ts us → Sub (b :: ts) (b :: us)
  | val {gs vs ts us : List Tok} : gs ≠ [] → vs ≠ [] → (∀ t ∈ gs, t.valid) → (∀ t ∈ vs, t.valid) → Sub ts us → Sub (gs ++ ts) (vs ++ us)
theorem Sub.one {t : Tok} {vs ts us : List Tok} (ht : t.valid) (hn : vs ≠ []) (hv : ∀ t ∈ vs, t.valid) (h : Sub ts us) : Sub (t :: ts) (vs ++ us) :=
  Sub.val (gs := [t]) (by simp) hn (by simpa using ht) hv h
/-- How a list that is put in another's place begins. -/
theorem Sub.head {ts us : List Tok} (h : Sub ts us) : ∃ B ts' us', (∀ b ∈ B, b.broken = true) ∧ ts = B ++ ts' ∧ us = B ++ us' ∧ Stop (flat ts') ∧ Stop (flat us') := by
  induction h with
  | nil => exact ⟨[], [], [], by simp, rfl, rfl, trivial, trivial⟩
  | brk hb _ ih =>
    obtain ⟨B, ts', us', h1, rfl, rfl, h4, h5⟩ := ih
    exact ⟨_ :: B, ts', us', by simpa [hb] using h1, rfl, rfl, h4, h5⟩
  | @val gs vs ts us h1 h2 h3 h4 _ ih =>
    exact ⟨[], gs ++ ts, vs ++ us, by simp, rfl, rfl, by rw [flat_append]; exact stop_valids h1 h3 _, by rw [flat_append]; exact stop_valids h2 h4 _⟩
theorem Sub.good {ts us : List Tok} (h : Sub ts us) (hg : Good ts) : Good us := by
  induction h with
  | nil => exact hg
  | @brk b ts us hb hs ih =>
    have ih' := ih (good_tail hg)
    obtain ⟨B, ts', us', h1, rfl, rfl, h4, h5⟩ := hs.head
    unfold Good at *
    have hne : b.bs ≠ [] := bs_ne (.inr hb)
    have e1 : flat (b :: (B ++ ts')) = flat (b :: B) ++ flat ts' := by rw [← List.cons_append, flat_append]
    have e2 : flat (b :: (B ++ us')) = flat (b :: B) ++ flat us' := by rw [← List.cons_append, flat_append]
    rw [e1, toks_append _ _ h4] at hg
    rw [e2, toks_append _ _ h5]
    have g1 : toks (flat ts') = ts' := by
      have := good_drop (a := B) (ts := ts') (by
        have hh : Good (b :: (B ++ ts')) := by unfold Good; rw [e1, toks_append _ _ h4]; exact hg
        exact good_tail hh)
      exact this
    rw [flat_append, toks_append _ _ h5] at ih'
    have g2 : toks (flat us') = us' := good_drop (a := B) (by unfold Good; rw [flat_append, toks_append _ _ h5]; exact ih')
    rw [g1, ← List.cons_append] at hg
    rw [g2, ← List.cons_append]
    rw [List.append_cancel_right hg]
  | @val gs vs ts us h1 h2 h3 h4 _ ih =>
    unfold Good
    rw [flat_append, toks_valids h4, show toks (flat us) = us from ih (good_drop hg)]

/-! ### The pieces with their places -/
def place : Nat → List Tok → List Pc
  | _, [] => []
  | i, t :: ts => ⟨i, t.bs.length, t.r⟩ :: place (i + t.bs.length) ts
theorem pcs_place (l : List UInt8) : ∀ i, pcsFrom i l = place i (toks l) := by
  induction l using dec_induction with
  | h0 => intro i; rw [toks_nil, pcsFrom_nil]; rfl
  | h1 l hn ih =>
    intro i
    have hle := dec_le l hn
    have e : (l.take (decodeL l).2).length = (decodeL l).2 := by simp; omega
    rw [pcsFrom_cons i l hn, toks_cons l hn, place, ih, e]
theorem place_length (ts : List Tok) : ∀ i, (place i ts).length = ts.length := by
  induction ts with
  | nil => intro i; rfl
  | cons t ts ih => intro i; simp [place, ih]

end Go.Proofs.Ytlamcpgnmeileaa
namespace Go.Proofs.Ytlamcpgnmeileaa
open Go.RowKit Go.Lib
set_option linter.unusedVariables false
set_option linter.unusedSimpArgs false
section
variable {R S : Type} {c : Prop} [Decidable c] {o x z : Option R} {p : Option S} {f : S → Option R} {b : Bool} {y : Option R}
theorem grdI (h : c) (ho : o = x) : grd c o = x := (grd_pos h).trans ho
theorem thenI {a : S} (h : p = some a) (hf : f a = x) : andThen p f = x := (and_some h).trans hf
theorem condTI (hb : b = true) (h : x = z) : bcond b x y = z := (bcond_T hb).trans h
theorem condFI (hb : b = false) (h : y = z) : bcond b x y = z := (bcond_F hb).trans h
theorem joinI {T : Type} {t : T → Option R} {k : T} (h : t k = x) : joinK t k = x := h
theorem loopI {T : Type} {bot : T} {step : T → T} {n : Nat} : loopG bot step (n + 1) = step (loopG bot step n) := rfl
theorem fuel_eq (k : Nat) (h : k ≤ 1000) : ∃ n, fuel = n + k ∧ 18446744073709550000 ≤ n := ⟨18446744073709551616 - k, by unfold fuel; omega, by omega⟩
end
/-- A rune that has a form. -/
def vr (r : Int) : Prop := (0 ≤ r ∧ r < 55296) ∨ (57343 < r ∧ r ≤ 1114111)
instance (r : Int) : Decidable (vr r) := by unfold vr; infer_instance
def wd (r : Int) : Int := if vr r then (if r < 128 then 1 else if r < 2048 then 2 else if r < 65536 then 3 else 4) else 0
end Go.Proofs.Ytlamcpgnmeileaa
namespace Go.Proofs.Ytlamcpgnmeileaa
open Go.RowKit Go.Lib
set_option linter.unusedVariables false
set_option linter.unusedSimpArgs false
section
variable {R X A B : Type} {xs : List X}
theorem lp_get {k : Nat} {x : X} (h : xs[k]? = some x) : getO xs (k : Int) = some x := getO_nat h
theorem lp_lt {k : Nat} {x : X} (h : xs[k]? = some x) : decide ((k : Int) < (xs.length : Int)) = true := decide_eq_true (by have := (List.getElem?_eq_some_iff.1 h).1; omega)
theorem lp_ge : decide ((xs.length : Int) < (xs.length : Int)) = false := decide_eq_false (by omega)
theorem lp_i64 {k : Nat} (h : k ≤ 4611686018427387904) : I64 ((k : Int) + 1) := ⟨by omega, by omega⟩
theorem lp_lt' {k : Nat} {x : X} (h : xs[k]? = some x) : k < xs.length := (List.getElem?_eq_some_iff.1 h).1
/-- One thing goes through the loop. -/
theorem loop1 {F : (A → Int → Option R) → A → Int → Option R} {bot : A → Int → Option R} {f : A → X → A} {J : A → Option R} (Inv : Nat → A → Prop)
    (hs : ∀ ag k x a, xs[k]? = some x → Inv k a → F ag a (k : Int) = ag (f a x) ((k : Int) + 1)) (hI : ∀ k x a, xs[k]? = some x → Inv k a → Inv (k + 1) (f a x))
    (he : ∀ ag a, Inv xs.length a → F ag a (xs.length : Int) = J a) {n : Nat} (hn : xs.length < n) {a : A} (h0 : Inv 0 a) : loopG bot F n a 0 = J (xs.foldl f a) := by
  have key : ∀ (n k : Nat) (a : A), k ≤ xs.length → xs.length - k < n → Inv k a → loopG bot F n a (k : Int) = J ((xs.drop k).foldl f a) := by
    intro n
    induction n with
    | zero => intro k a _ h; omega
    | succ n ih =>
      intro k a hk hn hi
      rw [loopI]
      by_cases h : k < xs.length
      · have hx : xs[k]? = some xs[k] := List.getElem?_eq_getElem h
        rw [hs _ k _ a hx hi, List.drop_eq_getElem_cons h, List.foldl_cons]
        exact ih (k + 1) _ (by omega) (by omega) (hI k _ a hx hi)
      · have : k = xs.length := by omega
        subst this
        rw [he _ a hi, List.drop_length]; rfl
  have := key n 0 a (Nat.zero_le _) (by omega) h0
  simpa using this
end
theorem big_fuel {n : Nat} (h : n ≤ 4611686018427387904) : n < fuel := by unfold fuel; omega
end Go.Proofs.Ytlamcpgnmeileaa
namespace Go.Proofs.Ytlamcpgnmeileaa
open Go.RowKit Go.Lib Go.Shelf
attribute [local go_sem] Oper.semAt_some wide_fn wide_in_fn wide_depth
set_option linter.unusedVariables false

theorem ret_bool {a b : Bool} (h : a = b) : Ending.returned (.bool a) = .returned (.bool b) := by rw [h]
theorem ret_int {k : IntKind} {a b : Int} (h : a = b) : Ending.returned (.int k a) = .returned (.int k b) := by rw [h]

def hasPre (l p : List UInt8) : Bool := decide (l.take p.length = p)

set_option maxHeartbeats 400000 in
theorem hasPrefix0_any (s p : ByteArray) (w : World) :
    Calls Try.prog 94 #[.string s, .string p] w fun e w' => e = .returned (.bool (hasPre s.data.toList p.data.toList)) ∧ w = w' := by
  by_cases h : p.size ≤ s.size
  · go_enter Try.func94, Try.ntmps94
    go_wp2
    go_ret
    refine ⟨ret_bool ?_, rfl⟩
    rw [Lib.toList_data, Lib.toList_data, extract_data]
    simp only [hasPre, List.drop_zero, Nat.sub_zero]
    rw [show p.data.toList.length = p.size from by simp]
    rw [Bool.eq_iff_iff]
    rw [beq_iff_eq, decide_eq_true_iff]
  · go_enter Try.func94, Try.ntmps94
    go_wp2
    go_ret
    refine ⟨ret_bool ?_, rfl⟩
    symm
    simp only [hasPre, decide_eq_false_iff_not]
    intro e
    have := congrArg List.length e
    simp at this
    omega

set_option maxHeartbeats 400000 in
theorem hasPrefix_any (s p : ByteArray) (w : World) :
    Calls Try.prog 87 #[.string s, .string p] w fun e w' => e = .returned (.bool (hasPre s.data.toList p.data.toList)) ∧ w = w' := by
  go_enter Try.func87, Try.ntmps87
  go_wp2_with (go_at_call 94; refine (hasPrefix0_any _ _ _).mono ?_; rintro e w' ⟨rfl, rfl⟩)
  go_ret
  exact ⟨rfl, rfl⟩

def encPc (p : Pc) : Array Value := #[.agg #[.int .i64 p.i, .int .i64 p.w, .int .i32 p.r, .bool p.broken]]

set_option maxRecDepth 100000 in
set_option maxHeartbeats 1000000 in
theorem pieces1_yields (s : ByteArray) (hs : s.size ≤ 4611686018427387904) (Bs : Nat) (W0 : World) (hB : Boxed W0 Bs 9 (.string s)) :
    Yields Try.prog 86 #[.pointer (some ⟨Bs, 0, none⟩)] encPc (pcs s.data.toList) (fun k => k = Bs) W0 := by
  intro l I X C0 W hD hsz hC0 hI hX hY h0
  have hBW : Boxed W Bs 9 (.string s) := (hD Bs rfl).2.trans hB
  have hc := hBW.cell
  refine calls_of_body Try.func86 rfl ?_
  simp only [Try.ntmps86, List.size_toArray, List.length_cons, List.length_nil, Nat.reduceAdd, Nat.reduceSub, Array.replicate_succ, Array.replicate_zero, List.push_toArray, List.append_toArray, List.nil_append, List.cons_append]
  gi_wp2
  gi_loopw [] (fun wr => ∃ pre C pos, pcs s.data.toList = pre ++ pcsFrom pos (s.data.toList.drop pos) ∧ pos ≤ s.size ∧ I pre C wr ∧ Ext C0 C W wr ∧ ¬ C W.heap.size ∧ wr.heap[W.heap.size]? = some (.stringIter s pos)) (fun wr => s.size - wr.iterPos W.heap.size)
  case atStart =>
    have h1 := World.iter_heap W s 0
    refine ⟨[], C0, 0, rfl, Nat.zero_le _, ?_, ?_, fun h => by have := (hC0 _ h).1; omega, h1⟩
    · exact hI _ _ _ _ h0 (by simp [World.iter]) (fun k hk => Below.heap_alloc W _ k (hC0 k hk).1)
    · exact Ext.of_fr ((Fr.refl _ _).alloc _)
  case round =>
    obtain ⟨pre, C, pos, hx, hpos, hi, hext, hnC, hit⟩ := hrel
    have hitlt : W.heap.size < wr.heap.size := lt_of_some hit
    have hBr : Boxed wr Bs 9 (.string s) := hext.1.at hBW (fun h => (hC0 _ h).2 rfl)
    have hBne : Bs ≠ W.heap.size := by have := (hD Bs rfl).1; omega
    by_cases hlt : pos < s.size
    · have hnx : ∀ ty, (Instr.next (.pointer (some ⟨W.heap.size, 0, none⟩)) true ty).run Try.prog wr = _ := fun ty => Lib.run_next_any_at wr W.heap.size s pos ty hit hlt
      have hne : s.data.toList.drop pos ≠ [] := by
        intro e; have := congrArg List.length e; simp at this; omega
      have hdl := decodeL_drop s pos
      have hv := dec_valid (s.data.toList.drop pos)
      have hle := dec_le _ hne
      have hwd := dec_width _ hne
      have hlo := dec_lost_ok _ hne
      have hlb := dec_lost_bad (s.data.toList.drop pos)
      have hp1 := dec_pos (s.data.toList.drop pos)
      rw [pcsFrom_cons pos _ hne] at hx
      rw [List.drop_drop] at hx
      rw [hdl] at hx hv hle hwd hlo hlb hp1
      clear hdl
      rcases hd : Utf8.decode s pos with ⟨r, wd⟩
      rw [hd] at hx hv hle hwd hlo hlb hp1 hnx
      clear hd
      simp only at hx hv hle hwd hlo hlb hp1 hnx
      have hle' : pos + wd ≤ s.size := by simp at hle; omega
      obtain ⟨W1, hW1⟩ : ∃ W1, wr.iterAt W.heap.size s (pos + wd) = W1 := ⟨_, rfl⟩
      have hit1 : W1.heap[W.heap.size]? = some (.stringIter s (pos + wd)) := by rw [← hW1]; exact iterAt_heap wr _ s pos _ hit
      have hf1 : Fr (fun k => k = W.heap.size) wr W1 := by rw [← hW1]; exact Fr.iterAt (Fr.refl (fun k => k = W.heap.size) wr) (.inl rfl) s _
      have hB1 : Boxed W1 Bs 9 (.string s) := hf1.at hBr hBne
      have hc1 := hB1.cell
      have hsz1 : W1.heap.size = wr.heap.size := by rw [← hW1, iterAt_size]
      rw [hW1] at hnx
      clear hW1 hc
      have hiA : ∀ w', Fr (fun k => k = W.heap.size) wr w' → I pre C w' := fun w' hf => hI.own hi hext (fun k hk => (hC0 k hk).1) hf (by rintro k rfl; exact hnC)
      have heA : ∀ w', Fr (fun k => k = W.heap.size) wr w' → Ext C0 C W w' := fun w' hf => hext.own hf (by rintro k rfl; exact Nat.le_refl _)
      have hx' : pcs s.data.toList = (pre ++ [⟨pos, wd, r⟩]) ++ pcsFrom (pos + wd) (s.data.toList.drop (pos + wd)) := by rw [hx]; simp
      have hx'' := Lib.hid hx'
      have fin : ∀ (b : Bool) (W2 W3 : World), Fr (fun k => k = W.heap.size) wr W2 → W2.heap[W.heap.size]? = some (.stringIter s (pos + wd)) →
          (∃ C', Ext C C' W2 W3 ∧ ((b = true ∧ I (pre ++ [⟨pos, wd, r⟩]) C' W3) ∨ (b = false ∧ X (pre ++ [⟨pos, wd, r⟩]) C' W3))) →
          (b = true ∧ (∃ pre C pos, pcs s.data.toList = pre ++ pcsFrom pos (s.data.toList.drop pos) ∧ pos ≤ s.size ∧ I pre C W3 ∧ Ext C0 C W W3 ∧ ¬ C W.heap.size ∧ W3.heap[W.heap.size]? = some (.stringIter s pos)) ∧ s.size - W3.iterPos W.heap.size < s.size - wr.iterPos W.heap.size) ∨
          (b = false ∧ ∃ C', Ext C0 C' W W3 ∧ (I (pcs s.data.toList) C' W3 ∨ ∃ pre x post, pcs s.data.toList = pre ++ x :: post ∧ X (pre ++ [x]) C' W3)) := by
        rintro b W2 W3 hf2 hit2 ⟨C', he3, ⟨rfl, hi3⟩ | ⟨rfl, hx3⟩⟩
        · have hit3 := he3.1.at hit2 hnC
          refine .inl ⟨rfl, ⟨_, C', pos + wd, hx', hle', hi3, (heA _ hf2).trans he3, he3.not (lt_of_some hit2) hnC, hit3⟩, ?_⟩
          simp only [World.iterPos, hit3, hit]
          omega
        · exact .inr ⟨rfl, C', (heA _ hf2).trans he3, .inr ⟨pre, _, _, hx, hx3⟩⟩
      have hitA : ∀ o, (W1.alloc o).heap[W.heap.size]? = some (.stringIter s (pos + wd)) := fun o => (Below.heap_alloc W1 o _ (by omega)).trans hit1
      by_cases h1 : r = 65533
      · subst h1
        have hex1 : ∀ b, hasPre (s.extract pos s.size).data.toList (ByteArray.mk #[239, 191, 189]).data.toList = b → ∀ w : World,
            Calls Try.prog 87 #[.string (s.extract pos s.size), .string (ByteArray.mk #[239, 191, 189])] w fun e w' => e = .returned (.bool b) ∧ w = w' := by
          intro b hb w
          rw [← hb]
          exact hasPrefix_any _ _ w
        rw [ext_end] at hex1
        have hw3 : (Utf8.encode 65533).size = 3 := by decide
        have hcA : ∀ o, (W1.alloc o).cell? ⟨Bs, 0, none⟩ = some (.string s) := fun o => (Boxed.alloc hB1 o).cell
        by_cases h2 : wd = 1
        · subst h2
          have hp := hex1 false (by simp only [hasPre, decide_eq_false_iff_not]; exact hlb rfl rfl)
          have hbr : Pc.broken ⟨pos, 1, 65533⟩ = true := rfl
          have hyy : YAt Try.prog l #[.agg #[.int .i64 pos, .int .i64 1, .int .i32 65533, .bool true]] (W1.alloc (.cells #[.int .i64 pos, .int .i64 1, .int .i32 65533, .bool true] 55)) _ := hY pre ⟨pos, 1, 65533⟩ _ C (W1.alloc (.cells #[.int .i64 pos, .int .i64 1, .int .i32 65533, .bool true] 55)) hx (heA _ (hf1.alloc _)) (hiA _ (hf1.alloc _))
          have hitB : (W1.alloc (.cells #[.int .i64 pos, .int .i64 1, .int .i32 65533, .bool true] 55)).heap[W.heap.size]? = some (.stringIter s (pos + 1)) := ((Fr.refl (fun _ => False) W1).alloc _).at hit1 (fun h => h)
          obtain ⟨fn, tmps, assign, body, hy, hR⟩ := hyy
          have fin' := Lib.hid (fin)
          have hf1'' : Fr (fun k => k = W.heap.size) wr (W1.alloc (.cells #[.int .i64 pos, .int .i64 1, .int .i32 65533, .bool true] 55)) := hf1.alloc _
          have hf1' := Lib.hid hf1''
          clear hf1''
          have hitA' := Lib.hid hitB
          clear hbr hwd hlo hlb hv hx hx' hY hiA hD hext fin hf1 hitA heA hex1 hitB
          gi_wp2_with (gi_at_call 87; refine (CallsIn.mono (callsIn_wide.2 (hp _)) ?_); rintro e w' ⟨rfl, rfl⟩)
          refine hR.mono ?_
          rintro e W3 ⟨b, rfl, hex⟩
          rcases fin'.out b _ W3 hf1'.out hitA'.out hex with ⟨rfl, hrel, hmu⟩ | ⟨rfl, hend⟩
          · have hrel' := Lib.hid hrel; have hmu' := Lib.hid hmu
            clear hrel hmu hex fin' hitA' hf1'
            gi_wp2
            go_roundw
            case rel => exact hrel'.out
            case measure => exact hmu'.out
          · have hend' := Lib.hid hend
            clear hend hex fin' hitA' hf1'
            gi_wp2
            exact ⟨_, results_none rfl _ _ _, ⟨_, rfl⟩, hend'.out⟩
        · obtain ⟨hl3, rfl⟩ := hlo rfl h2
          have hp := hex1 true (by simp only [hasPre, decide_eq_true_eq]; exact hl3)
          clear h2 hl3
          have hbr : Pc.broken ⟨pos, 3, 65533⟩ = false := rfl
          have hyy : YAt Try.prog l #[.agg #[.int .i64 pos, .int .i64 3, .int .i32 65533, .bool false]] (W1.alloc (.cells #[.int .i64 pos, .int .i64 3, .int .i32 65533, .bool false] 55)) _ := hY pre ⟨pos, 3, 65533⟩ _ C (W1.alloc (.cells #[.int .i64 pos, .int .i64 3, .int .i32 65533, .bool false] 55)) hx (heA _ (hf1.alloc _)) (hiA _ (hf1.alloc _))
          have hitB : (W1.alloc (.cells #[.int .i64 pos, .int .i64 3, .int .i32 65533, .bool false] 55)).heap[W.heap.size]? = some (.stringIter s (pos + 3)) := ((Fr.refl (fun _ => False) W1).alloc _).at hit1 (fun h => h)
          obtain ⟨fn, tmps, assign, body, hy, hR⟩ := hyy
          have fin' := Lib.hid (fin)
          have hf1'' : Fr (fun k => k = W.heap.size) wr (W1.alloc (.cells #[.int .i64 pos, .int .i64 3, .int .i32 65533, .bool false] 55)) := hf1.alloc _
          have hf1' := Lib.hid hf1''
          clear hf1''
          have hitA' := Lib.hid hitB
          clear hbr hwd hlo hlb hv hx hx' hY hiA hD hext fin hf1 hitA heA hex1 hitB
          gi_wp2_with (gi_at_call 87; refine (CallsIn.mono (callsIn_wide.2 (hp _)) ?_); rintro e w' ⟨rfl, rfl⟩)
          refine hR.mono ?_
          rintro e W3 ⟨b, rfl, hex⟩
          rcases fin'.out b _ W3 hf1'.out hitA'.out hex with ⟨rfl, hrel, hmu⟩ | ⟨rfl, hend⟩
          · have hrel' := Lib.hid hrel; have hmu' := Lib.hid hmu
            clear hrel hmu hex fin' hitA' hf1'
            gi_wp2
            go_roundw
            case rel => exact hrel'.out
            case measure => exact hmu'.out
          · have hend' := Lib.hid hend
            clear hend hex fin' hitA' hf1'
            gi_wp2
            exact ⟨_, results_none rfl _ _ _, ⟨_, rfl⟩, hend'.out⟩
      · have h1' : ((r : Int) == 65533) = false := by simp; omega
        have hw2 : (Utf8.encode (r : Int)).size = wd := by rw [encode_size]; exact hwd (fun h => h1 h.1)
        have hbr : Pc.broken ⟨pos, wd, r⟩ = false := by simp [Pc.broken, h1]
        have hyy := hY pre ⟨pos, wd, r⟩ _ C (W1.alloc (.cells #[.int .i64 pos, .int .i64 wd, .int .i32 r, .bool false] 55)) hx (heA _ (hf1.alloc _)) (hiA _ (hf1.alloc _))
        simp only [encPc, hbr] at hyy
        obtain ⟨fn, tmps, assign, body, hy, hR⟩ := hyy
        have fin' := Lib.hid (fin)
        have hf1' := Lib.hid hf1
        have hitA' := Lib.hid hitA
        clear hbr h1 hwd hlo hlb hv hx hx' hY hiA hD hext fin hf1 hitA heA
        gi_wp2
        refine hR.mono ?_
        rintro e W3 ⟨b, rfl, hex⟩
        rcases fin'.out b _ W3 (hf1'.out.alloc _) (hitA'.out _) hex with ⟨rfl, hrel, hmu⟩ | ⟨rfl, hend⟩
        · have hrel' := Lib.hid hrel; have hmu' := Lib.hid hmu
          clear hrel hmu hex fin' hitA' hf1'
          gi_wp2
          go_roundw
          case rel => exact hrel'.out
          case measure => exact hmu'.out
        · have hend' := Lib.hid hend
          clear hend hex fin' hitA' hf1'
          gi_wp2
          exact ⟨_, results_none rfl _ _ _, ⟨_, rfl⟩, hend'.out⟩
    · have hnx : ∀ ty, (Instr.next (.pointer (some ⟨W.heap.size, 0, none⟩)) true ty).run Try.prog wr = _ := fun ty => Lib.run_next_end_at wr W.heap.size s pos ty hit hlt
      have hx0 : pcs s.data.toList = pre := by rw [hx, List.drop_eq_nil_of_le (by simp; omega), pcsFrom_nil, List.append_nil]
      have hend : ∃ C', Ext C0 C' W wr ∧ (I (pcs s.data.toList) C' wr ∨ ∃ pre x post, pcs s.data.toList = pre ++ x :: post ∧ X (pre ++ [x]) C' wr) := ⟨C, hext, .inl (by rw [hx0]; exact hi)⟩
      have hend' := Lib.hid hend
      clear hx0 hend hx hY hD
      gi_wp2
      exact ⟨_, results_none rfl _ _ _, ⟨_, rfl⟩, hend'.out⟩

end Go.Proofs.Ytlamcpgnmeileaa
namespace Go.Proofs.Ytlamcpgnmeileaa
open Go.RowKit Go.Lib

def evenB (r : Int) : Bool := decide (r % 2 = 0)
def greatP (r : Int) : Prop :=
  (65 ≤ r ∧ r ≤ 90) ∨ (0xC0 ≤ r ∧ r ≤ 0xDE ∧ r ≠ 0xD7) ∨ (((0x100 ≤ r ∧ r ≤ 0x137) ∨ (0x14A ≤ r ∧ r ≤ 0x177)) ∧ r % 2 = 0) ∨ (0x139 ≤ r ∧ r ≤ 0x148 ∧ r % 2 = 1) ∨ r = 0x178 ∨
  (0x179 ≤ r ∧ r ≤ 0x17D ∧ r % 2 = 1) ∨ (0x386 ≤ r ∧ r ≤ 0x38F ∧ r ≠ 0x387 ∧ r ≠ 0x38B ∧ r ≠ 0x38D) ∨ (0x391 ≤ r ∧ r ≤ 0x3AB ∧ r ≠ 0x3A2) ∨ (0x400 ≤ r ∧ r ≤ 0x42F)
instance (r : Int) : Decidable (greatP r) := by unfold greatP; infer_instance
def great (r : Int) : Bool := decide (greatP r)
def smallP (r : Int) : Prop :=
  (97 ≤ r ∧ r ≤ 122) ∨ (0xDF ≤ r ∧ r ≤ 0xFF ∧ r ≠ 0xF7) ∨ (((0x100 ≤ r ∧ r ≤ 0x137) ∨ (0x14A ≤ r ∧ r ≤ 0x177)) ∧ r % 2 = 1) ∨ r = 0x138 ∨ r = 0x149 ∨ r = 0x17F ∨ r = 0x390 ∨
  (0x139 ≤ r ∧ r ≤ 0x148 ∧ r % 2 = 0) ∨ (0x17A ≤ r ∧ r ≤ 0x17E ∧ r % 2 = 0) ∨ (0x3AC ≤ r ∧ r ≤ 0x3CE) ∨ (0x430 ≤ r ∧ r ≤ 0x45F)
instance (r : Int) : Decidable (smallP r) := by unfold smallP; infer_instance
def small (r : Int) : Bool := decide (smallP r)
def letter (r : Int) : Bool := great r || small r
def lower (r : Int) : Int :=
  if !great r then r
  else if r = 0x130 then 0x69 else if r = 0x178 then 0xFF else if r = 0x386 then 0x3AC else if r = 0x38C then 0x3CC
  else if 0x388 ≤ r ∧ r ≤ 0x38A then r + 0x25 else if r = 0x38E ∨ r = 0x38F then r + 0x3F
  else if 0x400 ≤ r ∧ r ≤ 0x40F then r + 0x50 else if r < 0x100 ∨ 0x17F < r then r + 0x20 else r + 1
def back (r : Int) : Int :=
  if r = 0xFF then 0xFF - 0x178
  else if r < 0x100 ∨ (0x3B1 ≤ r ∧ r ≤ 0x3CB) ∨ (0x430 ≤ r ∧ r ≤ 0x44F) then 0x20
  else if r ≤ 0x17F then 1
  else if r = 0x3AC then 0x3AC - 0x386
  else if 0x3AD ≤ r ∧ r ≤ 0x3AF then 0x25
  else if r = 0x3CC then 0x40
  else if r = 0x3CD ∨ r = 0x3CE then 0x3F
  else 0x50
def upper (r : Int) : Int :=
  if !small r then r
  else if r = 0x131 then 0x49 else if r = 0x17F then 0x53 else if r = 0x3C2 then 0x3A3
  else if great (r - back r) && (lower (r - back r) == r) then r - back r else r
def kindP (r : Int) : Int :=
  if r < 0 ∨ (0xD800 ≤ r ∧ r ≤ 0xDFFF) ∨ 0x10FFFF < r then 0
  else if letter r then 1
  else if 0x300 ≤ r ∧ r ≤ 0x36F then 2
  else if 48 ≤ r ∧ r ≤ 57 then 3
  else if r = 10 ∨ r = 13 then 4
  else if r = 9 ∨ r = 32 ∨ r = 0xA0 ∨ r = 0x202F ∨ r = 0x205F ∨ r = 0x3000 then 5
  else if r = 45 ∨ (0x2010 ≤ r ∧ r ≤ 0x2015) then 6
  else if r = 34 ∨ r = 39 ∨ r = 0xAB ∨ r = 0xBB ∨ r = 0x2039 ∨ r = 0x203A then 7
  else if r = 33 ∨ r = 44 ∨ r = 46 ∨ r = 58 ∨ r = 59 ∨ r = 63 ∨ r = 0xA1 ∨ r = 0xB7 ∨ r = 0xBF ∨ r = 0x2026 then 8
  else if 0x2000 ≤ r ∧ r ≤ 0x200A then 5
  else if 0x2018 ≤ r ∧ r ≤ 0x201F then 7
  else if r < 0x20 ∨ (0x7F ≤ r ∧ r ≤ 0x9F) ∨ (0x200B ≤ r ∧ r ≤ 0x200F) ∨ r = 0xFEFF then 9
  else 10
def kind (r : Int) : Int := kindP r

theorem great_iff (r : Int) : great r = true ↔ greatP r := by simp [great]
theorem small_iff (r : Int) : small r = true ↔ smallP r := by simp [small]

end Go.Proofs.Ytlamcpgnmeileaa
namespace Go.Proofs.Ytlamcpgnmeileaa
open Go.RowKit Go.Lib Go.Shelf
set_option linter.unusedVariables false
set_option linter.unusedSimpArgs false

theorem and1 (r : Int) (h0 : -2147483648 ≤ r) (h1 : r ≤ 2147483647) : (bits BinOp.and IntKind.i32 r 1 == 0) = evenB r := by
  have hk : bits .and .i32 r 1 = r % 2 := by
    have h1 : (BitVec.ofInt 32 1).toNat = 2 ^ 1 - 1 := by decide
    have key : (BitVec.ofInt 32 r &&& BitVec.ofInt 32 1).toNat = (r % ((2 ^ 32 : Nat) : Int)).toNat % 2 ^ 1 := by
      rw [BitVec.toNat_and, BitVec.toNat_ofInt, h1, Nat.and_two_pow_sub_one_eq_mod]
    show IntKind.i32.wrap ((BitVec.ofInt 32 r &&& BitVec.ofInt 32 1).toNat : Nat) = r % 2
    rw [key, IntKind.wrap_i32]
    omega
  rw [hk, evenB, Bool.eq_iff_iff]
  simp
theorem even_any (r : Int) (w : World) (h0 : -2147483648 ≤ r) (h1 : r ≤ 2147483647) :
    Calls Try.prog 38 #[.int .i32 r] w fun e w' => e = .returned (.bool (evenB r)) ∧ w = w' := by
  go_enter Try.func38, Try.ntmps38
  go_wp2
  go_ret
  exact ⟨ret_bool (and1 r h0 h1), rfl⟩

set_option maxHeartbeats 1000000 in
theorem great_any (r : Int) (w : World) (h0 : -2147483648 ≤ r) (h1 : r ≤ 2147483647) :
    Calls Try.prog 17 #[.int .i32 r] w fun e w' => e = .returned (.bool (great r)) ∧ w = w' := by
  go_enter Try.func17, Try.ntmps17
  go_wp2_with (go_at_call 38; refine (even_any _ _ (by omega) (by omega)).mono ?_; rintro e w' ⟨rfl, rfl⟩)
  all_goals
    go_ret
    refine ⟨ret_bool ?_, rfl⟩
    (go_light; rw [Bool.eq_iff_iff]; (try simp only [great_iff, greatP, evenB, decide_eq_true_eq, bne_iff_ne, ne_eq, Bool.not_eq_true', decide_eq_false_iff_not, Bool.and_eq_true, Bool.or_eq_true, Bool.or_eq_false_iff, Bool.and_eq_false_iff, bne_eq_false_iff_eq, beq_iff_eq, beq_eq_false_iff_ne, Bool.false_eq_true, false_iff, true_iff, iff_true, iff_false, Bool.not_eq_false', Bool.not_true, Bool.not_false] at *); omega)

set_option maxHeartbeats 1000000 in
theorem small_any (r : Int) (w : World) (h0 : -2147483648 ≤ r) (h1 : r ≤ 2147483647) :
    Calls Try.prog 65 #[.int .i32 r] w fun e w' => e = .returned (.bool (small r)) ∧ w = w' := by
  go_enter Try.func65, Try.ntmps65
  go_wp2_with (go_at_call 38; refine (even_any _ _ (by omega) (by omega)).mono ?_; rintro e w' ⟨rfl, rfl⟩)
  all_goals
    go_ret
    refine ⟨ret_bool ?_, rfl⟩
    (go_light; rw [Bool.eq_iff_iff]; (try simp only [small_iff, smallP, evenB, decide_eq_true_eq, bne_iff_ne, ne_eq, Bool.not_eq_true', decide_eq_false_iff_not, Bool.and_eq_true, Bool.or_eq_true, Bool.or_eq_false_iff, Bool.and_eq_false_iff, bne_eq_false_iff_eq, beq_iff_eq, beq_eq_false_iff_ne, Bool.false_eq_true, false_iff, true_iff, iff_true, iff_false, Bool.not_eq_false', Bool.not_true, Bool.not_false] at *); omega)

theorem letter_any (r : Int) (w : World) (h0 : -2147483648 ≤ r) (h1 : r ≤ 2147483647) :
    Calls Try.prog 36 #[.int .i32 r] w fun e w' => e = .returned (.bool (letter r)) ∧ w = w' := by
  go_enter Try.func36, Try.ntmps36
  go_wp2_with (first | (go_at_call 17; refine (great_any _ _ (by omega) (by omega)).mono ?_; rintro e w' ⟨rfl, rfl⟩) | (go_at_call 65; refine (small_any _ _ (by omega) (by omega)).mono ?_; rintro e w' ⟨rfl, rfl⟩))
  all_goals
    go_ret
    refine ⟨ret_bool ?_, rfl⟩
    go_light
    simp_all [letter]

set_option maxHeartbeats 1000000 in
theorem lower_any (r : Int) (w : World) (h0 : -2147483648 ≤ r) (h1 : r ≤ 2147483647) :
    Calls Try.prog 52 #[.int .i32 r] w fun e w' => e = .returned (.int .i32 (lower r)) ∧ w = w' := by
  by_cases hg : great r = true
  · have hb : r ≤ 2000 ∧ 0 ≤ r := by rw [great_iff] at hg; unfold greatP at hg; omega
    have hb1 := hb.1; have hb2 := hb.2; clear hb
    go_enter Try.func52, Try.ntmps52
    go_wp2_with (go_at_call 17; refine (great_any _ _ (by omega) (by omega)).mono ?_; rintro e w' ⟨rfl, rfl⟩)
    all_goals
      go_ret
      refine ⟨ret_int ?_, rfl⟩
      go_light
      grind [lower]
  · go_enter Try.func52, Try.ntmps52
    go_wp2_with (go_at_call 17; refine (great_any _ _ (by omega) (by omega)).mono ?_; rintro e w' ⟨rfl, rfl⟩)
    all_goals
      go_ret
      refine ⟨ret_int ?_, rfl⟩
      go_light
      simp_all [lower]

set_option maxHeartbeats 1000000 in
theorem back_any (r : Int) (w : World) (h0 : -2147483648 ≤ r) (h1 : r ≤ 2147483647) :
    Calls Try.prog 72 #[.int .i32 r] w fun e w' => e = .returned (.int .i32 (back r)) ∧ w = w' := by
  go_enter Try.func72, Try.ntmps72
  go_wp2
  all_goals
    go_ret
    refine ⟨ret_int ?_, rfl⟩
    go_light
    grind [back]

theorem back_bd (r : Int) : -300 ≤ back r ∧ back r ≤ 300 := by unfold back; (repeat' split) <;> omega
set_option maxHeartbeats 1000000 in
theorem upper_any (r : Int) (w : World) (h0 : -2147483648 ≤ r) (h1 : r ≤ 2147483647) :
    Calls Try.prog 47 #[.int .i32 r] w fun e w' => e = .returned (.int .i32 (upper r)) ∧ w = w' := by
  have hbd1 := (back_bd r).1
  have hbd2 := (back_bd r).2
  by_cases hg : small r = true
  · have hb : r ≤ 2000 ∧ 0 ≤ r := by rw [small_iff] at hg; unfold smallP at hg; omega
    have hb1 := hb.1; have hb2 := hb.2; clear hb
    go_enter Try.func47, Try.ntmps47
    go_wp2_with (first | (go_at_call 65; refine (small_any _ _ (by omega) (by omega)).mono ?_; rintro e w' ⟨rfl, rfl⟩) | (go_at_call 72; refine (back_any _ _ (by omega) (by omega)).mono ?_; rintro e w' ⟨rfl, rfl⟩) | (go_at_call 17; refine (great_any _ _ (by omega) (by omega)).mono ?_; rintro e w' ⟨rfl, rfl⟩) | (go_at_call 52; refine (lower_any _ _ (by omega) (by omega)).mono ?_; rintro e w' ⟨rfl, rfl⟩))
    all_goals
      go_ret
      refine ⟨ret_int ?_, rfl⟩
      go_light
      grind [upper]
  · go_enter Try.func47, Try.ntmps47
    go_wp2_with (first | (go_at_call 65; refine (small_any _ _ (by omega) (by omega)).mono ?_; rintro e w' ⟨rfl, rfl⟩))
    all_goals
      go_ret
      refine ⟨ret_int ?_, rfl⟩
      go_light
      simp_all [upper]

theorem mark_any (r : Int) (w : World) (h0 : -2147483648 ≤ r) (h1 : r ≤ 2147483647) :
    Calls Try.prog 37 #[.int .i32 r] w fun e w' => e = .returned (.bool (decide (0x300 ≤ r ∧ r ≤ 0x36F))) ∧ w = w' := by
  go_enter Try.func37, Try.ntmps37
  go_wp2
  all_goals
    go_ret
    refine ⟨ret_bool ?_, rfl⟩
    (go_light; rw [Bool.eq_iff_iff]; simp only [decide_eq_true_eq, bne_iff_ne, ne_eq, Bool.not_eq_true', decide_eq_false_iff_not, Bool.and_eq_true, Bool.or_eq_true, Bool.or_eq_false_iff, Bool.and_eq_false_iff, bne_eq_false_iff_eq, beq_iff_eq, beq_eq_false_iff_ne, Bool.false_eq_true, false_iff, true_iff, iff_true, iff_false, Bool.not_eq_false', Bool.not_true, Bool.not_false] at *; omega)

end Go.Proofs.Ytlamcpgnmeileaa
namespace Go.Proofs.Ytlamcpgnmeileaa
open Go.RowKit Go.Lib Go.Shelf
set_option linter.unusedVariables false
set_option linter.unusedSimpArgs false

set_option maxHeartbeats 4000000 in
theorem kind_any (r : Int) (w : World) (h0 : -2147483648 ≤ r) (h1 : r ≤ 2147483647) :
    Calls Try.prog 16 #[.int .i32 r] w fun e w' => e = .returned (.int .i64 (kind r)) ∧ w = w' := by
  go_enter Try.func16, Try.ntmps16
  go_wp2_with (first | (go_at_call 36; refine (letter_any _ _ (by omega) (by omega)).mono ?_; rintro e w' ⟨rfl, rfl⟩) | (go_at_call 37; refine (mark_any _ _ (by omega) (by omega)).mono ?_; rintro e w' ⟨rfl, rfl⟩))
  all_goals
    go_ret
    refine ⟨ret_int ?_, rfl⟩
    go_light
    try simp only [decide_eq_true_eq, bne_iff_ne, ne_eq, Bool.not_eq_true', decide_eq_false_iff_not, Bool.and_eq_true, Bool.or_eq_true, Bool.or_eq_false_iff, Bool.and_eq_false_iff, bne_eq_false_iff_eq, beq_iff_eq, beq_eq_false_iff_ne, Bool.false_eq_true, false_iff, true_iff, iff_true, iff_false, Bool.not_eq_false', Bool.not_true, Bool.not_false] at *
    grind [kind, kindP]

/-- A piece's kind. -/
def kindOf (b : Bool) (r : Int) : Int := if b then 11 else kind r

theorem of_any (i wd r : Int) (b : Bool) (w : World) (h0 : -2147483648 ≤ r) (h1 : r ≤ 2147483647) :
    Calls Try.prog 68 #[.agg #[.int .i64 i, .int .i64 wd, .int .i32 r, .bool b]] w fun e w' => e = .returned (.int .i64 (kindOf b r)) ∧ Below w.heap.size w w' := by
  cases b
  · go_enter Try.func68, Try.ntmps68
    go_wp2_with (go_at_call 16; refine (kind_any _ _ (by omega) (by omega)).mono ?_; rintro e w' ⟨rfl, rfl⟩)
    go_ret
    exact ⟨ret_int (by simp [kindOf]), (Below.refl _ _).alloc (Nat.le_refl _) _⟩
  · go_enter Try.func68, Try.ntmps68
    go_wp2_with (go_at_call 16; refine (kind_any _ _ (by omega) (by omega)).mono ?_; rintro e w' ⟨rfl, rfl⟩)
    go_ret
    exact ⟨ret_int (by simp [kindOf]), (Below.refl _ _).alloc (Nat.le_refl _) _⟩


end Go.Proofs.Ytlamcpgnmeileaa
namespace Go.Proofs.Ytlamcpgnmeileaa
open Go.RowKit Go.Lib Go.Shelf
set_option linter.unusedVariables false
set_option linter.unusedSimpArgs false

def vowelRunes : List Int := [0x101, 0x103, 0x105, 0x113, 0x115, 0x117, 0x119, 0x11b, 0x129, 0x12b, 0x12d, 0x12f, 0x131, 0x14d, 0x14f, 0x151, 0x153, 0x169, 0x16b, 0x16d, 0x16f, 0x171, 0x173, 0x177,
  0x390, 0x3ac, 0x3ad, 0x3ae, 0x3af, 0x3b0, 0x3b1, 0x3b5, 0x3b7, 0x3b9, 0x3bf, 0x3c5, 0x3c9, 0x3ca, 0x3cb, 0x3cc, 0x3cd, 0x3ce,
  0x430, 0x435, 0x438, 0x43e, 0x443, 0x44b, 0x44d, 0x44e, 0x44f, 0x450, 0x451, 0x454, 0x456, 0x457, 0x45d]
def vowelS : ByteArray := ⟨#[196, 129, 196, 131, 196, 133, 196, 147, 196, 149, 196, 151, 196, 153, 196, 155, 196, 169, 196, 171, 196, 173, 196, 175, 196, 177, 197, 141, 197, 143, 197, 145, 197, 147, 197, 169, 197, 171, 197, 173, 197, 175, 197, 177, 197, 179, 197, 183, 206, 144, 206, 172, 206, 173, 206, 174, 206, 175, 206, 176, 206, 177, 206, 181, 206, 183, 206, 185, 206, 191, 207, 133, 207, 137, 207, 138, 207, 139, 207, 140, 207, 141, 207, 142, 208, 176, 208, 181, 208, 184, 208, 190, 209, 131, 209, 139, 209, 141, 209, 142, 209, 143, 209, 144, 209, 145, 209, 148, 209, 150, 209, 151, 209, 157]⟩
theorem vowelS_runes : (pcs vowelS.data.toList).map (fun p => (p.r : Int)) = vowelRunes := by decide +kernel
/-- A range over vowelS that looks for a rune: at a round's head. -/
def VowRel (w : World) (x : Int) (wr : World) : Prop :=
  ∃ pre pos, pcs vowelS.data.toList = pre ++ pcsFrom pos (vowelS.data.toList.drop pos) ∧ pos ≤ vowelS.size ∧ (∀ p ∈ pre, (Pc.r p : Int) ≠ x) ∧ Below w.heap.size w wr ∧ wr.heap[w.heap.size]? = some (.stringIter vowelS pos)
theorem VowRel.start (w : World) (x : Int) : VowRel w x (w.iter vowelS 0) :=
  ⟨[], 0, rfl, Nat.zero_le _, by simp, (Below.refl _ _).alloc (Nat.le_refl _) _, World.iter_heap w vowelS 0⟩
theorem VowRel.round {P : Program} {w wr : World} {x : Int} (h : VowRel w x wr) :
    (∃ (pos r : Nat) (W1 : World), (∀ ty, (Instr.next (.pointer (some ⟨w.heap.size, 0, none⟩)) true ty).run P wr = .ok (.tuple #[.bool true, .int .i64 pos, .int .i32 r]) W1) ∧ Below w.heap.size w W1 ∧
      (((r : Int) = x ∧ vowelRunes.contains x = true) ∨ ((r : Int) ≠ x ∧ VowRel w x W1 ∧ vowelS.size - W1.iterPos w.heap.size < vowelS.size - wr.iterPos w.heap.size))) ∨
    ((∀ ty, (Instr.next (.pointer (some ⟨w.heap.size, 0, none⟩)) true ty).run P wr = .ok (.tuple #[.bool false]) wr) ∧ Below w.heap.size w wr ∧ vowelRunes.contains x = false) := by
  obtain ⟨pre, pos, hx, hpos, hpre, hb, hit⟩ := h
  by_cases hlt : pos < vowelS.size
  · obtain ⟨r, wd, W1, hn, hf, hit1, hsz, hok, hp, hle, h1⟩ := next_some P wr w.heap.size vowelS pos hit hlt
    have hb1 : Below w.heap.size w W1 := hb.trans (hf.toBelow hb.size (by intro k hk; omega))
    refine .inl ⟨pos, r, W1, hn, hb1, ?_⟩
    rw [hp] at hx
    by_cases he : (r : Int) = x
    · refine .inl ⟨he, ?_⟩
      rw [← vowelS_runes, hx, List.contains_iff_mem, List.mem_map]
      exact ⟨⟨pos, wd, r⟩, by simp, he⟩
    · refine .inr ⟨he, ⟨pre ++ [⟨pos, wd, r⟩], pos + wd, by rw [hx]; simp, hle, ?_, hb1, hit1⟩, ?_⟩
      · intro p hp
        rcases List.mem_append.1 hp with h | h
        · exact hpre p h
        · simp at h; subst h; exact he
      · rw [iterPos_at hit, iterPos_at hit1]; omega
  · obtain ⟨hn, hp⟩ := next_none P wr w.heap.size vowelS pos hit hlt
    refine .inr ⟨hn, hb, ?_⟩
    rw [hp, List.append_nil] at hx
    rw [← vowelS_runes, hx, ← Bool.not_eq_true, List.contains_iff_mem, List.mem_map]
    rintro ⟨p, hm, he⟩
    exact hpre p hm he

end Go.Proofs.Ytlamcpgnmeileaa
namespace Go.Proofs.Ytlamcpgnmeileaa
open Go.RowKit Go.Lib Go.Shelf
set_option linter.unusedVariables false
set_option linter.unusedSimpArgs false

end Go.Proofs.Ytlamcpgnmeileaa
namespace Go.Proofs.Ytlamcpgnmeileaa
open Go.RowKit Go.Lib Go.Shelf
set_option linter.unusedVariables false
set_option linter.unusedSimpArgs false

end Go.Proofs.Ytlamcpgnmeileaa
namespace Go.Proofs.Ytlamcpgnmeileaa
open Go.RowKit Go.Lib
set_option linter.unusedVariables false
set_option linter.unusedSimpArgs false
end Go.Proofs.Ytlamcpgnmeileaa
namespace Go.Proofs.Ytlamcpgnmeileaa
open Go.RowKit Go.Lib
set_option linter.unusedVariables false
set_option linter.unusedSimpArgs false

/-- Where the k-th piece begins. -/
def posAt (s : ByteArray) (k : Nat) : Nat := match (pcs s.data.toList)[k]? with
  | some p => p.i
  | none => s.size
theorem posAt_some {s : ByteArray} {k : Nat} {p : Pc} (h : (pcs s.data.toList)[k]? = some p) : posAt s k = p.i := by simp [posAt, h]
theorem posAt_zero (s : ByteArray) : posAt s 0 = 0 := by
  unfold posAt
  by_cases h : s.data.toList = []
  · have : s.size = 0 := by have := congrArg List.length h; simpa using this
    simp [h, pcs, pcsFrom_nil, this]
  · simp [pcs, pcsFrom_cons 0 _ h]
theorem posAt_next {s : ByteArray} {k : Nat} {p : Pc} (h : (pcs s.data.toList)[k]? = some p) : posAt s (k + 1) = p.i + p.w ∧ pcsFrom p.i (s.data.toList.drop p.i) = p :: (pcs s.data.toList).drop (k + 1) := by
  have hk : k < (pcs s.data.toList).length := (List.getElem?_eq_some_iff.1 h).1
  have he : pcs s.data.toList = (pcs s.data.toList).take k ++ p :: (pcs s.data.toList).drop (k + 1) := by
    have h1 := List.drop_eq_getElem_cons hk
    have h2 : (pcs s.data.toList)[k] = p := (List.getElem?_eq_some_iff.1 h).2
    rw [h2] at h1
    rw [← h1, List.take_append_drop]
  obtain ⟨q1, q2, q3, q4⟩ := pcs_split s.data.toList _ p _ he
  have hlen : s.data.toList.length = s.size := by rw [Array.length_toList]; rfl
  refine ⟨?_, q3⟩
  unfold posAt
  have hget : (pcs s.data.toList)[k + 1]? = ((pcs s.data.toList).drop (k + 1))[0]? := by simp
  rw [hget, q4]
  by_cases hd' : s.data.toList.drop (p.i + p.w) = []
  · rw [hd', pcsFrom_nil]
    have h5 := congrArg List.length hd'
    simp only [List.length_drop, List.length_nil, hlen] at h5
    obtain ⟨_, h6, _⟩ := pcs_pos s.data.toList p (List.mem_of_getElem? h)
    simp; omega
  · rw [pcsFrom_cons _ _ hd']; simp
section
variable {F : Fence} {P : Program} {w0 : World} {K : Nat → Prop} {N : Nat} {dfs : List Deferred} {ops : Array Oper} {Q : Exit → Act → World → Prop} {rest : List Oper} {σ : List (Nat × Value)} {L : List Asn}
  {d : Nat} {t : TypeId} {ty : TypeId} {pos : String} {aft : Array Edge} {g : Option (Nat × Bool)} {x : Operand} {k : Nat} {s : ByteArray}
theorem TO.rangeStr [WideF F] (ht : P.underlying t = some .string) (hg : gd ops σ g = some true) (hd : d < N) (hx : ev σ x = some (.string s))
    (h : ∀ b, TO F P w0 K N dfs ops Q rest ((d, .pointer (some ⟨b, 0, none⟩)) :: σ) (L ++ [obj b (.stringIter s (posAt s 0))])) : TO F P w0 K N dfs ops Q (⟨some d, .range t x, ty, pos, aft, g⟩ :: rest) σ L :=
  TO.step hg (by simp) fun a w ha hw => ⟨.pointer (some ⟨w.heap.size, 0, none⟩), w.alloc (.stringIter s 0), by simp [execOp, ha.ev hx, Instr.range, run_underlying ht, Sem.run_bind], h _ _ _ (ha.put hd _) (by rw [posAt_zero]; exact hw.alloc _)⟩
theorem TO.nextStr [WideF F] {it m : Nat} {p : Pc} (hg : gd ops σ g = some true) (hd : d < N) (hx : ev σ x = some (.pointer (some ⟨it, 0, none⟩))) (hk : L[k]? = some (obj it (.stringIter s (posAt s m)))) (hp : (pcs s.data.toList)[m]? = some p)
    (h : TO F P w0 K N dfs ops Q rest ((d, .tuple #[.bool true, .int .i64 p.i, .int .i32 p.r]) :: σ) (L.set k (obj it (.stringIter s (posAt s (m + 1)))))) : TO F P w0 K N dfs ops Q (⟨some d, .next x true, ty, pos, aft, g⟩ :: rest) σ L := by
  refine TO.step hg (by simp) fun a w ha hw => ?_
  have hit := hw.obj hk
  rw [posAt_some hp] at hit
  obtain ⟨h1, h2⟩ := posAt_next hp
  have hmem := List.mem_of_getElem? hp
  obtain ⟨g1, g2, _⟩ := pcs_pos s.data.toList p hmem
  have hlen : s.data.toList.length = s.size := by rw [Array.length_toList]; rfl
  obtain ⟨r, wd, W1, e1, e2, e3, e4, e5, e6, e7, e8⟩ := next_some P w it s p.i hit (by omega)
  rw [h2] at e6
  have hpe : p = ⟨p.i, wd, r⟩ := (List.cons.inj e6).1
  have hw' : p.w = wd := congrArg Pc.w hpe
  have hr : p.r = r := congrArg Pc.r hpe
  obtain ⟨C1, c1, c2⟩ := hw.focus hk
  refine ⟨.tuple #[.bool true, .int .i64 p.i, .int .i32 p.r], W1, by rw [hr]; simp [execOp, ha.ev hx, e1, Sem.run_bind], h _ _ (ha.put hd _) (c2 _ C1 W1 ⟨?_, fun j hj => .inl hj⟩ ⟨c1.1, by rw [h1, hw']; exact e3⟩)⟩
  exact e2.weaken (fun i _ hi => by subst hi; exact (c1.1 _).2 rfl)
theorem TO.nextEnd [WideF F] {it m : Nat} (hg : gd ops σ g = some true) (hd : d < N) (hx : ev σ x = some (.pointer (some ⟨it, 0, none⟩))) (hk : L[k]? = some (obj it (.stringIter s (posAt s m)))) (hm : (pcs s.data.toList).length ≤ m)
    (h : TO F P w0 K N dfs ops Q rest ((d, .tuple #[.bool false]) :: σ) L) : TO F P w0 K N dfs ops Q (⟨some d, .next x true, ty, pos, aft, g⟩ :: rest) σ L := by
  refine TO.step hg (by simp) fun a w ha hw => ?_
  have hit := hw.obj hk
  have e : posAt s m = s.size := by simp [posAt, List.getElem?_eq_none hm]
  rw [e] at hit
  exact ⟨_, w, by simp [execOp, ha.ev hx, (next_none P w it s s.size hit (by omega)).1, Sem.run_bind], h _ _ (ha.put hd _) hw⟩
end
end Go.Proofs.Ytlamcpgnmeileaa
namespace Go.Proofs.Ytlamcpgnmeileaa
open Go.RowKit Go.Lib
set_option linter.unusedVariables false
set_option linter.unusedSimpArgs false
def str_f9f7e721 : ByteArray := ⟨(List.toArray (List.append [195, 159, 115, 115, 32, 195, 166, 97, 101, 32, 195, 184, 111, 32, 195, 176, 100, 32, 195, 190, 116, 104, 32, 196, 145, 100, 32, 196, 167, 104, 32, 196, 177, 105, 32, 196, 179, 105, 106] [32, 196, 184, 113, 32, 197, 128, 108, 32, 197, 130, 108, 32, 197, 137, 110, 32, 197, 139, 110, 103, 32, 197, 147, 111, 101, 32, 197, 167, 116, 32, 197, 191, 115, 32, 207, 130, 207, 131, 32]))⟩
def fold_Low_v (r1 : Int) : Option Bool := joinK (fun (j1 : Bool → Option Bool) => bcond (decide ((790 : Int) ≤ r1)) ( bcond (decide ((r1 : Int) ≤ 793)) ( j1 (decide ((r1 : Int) ≤ 793))
) ( bcond (decide ((796 : Int) ≤ r1)) ( bcond (decide ((r1 : Int) ≤ 800)) ( j1 (decide ((r1 : Int) ≤ 800))
) ( bcond (decide ((803 : Int) ≤ r1)) ( bcond (decide ((r1 : Int) ≤ 819)) ( j1 (decide ((r1 : Int) ≤ 819))
) ( bcond (decide ((825 : Int) ≤ r1)) ( bcond (decide ((r1 : Int) ≤ 828)) ( j1 (decide ((r1 : Int) ≤ 828))
) ( bcond (decide ((837 : Int) ≤ r1)) ( j1 (decide ((r1 : Int) ≤ 841))
) ( j1 false
)
)
) ( bcond (decide ((837 : Int) ≤ r1)) ( j1 (decide ((r1 : Int) ≤ 841))
) ( j1 false
)
)
)
) ( bcond (decide ((825 : Int) ≤ r1)) ( bcond (decide ((r1 : Int) ≤ 828)) ( j1 (decide ((r1 : Int) ≤ 828))
) ( bcond (decide ((837 : Int) ≤ r1)) ( j1 (decide ((r1 : Int) ≤ 841))
) ( j1 false
)
)
) ( bcond (decide ((837 : Int) ≤ r1)) ( j1 (decide ((r1 : Int) ≤ 841))
) ( j1 false
)
)
)
)
) ( bcond (decide ((803 : Int) ≤ r1)) ( bcond (decide ((r1 : Int) ≤ 819)) ( j1 (decide ((r1 : Int) ≤ 819))
) ( bcond (decide ((825 : Int) ≤ r1)) ( bcond (decide ((r1 : Int) ≤ 828)) ( j1 (decide ((r1 : Int) ≤ 828))
) ( bcond (decide ((837 : Int) ≤ r1)) ( j1 (decide ((r1 : Int) ≤ 841))
) ( j1 false
)
)
) ( bcond (decide ((837 : Int) ≤ r1)) ( j1 (decide ((r1 : Int) ≤ 841))
) ( j1 false
)
)
)
) ( bcond (decide ((825 : Int) ≤ r1)) ( bcond (decide ((r1 : Int) ≤ 828)) ( j1 (decide ((r1 : Int) ≤ 828))
) ( bcond (decide ((837 : Int) ≤ r1)) ( j1 (decide ((r1 : Int) ≤ 841))
) ( j1 false
)
)
) ( bcond (decide ((837 : Int) ≤ r1)) ( j1 (decide ((r1 : Int) ≤ 841))
) ( j1 false
)
)
)
)
)
) ( bcond (decide ((796 : Int) ≤ r1)) ( bcond (decide ((r1 : Int) ≤ 800)) ( j1 (decide ((r1 : Int) ≤ 800))
) ( bcond (decide ((803 : Int) ≤ r1)) ( bcond (decide ((r1 : Int) ≤ 819)) ( j1 (decide ((r1 : Int) ≤ 819))
) ( bcond (decide ((825 : Int) ≤ r1)) ( bcond (decide ((r1 : Int) ≤ 828)) ( j1 (decide ((r1 : Int) ≤ 828))
) ( bcond (decide ((837 : Int) ≤ r1)) ( j1 (decide ((r1 : Int) ≤ 841))
) ( j1 false
)
)
) ( bcond (decide ((837 : Int) ≤ r1)) ( j1 (decide ((r1 : Int) ≤ 841))
) ( j1 false
)
)
)
) ( bcond (decide ((825 : Int) ≤ r1)) ( bcond (decide ((r1 : Int) ≤ 828)) ( j1 (decide ((r1 : Int) ≤ 828))
) ( bcond (decide ((837 : Int) ≤ r1)) ( j1 (decide ((r1 : Int) ≤ 841))
) ( j1 false
)
)
) ( bcond (decide ((837 : Int) ≤ r1)) ( j1 (decide ((r1 : Int) ≤ 841))
) ( j1 false
)
)
)
)
) ( bcond (decide ((803 : Int) ≤ r1)) ( bcond (decide ((r1 : Int) ≤ 819)) ( j1 (decide ((r1 : Int) ≤ 819))
) ( bcond (decide ((825 : Int) ≤ r1)) ( bcond (decide ((r1 : Int) ≤ 828)) ( j1 (decide ((r1 : Int) ≤ 828))
) ( bcond (decide ((837 : Int) ≤ r1)) ( j1 (decide ((r1 : Int) ≤ 841))
) ( j1 false
)
)
) ( bcond (decide ((837 : Int) ≤ r1)) ( j1 (decide ((r1 : Int) ≤ 841))
) ( j1 false
)
)
)
) ( bcond (decide ((825 : Int) ≤ r1)) ( bcond (decide ((r1 : Int) ≤ 828)) ( j1 (decide ((r1 : Int) ≤ 828))
) ( bcond (decide ((837 : Int) ≤ r1)) ( j1 (decide ((r1 : Int) ≤ 841))
) ( j1 false
)
)
) ( bcond (decide ((837 : Int) ≤ r1)) ( j1 (decide ((r1 : Int) ≤ 841))
) ( j1 false
)
)
)
)
)
) (fun (x1 : Bool) => bcond (x1) ( some true
) ( joinK (fun (j2 : Bool → Option Bool) => bcond (decide ((845 : Int) ≤ r1)) ( bcond (decide ((r1 : Int) ≤ 846)) ( j2 (decide ((r1 : Int) ≤ 846))
) ( bcond (decide ((851 : Int) ≤ r1)) ( bcond (decide ((r1 : Int) ≤ 854)) ( j2 (decide ((r1 : Int) ≤ 854))
) ( bcond (decide ((857 : Int) ≤ r1)) ( j2 (decide ((r1 : Int) ≤ 858))
) ( j2 false
)
)
) ( bcond (decide ((857 : Int) ≤ r1)) ( j2 (decide ((r1 : Int) ≤ 858))
) ( j2 false
)
)
)
) ( bcond (decide ((851 : Int) ≤ r1)) ( bcond (decide ((r1 : Int) ≤ 854)) ( j2 (decide ((r1 : Int) ≤ 854))
) ( bcond (decide ((857 : Int) ≤ r1)) ( j2 (decide ((r1 : Int) ≤ 858))
) ( j2 false
)
)
) ( bcond (decide ((857 : Int) ≤ r1)) ( j2 (decide ((r1 : Int) ≤ 858))
) ( j2 false
)
)
)
) (fun (x2 : Bool) => bcond (x2) ( some true
) ( some false
)
)
)
)
set_option maxRecDepth 100000 in
set_option maxHeartbeats 4000000 in
theorem fold_Low_fn {r1 : Int} {r : Bool} (h : fold_Low_v r1 = some r) : FnP Try.prog 74 [.int .i32 r1] (.bool r) := by
 unfold fold_Low_v at h
 refine FnP.intro Try.func74 rfl Try.ntmps74 (by simp) ?_
 intro w0 K
 refine TC.seq (TC.region (TO.assign rfl dc rfl (TO.nil (TX.next (TC.seq (TC.block ?_))))))
 obtain ⟨j1, hj1, h⟩ := joinE h
 refine TC.cutN (β := Bool) 0 rfl (fun b => j1 b = some r) (fun b => []) (fun b => [(0, .int .i32 r1), (3, .bool b)]) (fun b => []) (fun cut => ?_) ?_
 ·
  refine cut (TC.seq (TC.region (TO.move rfl dc rfl (TO.bin rfl dc rfl rfl bin_geq (TO.move rfl dc rfl ?_)))))
  refine TO.split (s := 6) rfl (fun hb1 => ?_) (fun hb1 => ?_)
  ·
   have h := condT hb1 h
   refine TO.move rfl dc rfl (TO.bin rfl dc rfl rfl bin_leq (TO.pick (b := true) rfl dc rfl rfl (TO.assign rfl dc rfl (TO.nil (TX.next ?_)))))
   refine TC.condB rfl (fun hb2 => ?_) (fun hb2 => ?_)
   ·
    have h := condT hb2 h
    refine TC.skip ?_
    exact TX.meetD (decide ((r1 : Int) ≤ 793)) h rfl (Sbs.cons rfl (Sbs.cons rfl (Sbs.nil))) Splits.nil
   ·
    have h := condF hb2 h
    refine TC.seq (TC.region (TO.move rfl dc rfl (TO.bin rfl dc rfl rfl bin_geq (TO.move rfl dc rfl ?_))))
    refine TO.split (s := 12) rfl (fun hb3 => ?_) (fun hb3 => ?_)
    ·
     have h := condT hb3 h
     refine TO.move rfl dc rfl (TO.bin rfl dc rfl rfl bin_leq (TO.pick (b := true) rfl dc rfl rfl (TO.assign rfl dc rfl (TO.nil (TX.next ?_)))))
     refine TC.condB rfl (fun hb4 => ?_) (fun hb4 => ?_)
     ·
      have h := condT hb4 h
      refine TC.skip ?_
      exact TX.meetD (decide ((r1 : Int) ≤ 800)) h rfl (Sbs.cons rfl (Sbs.cons rfl (Sbs.nil))) Splits.nil
     ·
      have h := condF hb4 h
      refine TC.seq (TC.region (TO.move rfl dc rfl (TO.bin rfl dc rfl rfl bin_geq (TO.move rfl dc rfl ?_))))
      refine TO.split (s := 18) rfl (fun hb5 => ?_) (fun hb5 => ?_)
      ·
       have h := condT hb5 h
       refine TO.move rfl dc rfl (TO.bin rfl dc rfl rfl bin_leq (TO.pick (b := true) rfl dc rfl rfl (TO.assign rfl dc rfl (TO.nil (TX.next ?_)))))
       refine TC.condB rfl (fun hb6 => ?_) (fun hb6 => ?_)
       ·
        have h := condT hb6 h
        refine TC.skip ?_
        exact TX.meetD (decide ((r1 : Int) ≤ 819)) h rfl (Sbs.cons rfl (Sbs.cons rfl (Sbs.nil))) Splits.nil
       ·
        have h := condF hb6 h
        refine TC.seq (TC.region (TO.move rfl dc rfl (TO.bin rfl dc rfl rfl bin_geq (TO.move rfl dc rfl ?_))))
        refine TO.split (s := 24) rfl (fun hb7 => ?_) (fun hb7 => ?_)
        ·
         have h := condT hb7 h
         refine TO.move rfl dc rfl (TO.bin rfl dc rfl rfl bin_leq (TO.pick (b := true) rfl dc rfl rfl (TO.assign rfl dc rfl (TO.nil (TX.next ?_)))))
         refine TC.condB rfl (fun hb8 => ?_) (fun hb8 => ?_)
         ·
          have h := condT hb8 h
          refine TC.skip ?_
          exact TX.meetD (decide ((r1 : Int) ≤ 828)) h rfl (Sbs.cons rfl (Sbs.cons rfl (Sbs.nil))) Splits.nil
         ·
          have h := condF hb8 h
          refine TC.region (TO.move rfl dc rfl (TO.bin rfl dc rfl rfl bin_geq (TO.move rfl dc rfl ?_)))
          refine TO.split (s := 30) rfl (fun hb9 => ?_) (fun hb9 => ?_)
          ·
           have h := condT hb9 h
           refine TO.move rfl dc rfl (TO.bin rfl dc rfl rfl bin_leq (TO.pick (b := true) rfl dc rfl rfl (TO.assign rfl dc rfl (TO.nil ?_))))
           exact TX.meetD (decide ((r1 : Int) ≤ 841)) h rfl (Sbs.cons rfl (Sbs.cons rfl (Sbs.nil))) Splits.nil
          ·
           have h := condF hb9 h
           refine TO.skip rfl dc (TO.skip rfl dc (TO.pick (b := false) rfl dc rfl rfl (TO.assign rfl dc rfl (TO.nil ?_))))
           exact TX.meetD false h rfl (Sbs.cons rfl (Sbs.cons rfl (Sbs.nil))) Splits.nil
        ·
         have h := condF hb7 h
         refine TO.skip rfl dc (TO.skip rfl dc (TO.pick (b := false) rfl dc rfl rfl (TO.assign rfl dc rfl (TO.nil (TX.next (TC.condF rfl (TC.region (TO.move rfl dc rfl (TO.bin rfl dc rfl rfl bin_geq (TO.move rfl dc rfl ?_))))))))))
         refine TO.split (s := 30) rfl (fun hb10 => ?_) (fun hb10 => ?_)
         ·
          have h := condT hb10 h
          refine TO.move rfl dc rfl (TO.bin rfl dc rfl rfl bin_leq (TO.pick (b := true) rfl dc rfl rfl (TO.assign rfl dc rfl (TO.nil ?_))))
          exact TX.meetD (decide ((r1 : Int) ≤ 841)) h rfl (Sbs.cons rfl (Sbs.cons rfl (Sbs.nil))) Splits.nil
         ·
          have h := condF hb10 h
          refine TO.skip rfl dc (TO.skip rfl dc (TO.pick (b := false) rfl dc rfl rfl (TO.assign rfl dc rfl (TO.nil ?_))))
          exact TX.meetD false h rfl (Sbs.cons rfl (Sbs.cons rfl (Sbs.nil))) Splits.nil
      ·
       have h := condF hb5 h
       refine TO.skip rfl dc (TO.skip rfl dc (TO.pick (b := false) rfl dc rfl rfl (TO.assign rfl dc rfl (TO.nil (TX.next (TC.condF rfl (TC.seq (TC.region (TO.move rfl dc rfl (TO.bin rfl dc rfl rfl bin_geq (TO.move rfl dc rfl ?_)))))))))))
       refine TO.split (s := 24) rfl (fun hb11 => ?_) (fun hb11 => ?_)
       ·
        have h := condT hb11 h
        refine TO.move rfl dc rfl (TO.bin rfl dc rfl rfl bin_leq (TO.pick (b := true) rfl dc rfl rfl (TO.assign rfl dc rfl (TO.nil (TX.next ?_)))))
        refine TC.condB rfl (fun hb12 => ?_) (fun hb12 => ?_)
        ·
         have h := condT hb12 h
         refine TC.skip ?_
         exact TX.meetD (decide ((r1 : Int) ≤ 828)) h rfl (Sbs.cons rfl (Sbs.cons rfl (Sbs.nil))) Splits.nil
        ·
         have h := condF hb12 h
         refine TC.region (TO.move rfl dc rfl (TO.bin rfl dc rfl rfl bin_geq (TO.move rfl dc rfl ?_)))
         refine TO.split (s := 30) rfl (fun hb13 => ?_) (fun hb13 => ?_)
         ·
          have h := condT hb13 h
          refine TO.move rfl dc rfl (TO.bin rfl dc rfl rfl bin_leq (TO.pick (b := true) rfl dc rfl rfl (TO.assign rfl dc rfl (TO.nil ?_))))
          exact TX.meetD (decide ((r1 : Int) ≤ 841)) h rfl (Sbs.cons rfl (Sbs.cons rfl (Sbs.nil))) Splits.nil
         ·
          have h := condF hb13 h
          refine TO.skip rfl dc (TO.skip rfl dc (TO.pick (b := false) rfl dc rfl rfl (TO.assign rfl dc rfl (TO.nil ?_))))
          exact TX.meetD false h rfl (Sbs.cons rfl (Sbs.cons rfl (Sbs.nil))) Splits.nil
       ·
        have h := condF hb11 h
        refine TO.skip rfl dc (TO.skip rfl dc (TO.pick (b := false) rfl dc rfl rfl (TO.assign rfl dc rfl (TO.nil (TX.next (TC.condF rfl (TC.region (TO.move rfl dc rfl (TO.bin rfl dc rfl rfl bin_geq (TO.move rfl dc rfl ?_))))))))))
        refine TO.split (s := 30) rfl (fun hb14 => ?_) (fun hb14 => ?_)
        ·
         have h := condT hb14 h
         refine TO.move rfl dc rfl (TO.bin rfl dc rfl rfl bin_leq (TO.pick (b := true) rfl dc rfl rfl (TO.assign rfl dc rfl (TO.nil ?_))))
         exact TX.meetD (decide ((r1 : Int) ≤ 841)) h rfl (Sbs.cons rfl (Sbs.cons rfl (Sbs.nil))) Splits.nil
        ·
         have h := condF hb14 h
         refine TO.skip rfl dc (TO.skip rfl dc (TO.pick (b := false) rfl dc rfl rfl (TO.assign rfl dc rfl (TO.nil ?_))))
         exact TX.meetD false h rfl (Sbs.cons rfl (Sbs.cons rfl (Sbs.nil))) Splits.nil
    ·
     have h := condF hb3 h
     refine TO.skip rfl dc (TO.skip rfl dc (TO.pick (b := false) rfl dc rfl rfl (TO.assign rfl dc rfl (TO.nil (TX.next (TC.condF rfl (TC.seq (TC.region (TO.move rfl dc rfl (TO.bin rfl dc rfl rfl bin_geq (TO.move rfl dc rfl ?_)))))))))))
     refine TO.split (s := 18) rfl (fun hb15 => ?_) (fun hb15 => ?_)
     ·
      have h := condT hb15 h
      refine TO.move rfl dc rfl (TO.bin rfl dc rfl rfl bin_leq (TO.pick (b := true) rfl dc rfl rfl (TO.assign rfl dc rfl (TO.nil (TX.next ?_)))))
      refine TC.condB rfl (fun hb16 => ?_) (fun hb16 => ?_)
      ·
       have h := condT hb16 h
       refine TC.skip ?_
       exact TX.meetD (decide ((r1 : Int) ≤ 819)) h rfl (Sbs.cons rfl (Sbs.cons rfl (Sbs.nil))) Splits.nil
      ·
       have h := condF hb16 h
       refine TC.seq (TC.region (TO.move rfl dc rfl (TO.bin rfl dc rfl rfl bin_geq (TO.move rfl dc rfl ?_))))
       refine TO.split (s := 24) rfl (fun hb17 => ?_) (fun hb17 => ?_)
       ·
        have h := condT hb17 h
        refine TO.move rfl dc rfl (TO.bin rfl dc rfl rfl bin_leq (TO.pick (b := true) rfl dc rfl rfl (TO.assign rfl dc rfl (TO.nil (TX.next ?_)))))
        refine TC.condB rfl (fun hb18 => ?_) (fun hb18 => ?_)
        ·
         have h := condT hb18 h
         refine TC.skip ?_
         exact TX.meetD (decide ((r1 : Int) ≤ 828)) h rfl (Sbs.cons rfl (Sbs.cons rfl (Sbs.nil))) Splits.nil
        ·
         have h := condF hb18 h
         refine TC.region (TO.move rfl dc rfl (TO.bin rfl dc rfl rfl bin_geq (TO.move rfl dc rfl ?_)))
         refine TO.split (s := 30) rfl (fun hb19 => ?_) (fun hb19 => ?_)
         ·
          have h := condT hb19 h
          refine TO.move rfl dc rfl (TO.bin rfl dc rfl rfl bin_leq (TO.pick (b := true) rfl dc rfl rfl (TO.assign rfl dc rfl (TO.nil ?_))))
          exact TX.meetD (decide ((r1 : Int) ≤ 841)) h rfl (Sbs.cons rfl (Sbs.cons rfl (Sbs.nil))) Splits.nil
         ·
          have h := condF hb19 h
          refine TO.skip rfl dc (TO.skip rfl dc (TO.pick (b := false) rfl dc rfl rfl (TO.assign rfl dc rfl (TO.nil ?_))))
          exact TX.meetD false h rfl (Sbs.cons rfl (Sbs.cons rfl (Sbs.nil))) Splits.nil
       ·
        have h := condF hb17 h
        refine TO.skip rfl dc (TO.skip rfl dc (TO.pick (b := false) rfl dc rfl rfl (TO.assign rfl dc rfl (TO.nil (TX.next (TC.condF rfl (TC.region (TO.move rfl dc rfl (TO.bin rfl dc rfl rfl bin_geq (TO.move rfl dc rfl ?_))))))))))
        refine TO.split (s := 30) rfl (fun hb20 => ?_) (fun hb20 => ?_)
        ·
         have h := condT hb20 h
         refine TO.move rfl dc rfl (TO.bin rfl dc rfl rfl bin_leq (TO.pick (b := true) rfl dc rfl rfl (TO.assign rfl dc rfl (TO.nil ?_))))
         exact TX.meetD (decide ((r1 : Int) ≤ 841)) h rfl (Sbs.cons rfl (Sbs.cons rfl (Sbs.nil))) Splits.nil
        ·
         have h := condF hb20 h
         refine TO.skip rfl dc (TO.skip rfl dc (TO.pick (b := false) rfl dc rfl rfl (TO.assign rfl dc rfl (TO.nil ?_))))
         exact TX.meetD false h rfl (Sbs.cons rfl (Sbs.cons rfl (Sbs.nil))) Splits.nil
     ·
      have h := condF hb15 h
      refine TO.skip rfl dc (TO.skip rfl dc (TO.pick (b := false) rfl dc rfl rfl (TO.assign rfl dc rfl (TO.nil (TX.next (TC.condF rfl (TC.seq (TC.region (TO.move rfl dc rfl (TO.bin rfl dc rfl rfl bin_geq (TO.move rfl dc rfl ?_)))))))))))
      refine TO.split (s := 24) rfl (fun hb21 => ?_) (fun hb21 => ?_)
      ·
       have h := condT hb21 h
       refine TO.move rfl dc rfl (TO.bin rfl dc rfl rfl bin_leq (TO.pick (b := true) rfl dc rfl rfl (TO.assign rfl dc rfl (TO.nil (TX.next ?_)))))
       refine TC.condB rfl (fun hb22 => ?_) (fun hb22 => ?_)
       ·
        have h := condT hb22 h
        refine TC.skip ?_
        exact TX.meetD (decide ((r1 : Int) ≤ 828)) h rfl (Sbs.cons rfl (Sbs.cons rfl (Sbs.nil))) Splits.nil
       ·
        have h := condF hb22 h
        refine TC.region (TO.move rfl dc rfl (TO.bin rfl dc rfl rfl bin_geq (TO.move rfl dc rfl ?_)))
        refine TO.split (s := 30) rfl (fun hb23 => ?_) (fun hb23 => ?_)
        ·
         have h := condT hb23 h
         refine TO.move rfl dc rfl (TO.bin rfl dc rfl rfl bin_leq (TO.pick (b := true) rfl dc rfl rfl (TO.assign rfl dc rfl (TO.nil ?_))))
         exact TX.meetD (decide ((r1 : Int) ≤ 841)) h rfl (Sbs.cons rfl (Sbs.cons rfl (Sbs.nil))) Splits.nil
        ·
         have h := condF hb23 h
         refine TO.skip rfl dc (TO.skip rfl dc (TO.pick (b := false) rfl dc rfl rfl (TO.assign rfl dc rfl (TO.nil ?_))))
         exact TX.meetD false h rfl (Sbs.cons rfl (Sbs.cons rfl (Sbs.nil))) Splits.nil
      ·
       have h := condF hb21 h
       refine TO.skip rfl dc (TO.skip rfl dc (TO.pick (b := false) rfl dc rfl rfl (TO.assign rfl dc rfl (TO.nil (TX.next (TC.condF rfl (TC.region (TO.move rfl dc rfl (TO.bin rfl dc rfl rfl bin_geq (TO.move rfl dc rfl ?_))))))))))
       refine TO.split (s := 30) rfl (fun hb24 => ?_) (fun hb24 => ?_)
       ·
        have h := condT hb24 h
        refine TO.move rfl dc rfl (TO.bin rfl dc rfl rfl bin_leq (TO.pick (b := true) rfl dc rfl rfl (TO.assign rfl dc rfl (TO.nil ?_))))
        exact TX.meetD (decide ((r1 : Int) ≤ 841)) h rfl (Sbs.cons rfl (Sbs.cons rfl (Sbs.nil))) Splits.nil
       ·
        have h := condF hb24 h
        refine TO.skip rfl dc (TO.skip rfl dc (TO.pick (b := false) rfl dc rfl rfl (TO.assign rfl dc rfl (TO.nil ?_))))
        exact TX.meetD false h rfl (Sbs.cons rfl (Sbs.cons rfl (Sbs.nil))) Splits.nil
  ·
   have h := condF hb1 h
   refine TO.skip rfl dc (TO.skip rfl dc (TO.pick (b := false) rfl dc rfl rfl (TO.assign rfl dc rfl (TO.nil (TX.next (TC.condF rfl (TC.seq (TC.region (TO.move rfl dc rfl (TO.bin rfl dc rfl rfl bin_geq (TO.move rfl dc rfl ?_)))))))))))
   refine TO.split (s := 12) rfl (fun hb25 => ?_) (fun hb25 => ?_)
   ·
    have h := condT hb25 h
    refine TO.move rfl dc rfl (TO.bin rfl dc rfl rfl bin_leq (TO.pick (b := true) rfl dc rfl rfl (TO.assign rfl dc rfl (TO.nil (TX.next ?_)))))
    refine TC.condB rfl (fun hb26 => ?_) (fun hb26 => ?_)
    ·
     have h := condT hb26 h
     refine TC.skip ?_
     exact TX.meetD (decide ((r1 : Int) ≤ 800)) h rfl (Sbs.cons rfl (Sbs.cons rfl (Sbs.nil))) Splits.nil
    ·
     have h := condF hb26 h
     refine TC.seq (TC.region (TO.move rfl dc rfl (TO.bin rfl dc rfl rfl bin_geq (TO.move rfl dc rfl ?_))))
     refine TO.split (s := 18) rfl (fun hb27 => ?_) (fun hb27 => ?_)
     ·
      have h := condT hb27 h
      refine TO.move rfl dc rfl (TO.bin rfl dc rfl rfl bin_leq (TO.pick (b := true) rfl dc rfl rfl (TO.assign rfl dc rfl (TO.nil (TX.next ?_)))))
      refine TC.condB rfl (fun hb28 => ?_) (fun hb28 => ?_)
      ·
       have h := condT hb28 h
       refine TC.skip ?_
       exact TX.meetD (decide ((r1 : Int) ≤ 819)) h rfl (Sbs.cons rfl (Sbs.cons rfl (Sbs.nil))) Splits.nil
      ·
       have h := condF hb28 h
       refine TC.seq (TC.region (TO.move rfl dc rfl (TO.bin rfl dc rfl rfl bin_geq (TO.move rfl dc rfl ?_))))
       refine TO.split (s := 24) rfl (fun hb29 => ?_) (fun hb29 => ?_)
       ·
        have h := condT hb29 h
        refine TO.move rfl dc rfl (TO.bin rfl dc rfl rfl bin_leq (TO.pick (b := true) rfl dc rfl rfl (TO.assign rfl dc rfl (TO.nil (TX.next ?_)))))
        refine TC.condB rfl (fun hb30 => ?_) (fun hb30 => ?_)
        ·
         have h := condT hb30 h
         refine TC.skip ?_
         exact TX.meetD (decide ((r1 : Int) ≤ 828)) h rfl (Sbs.cons rfl (Sbs.cons rfl (Sbs.nil))) Splits.nil
        ·
         have h := condF hb30 h
         refine TC.region (TO.move rfl dc rfl (TO.bin rfl dc rfl rfl bin_geq (TO.move rfl dc rfl ?_)))
         refine TO.split (s := 30) rfl (fun hb31 => ?_) (fun hb31 => ?_)
         ·
          have h := condT hb31 h
          refine TO.move rfl dc rfl (TO.bin rfl dc rfl rfl bin_leq (TO.pick (b := true) rfl dc rfl rfl (TO.assign rfl dc rfl (TO.nil ?_))))
          exact TX.meetD (decide ((r1 : Int) ≤ 841)) h rfl (Sbs.cons rfl (Sbs.cons rfl (Sbs.nil))) Splits.nil
         ·
          have h := condF hb31 h
          refine TO.skip rfl dc (TO.skip rfl dc (TO.pick (b := false) rfl dc rfl rfl (TO.assign rfl dc rfl (TO.nil ?_))))
          exact TX.meetD false h rfl (Sbs.cons rfl (Sbs.cons rfl (Sbs.nil))) Splits.nil
       ·
        have h := condF hb29 h
        refine TO.skip rfl dc (TO.skip rfl dc (TO.pick (b := false) rfl dc rfl rfl (TO.assign rfl dc rfl (TO.nil (TX.next (TC.condF rfl (TC.region (TO.move rfl dc rfl (TO.bin rfl dc rfl rfl bin_geq (TO.move rfl dc rfl ?_))))))))))
        refine TO.split (s := 30) rfl (fun hb32 => ?_) (fun hb32 => ?_)
        ·
         have h := condT hb32 h
         refine TO.move rfl dc rfl (TO.bin rfl dc rfl rfl bin_leq (TO.pick (b := true) rfl dc rfl rfl (TO.assign rfl dc rfl (TO.nil ?_))))
         exact TX.meetD (decide ((r1 : Int) ≤ 841)) h rfl (Sbs.cons rfl (Sbs.cons rfl (Sbs.nil))) Splits.nil
        ·
         have h := condF hb32 h
         refine TO.skip rfl dc (TO.skip rfl dc (TO.pick (b := false) rfl dc rfl rfl (TO.assign rfl dc rfl (TO.nil ?_))))
         exact TX.meetD false h rfl (Sbs.cons rfl (Sbs.cons rfl (Sbs.nil))) Splits.nil
     ·
      have h := condF hb27 h
      refine TO.skip rfl dc (TO.skip rfl dc (TO.pick (b := false) rfl dc rfl rfl (TO.assign rfl dc rfl (TO.nil (TX.next (TC.condF rfl (TC.seq (TC.region (TO.move rfl dc rfl (TO.bin rfl dc rfl rfl bin_geq (TO.move rfl dc rfl ?_)))))))))))
      refine TO.split (s := 24) rfl (fun hb33 => ?_) (fun hb33 => ?_)
      ·
       have h := condT hb33 h
       refine TO.move rfl dc rfl (TO.bin rfl dc rfl rfl bin_leq (TO.pick (b := true) rfl dc rfl rfl (TO.assign rfl dc rfl (TO.nil (TX.next ?_)))))
       refine TC.condB rfl (fun hb34 => ?_) (fun hb34 => ?_)
       ·
        have h := condT hb34 h
        refine TC.skip ?_
        exact TX.meetD (decide ((r1 : Int) ≤ 828)) h rfl (Sbs.cons rfl (Sbs.cons rfl (Sbs.nil))) Splits.nil
       ·
        have h := condF hb34 h
        refine TC.region (TO.move rfl dc rfl (TO.bin rfl dc rfl rfl bin_geq (TO.move rfl dc rfl ?_)))
        refine TO.split (s := 30) rfl (fun hb35 => ?_) (fun hb35 => ?_)
        ·
         have h := condT hb35 h
         refine TO.move rfl dc rfl (TO.bin rfl dc rfl rfl bin_leq (TO.pick (b := true) rfl dc rfl rfl (TO.assign rfl dc rfl (TO.nil ?_))))
         exact TX.meetD (decide ((r1 : Int) ≤ 841)) h rfl (Sbs.cons rfl (Sbs.cons rfl (Sbs.nil))) Splits.nil
        ·
         have h := condF hb35 h
         refine TO.skip rfl dc (TO.skip rfl dc (TO.pick (b := false) rfl dc rfl rfl (TO.assign rfl dc rfl (TO.nil ?_))))
         exact TX.meetD false h rfl (Sbs.cons rfl (Sbs.cons rfl (Sbs.nil))) Splits.nil
      ·
       have h := condF hb33 h
       refine TO.skip rfl dc (TO.skip rfl dc (TO.pick (b := false) rfl dc rfl rfl (TO.assign rfl dc rfl (TO.nil (TX.next (TC.condF rfl (TC.region (TO.move rfl dc rfl (TO.bin rfl dc rfl rfl bin_geq (TO.move rfl dc rfl ?_))))))))))
       refine TO.split (s := 30) rfl (fun hb36 => ?_) (fun hb36 => ?_)
       ·
        have h := condT hb36 h
        refine TO.move rfl dc rfl (TO.bin rfl dc rfl rfl bin_leq (TO.pick (b := true) rfl dc rfl rfl (TO.assign rfl dc rfl (TO.nil ?_))))
        exact TX.meetD (decide ((r1 : Int) ≤ 841)) h rfl (Sbs.cons rfl (Sbs.cons rfl (Sbs.nil))) Splits.nil
       ·
        have h := condF hb36 h
        refine TO.skip rfl dc (TO.skip rfl dc (TO.pick (b := false) rfl dc rfl rfl (TO.assign rfl dc rfl (TO.nil ?_))))
        exact TX.meetD false h rfl (Sbs.cons rfl (Sbs.cons rfl (Sbs.nil))) Splits.nil
   ·
    have h := condF hb25 h
    refine TO.skip rfl dc (TO.skip rfl dc (TO.pick (b := false) rfl dc rfl rfl (TO.assign rfl dc rfl (TO.nil (TX.next (TC.condF rfl (TC.seq (TC.region (TO.move rfl dc rfl (TO.bin rfl dc rfl rfl bin_geq (TO.move rfl dc rfl ?_)))))))))))
    refine TO.split (s := 18) rfl (fun hb37 => ?_) (fun hb37 => ?_)
    ·
     have h := condT hb37 h
     refine TO.move rfl dc rfl (TO.bin rfl dc rfl rfl bin_leq (TO.pick (b := true) rfl dc rfl rfl (TO.assign rfl dc rfl (TO.nil (TX.next ?_)))))
     refine TC.condB rfl (fun hb38 => ?_) (fun hb38 => ?_)
     ·
      have h := condT hb38 h
      refine TC.skip ?_
      exact TX.meetD (decide ((r1 : Int) ≤ 819)) h rfl (Sbs.cons rfl (Sbs.cons rfl (Sbs.nil))) Splits.nil
     ·
      have h := condF hb38 h
      refine TC.seq (TC.region (TO.move rfl dc rfl (TO.bin rfl dc rfl rfl bin_geq (TO.move rfl dc rfl ?_))))
      refine TO.split (s := 24) rfl (fun hb39 => ?_) (fun hb39 => ?_)
      ·
       have h := condT hb39 h
       refine TO.move rfl dc rfl (TO.bin rfl dc rfl rfl bin_leq (TO.pick (b := true) rfl dc rfl rfl (TO.assign rfl dc rfl (TO.nil (TX.next ?_)))))
       refine TC.condB rfl (fun hb40 => ?_) (fun hb40 => ?_)
       ·
        have h := condT hb40 h
        refine TC.skip ?_
        exact TX.meetD (decide ((r1 : Int) ≤ 828)) h rfl (Sbs.cons rfl (Sbs.cons rfl (Sbs.nil))) Splits.nil
       ·
        have h := condF hb40 h
        refine TC.region (TO.move rfl dc rfl (TO.bin rfl dc rfl rfl bin_geq (TO.move rfl dc rfl ?_)))
        refine TO.split (s := 30) rfl (fun hb41 => ?_) (fun hb41 => ?_)
        ·
         have h := condT hb41 h
         refine TO.move rfl dc rfl (TO.bin rfl dc rfl rfl bin_leq (TO.pick (b := true) rfl dc rfl rfl (TO.assign rfl dc rfl (TO.nil ?_))))
         exact TX.meetD (decide ((r1 : Int) ≤ 841)) h rfl (Sbs.cons rfl (Sbs.cons rfl (Sbs.nil))) Splits.nil
        ·
         have h := condF hb41 h
         refine TO.skip rfl dc (TO.skip rfl dc (TO.pick (b := false) rfl dc rfl rfl (TO.assign rfl dc rfl (TO.nil ?_))))
         exact TX.meetD false h rfl (Sbs.cons rfl (Sbs.cons rfl (Sbs.nil))) Splits.nil
      ·
       have h := condF hb39 h
       refine TO.skip rfl dc (TO.skip rfl dc (TO.pick (b := false) rfl dc rfl rfl (TO.assign rfl dc rfl (TO.nil (TX.next (TC.condF rfl (TC.region (TO.move rfl dc rfl (TO.bin rfl dc rfl rfl bin_geq (TO.move rfl dc rfl ?_))))))))))
       refine TO.split (s := 30) rfl (fun hb42 => ?_) (fun hb42 => ?_)
       ·
        have h := condT hb42 h
        refine TO.move rfl dc rfl (TO.bin rfl dc rfl rfl bin_leq (TO.pick (b := true) rfl dc rfl rfl (TO.assign rfl dc rfl (TO.nil ?_))))
        exact TX.meetD (decide ((r1 : Int) ≤ 841)) h rfl (Sbs.cons rfl (Sbs.cons rfl (Sbs.nil))) Splits.nil
       ·
        have h := condF hb42 h
        refine TO.skip rfl dc (TO.skip rfl dc (TO.pick (b := false) rfl dc rfl rfl (TO.assign rfl dc rfl (TO.nil ?_))))
        exact TX.meetD false h rfl (Sbs.cons rfl (Sbs.cons rfl (Sbs.nil))) Splits.nil
    ·
     have h := condF hb37 h
     refine TO.skip rfl dc (TO.skip rfl dc (TO.pick (b := false) rfl dc rfl rfl (TO.assign rfl dc rfl (TO.nil (TX.next (TC.condF rfl (TC.seq (TC.region (TO.move rfl dc rfl (TO.bin rfl dc rfl rfl bin_geq (TO.move rfl dc rfl ?_)))))))))))
     refine TO.split (s := 24) rfl (fun hb43 => ?_) (fun hb43 => ?_)
     ·
      have h := condT hb43 h
      refine TO.move rfl dc rfl (TO.bin rfl dc rfl rfl bin_leq (TO.pick (b := true) rfl dc rfl rfl (TO.assign rfl dc rfl (TO.nil (TX.next ?_)))))
      refine TC.condB rfl (fun hb44 => ?_) (fun hb44 => ?_)
      ·
       have h := condT hb44 h
       refine TC.skip ?_
       exact TX.meetD (decide ((r1 : Int) ≤ 828)) h rfl (Sbs.cons rfl (Sbs.cons rfl (Sbs.nil))) Splits.nil
      ·
       have h := condF hb44 h
       refine TC.region (TO.move rfl dc rfl (TO.bin rfl dc rfl rfl bin_geq (TO.move rfl dc rfl ?_)))
       refine TO.split (s := 30) rfl (fun hb45 => ?_) (fun hb45 => ?_)
       ·
        have h := condT hb45 h
        refine TO.move rfl dc rfl (TO.bin rfl dc rfl rfl bin_leq (TO.pick (b := true) rfl dc rfl rfl (TO.assign rfl dc rfl (TO.nil ?_))))
        exact TX.meetD (decide ((r1 : Int) ≤ 841)) h rfl (Sbs.cons rfl (Sbs.cons rfl (Sbs.nil))) Splits.nil
       ·
        have h := condF hb45 h
        refine TO.skip rfl dc (TO.skip rfl dc (TO.pick (b := false) rfl dc rfl rfl (TO.assign rfl dc rfl (TO.nil ?_))))
        exact TX.meetD false h rfl (Sbs.cons rfl (Sbs.cons rfl (Sbs.nil))) Splits.nil
     ·
      have h := condF hb43 h
      refine TO.skip rfl dc (TO.skip rfl dc (TO.pick (b := false) rfl dc rfl rfl (TO.assign rfl dc rfl (TO.nil (TX.next (TC.condF rfl (TC.region (TO.move rfl dc rfl (TO.bin rfl dc rfl rfl bin_geq (TO.move rfl dc rfl ?_))))))))))
      refine TO.split (s := 30) rfl (fun hb46 => ?_) (fun hb46 => ?_)
      ·
       have h := condT hb46 h
       refine TO.move rfl dc rfl (TO.bin rfl dc rfl rfl bin_leq (TO.pick (b := true) rfl dc rfl rfl (TO.assign rfl dc rfl (TO.nil ?_))))
       exact TX.meetD (decide ((r1 : Int) ≤ 841)) h rfl (Sbs.cons rfl (Sbs.cons rfl (Sbs.nil))) Splits.nil
      ·
       have h := condF hb46 h
       refine TO.skip rfl dc (TO.skip rfl dc (TO.pick (b := false) rfl dc rfl rfl (TO.assign rfl dc rfl (TO.nil ?_))))
       exact TX.meetD false h rfl (Sbs.cons rfl (Sbs.cons rfl (Sbs.nil))) Splits.nil
 ·
  rintro x1 h
  rw [hj1] at h
  show TC _ _ _ _ _ ([]) _ _ [(0, .int .i32 r1), (3, .bool x1)] []
  refine TC.condB rfl (fun hb47 => ?_) (fun hb47 => ?_)
  ·
   have h := condT hb47 h
   refine TC.seq (TC.region (TO.assign rfl dc rfl (TO.nil (TX.next (TC.ret (TX.blockRet (TX.thenRet ?_)))))))
   cases h
   exact TX.fin (rs := [.tmp 2]) () (.inl rfl) Try.results74 (.cons (.tmp rfl) .nil) rfl Splits.nil
  ·
   have h := condF hb47 h
   obtain ⟨j2, hj2, h⟩ := joinE h
   refine TC.cutN (β := Bool) 0 rfl (fun b => j2 b = some r) (fun b => []) (fun b => [(34, .bool b)]) (fun b => []) (fun cut => ?_) ?_
   ·
    refine cut (TC.seq (TC.region (TO.move rfl dc rfl (TO.bin rfl dc rfl rfl bin_geq (TO.move rfl dc rfl ?_)))))
    refine TO.split (s := 37) rfl (fun hb48 => ?_) (fun hb48 => ?_)
    ·
     have h := condT hb48 h
     refine TO.move rfl dc rfl (TO.bin rfl dc rfl rfl bin_leq (TO.pick (b := true) rfl dc rfl rfl (TO.assign rfl dc rfl (TO.nil (TX.next ?_)))))
     refine TC.condB rfl (fun hb49 => ?_) (fun hb49 => ?_)
     ·
      have h := condT hb49 h
      refine TC.skip ?_
      exact TX.meetD (decide ((r1 : Int) ≤ 846)) h rfl (Sbs.cons rfl (Sbs.nil)) Splits.nil
     ·
      have h := condF hb49 h
      refine TC.seq (TC.region (TO.move rfl dc rfl (TO.bin rfl dc rfl rfl bin_geq (TO.move rfl dc rfl ?_))))
      refine TO.split (s := 43) rfl (fun hb50 => ?_) (fun hb50 => ?_)
      ·
       have h := condT hb50 h
       refine TO.move rfl dc rfl (TO.bin rfl dc rfl rfl bin_leq (TO.pick (b := true) rfl dc rfl rfl (TO.assign rfl dc rfl (TO.nil (TX.next ?_)))))
       refine TC.condB rfl (fun hb51 => ?_) (fun hb51 => ?_)
       ·
        have h := condT hb51 h
        refine TC.skip ?_
        exact TX.meetD (decide ((r1 : Int) ≤ 854)) h rfl (Sbs.cons rfl (Sbs.nil)) Splits.nil
       ·
        have h := condF hb51 h
        refine TC.region (TO.move rfl dc rfl (TO.bin rfl dc rfl rfl bin_geq (TO.move rfl dc rfl ?_)))
        refine TO.split (s := 49) rfl (fun hb52 => ?_) (fun hb52 => ?_)
        ·
         have h := condT hb52 h
         refine TO.move rfl dc rfl (TO.bin rfl dc rfl rfl bin_leq (TO.pick (b := true) rfl dc rfl rfl (TO.assign rfl dc rfl (TO.nil ?_))))
         exact TX.meetD (decide ((r1 : Int) ≤ 858)) h rfl (Sbs.cons rfl (Sbs.nil)) Splits.nil
        ·
         have h := condF hb52 h
         refine TO.skip rfl dc (TO.skip rfl dc (TO.pick (b := false) rfl dc rfl rfl (TO.assign rfl dc rfl (TO.nil ?_))))
         exact TX.meetD false h rfl (Sbs.cons rfl (Sbs.nil)) Splits.nil
      ·
       have h := condF hb50 h
       refine TO.skip rfl dc (TO.skip rfl dc (TO.pick (b := false) rfl dc rfl rfl (TO.assign rfl dc rfl (TO.nil (TX.next (TC.condF rfl (TC.region (TO.move rfl dc rfl (TO.bin rfl dc rfl rfl bin_geq (TO.move rfl dc rfl ?_))))))))))
       refine TO.split (s := 49) rfl (fun hb53 => ?_) (fun hb53 => ?_)
       ·
        have h := condT hb53 h
        refine TO.move rfl dc rfl (TO.bin rfl dc rfl rfl bin_leq (TO.pick (b := true) rfl dc rfl rfl (TO.assign rfl dc rfl (TO.nil ?_))))
        exact TX.meetD (decide ((r1 : Int) ≤ 858)) h rfl (Sbs.cons rfl (Sbs.nil)) Splits.nil
       ·
        have h := condF hb53 h
        refine TO.skip rfl dc (TO.skip rfl dc (TO.pick (b := false) rfl dc rfl rfl (TO.assign rfl dc rfl (TO.nil ?_))))
        exact TX.meetD false h rfl (Sbs.cons rfl (Sbs.nil)) Splits.nil
    ·
     have h := condF hb48 h
     refine TO.skip rfl dc (TO.skip rfl dc (TO.pick (b := false) rfl dc rfl rfl (TO.assign rfl dc rfl (TO.nil (TX.next (TC.condF rfl (TC.seq (TC.region (TO.move rfl dc rfl (TO.bin rfl dc rfl rfl bin_geq (TO.move rfl dc rfl ?_)))))))))))
     refine TO.split (s := 43) rfl (fun hb54 => ?_) (fun hb54 => ?_)
     ·
      have h := condT hb54 h
      refine TO.move rfl dc rfl (TO.bin rfl dc rfl rfl bin_leq (TO.pick (b := true) rfl dc rfl rfl (TO.assign rfl dc rfl (TO.nil (TX.next ?_)))))
      refine TC.condB rfl (fun hb55 => ?_) (fun hb55 => ?_)
      ·
       have h := condT hb55 h
       refine TC.skip ?_
       exact TX.meetD (decide ((r1 : Int) ≤ 854)) h rfl (Sbs.cons rfl (Sbs.nil)) Splits.nil
      ·
       have h := condF hb55 h
       refine TC.region (TO.move rfl dc rfl (TO.bin rfl dc rfl rfl bin_geq (TO.move rfl dc rfl ?_)))
       refine TO.split (s := 49) rfl (fun hb56 => ?_) (fun hb56 => ?_)
       ·
        have h := condT hb56 h
        refine TO.move rfl dc rfl (TO.bin rfl dc rfl rfl bin_leq (TO.pick (b := true) rfl dc rfl rfl (TO.assign rfl dc rfl (TO.nil ?_))))
        exact TX.meetD (decide ((r1 : Int) ≤ 858)) h rfl (Sbs.cons rfl (Sbs.nil)) Splits.nil
       ·
        have h := condF hb56 h
        refine TO.skip rfl dc (TO.skip rfl dc (TO.pick (b := false) rfl dc rfl rfl (TO.assign rfl dc rfl (TO.nil ?_))))
        exact TX.meetD false h rfl (Sbs.cons rfl (Sbs.nil)) Splits.nil
     ·
      have h := condF hb54 h
      refine TO.skip rfl dc (TO.skip rfl dc (TO.pick (b := false) rfl dc rfl rfl (TO.assign rfl dc rfl (TO.nil (TX.next (TC.condF rfl (TC.region (TO.move rfl dc rfl (TO.bin rfl dc rfl rfl bin_geq (TO.move rfl dc rfl ?_))))))))))
      refine TO.split (s := 49) rfl (fun hb57 => ?_) (fun hb57 => ?_)
      ·
       have h := condT hb57 h
       refine TO.move rfl dc rfl (TO.bin rfl dc rfl rfl bin_leq (TO.pick (b := true) rfl dc rfl rfl (TO.assign rfl dc rfl (TO.nil ?_))))
       exact TX.meetD (decide ((r1 : Int) ≤ 858)) h rfl (Sbs.cons rfl (Sbs.nil)) Splits.nil
      ·
       have h := condF hb57 h
       refine TO.skip rfl dc (TO.skip rfl dc (TO.pick (b := false) rfl dc rfl rfl (TO.assign rfl dc rfl (TO.nil ?_))))
       exact TX.meetD false h rfl (Sbs.cons rfl (Sbs.nil)) Splits.nil
   ·
    rintro x2 h
    rw [hj2] at h
    show TC _ _ _ _ _ ([]) _ _ [(34, .bool x2)] []
    refine TC.condB rfl (fun hb58 => ?_) (fun hb58 => ?_)
    ·
     have h := condT hb58 h
     refine TC.seq (TC.region (TO.assign rfl dc rfl (TO.nil (TX.next (TC.ret (TX.blockRet (TX.thenRet ?_)))))))
     cases h
     exact TX.fin (rs := [.tmp 2]) () (.inl rfl) Try.results74 (.cons (.tmp rfl) .nil) rfl Splits.nil
    ·
     have h := condF hb58 h
     refine TC.skip (TX.blockNormal (TX.next (TC.seq (TC.region (TO.assign rfl dc rfl (TO.nil (TX.next (TC.ret ?_))))))))
     cases h
     exact TX.fin (rs := [.tmp 2]) () (.inl rfl) Try.results74 (.cons (.tmp rfl) .nil) rfl Splits.nil
def fold_unit_letter_v (u1 : Gfold_unit) : Option Bool := bcond (decide ((0 : Int) ≤ u1.base)) ( grd (I32 u1.base) <| some (((kind u1.base) : Int) == 1)
) ( some false
)
set_option maxRecDepth 100000 in
set_option maxHeartbeats 4000000 in
theorem fold_unit_letter_fn {u1 : Gfold_unit} {u1_h0 u1_h1 : Hd} {r : Bool} (h : fold_unit_letter_v u1 = some r) : Fn Try.prog 42 [.agg #[.int .i64 u1.at_, .int .u8 u1.broken, .int .i32 u1.base, u1_h0.v, u1_h1.v]] [vec (encI (.i32)) 21 1 u1_h0.v u1.low, vec (encI (.i32)) 21 1 u1_h1.v u1.high] (fun _b : Unit => .bool r) (fun _b => [vec (encI (.i32)) 21 1 u1_h0.v u1.low, vec (encI (.i32)) 21 1 u1_h1.v u1.high]) := by
 unfold fold_unit_letter_v at h
 refine Fn.intro Try.func42 rfl Try.ntmps42 (by simp) ?_
 intro w0 K
 refine TC.seq (TC.region ?_)
 refine TO.box rfl dc rfl (fun b1 => ?_)
 refine TO.assign rfl dc rfl (TO.nil (TX.next (TC.seq (TC.region (TO.fieldAddr fl_46_2 rfl dc rfl (show _ = 2 from rfl) (TO.load (k := 2) sc_21 rfl dc rfl rfl rfl (TO.bin rfl dc rfl rfl bin_geq (TO.move rfl dc rfl ?_))))))))
 refine TO.split (s := 6) rfl (fun hb1 => ?_) (fun hb1 => ?_)
 ·
  have h := condT hb1 h
  refine TO.fieldAddr fl_46_2 rfl dc rfl (show _ = 2 from rfl) (TO.load (k := 2) sc_21 rfl dc rfl rfl rfl ?_)
  obtain ⟨hg1, h⟩ := grdE h
  refine TO.callP (v := .int .i64 (kind u1.base)) (vs := [.int .i32 u1.base]) rfl dc rfl rfl rfl en_16 (FnP.of_same fun w => kind_any u1.base w hg1.1 hg1.2) ?_
  refine TO.bin rfl dc rfl rfl bin_eql (TO.pick (b := true) rfl dc rfl rfl (TO.assign rfl dc rfl (TO.nil (TX.next (TC.ret ?_)))))
  cases h
  exact TX.fin (rs := [.tmp 2]) () (.inl rfl) Try.results42 (.cons (.tmp rfl) .nil) rfl (Splits.of [0, 1] kr rfl)
 ·
  have h := condF hb1 h
  refine TO.skip rfl dc (TO.skip rfl dc (TO.skip rfl dc (TO.skip rfl dc (TO.pick (b := false) rfl dc rfl rfl (TO.assign rfl dc rfl (TO.nil (TX.next (TC.ret ?_))))))))
  cases h
  exact TX.fin (rs := [.tmp 2]) () (.inl rfl) Try.results42 (.cons (.tmp rfl) .nil) rfl (Splits.of [0, 1] kr rfl)
def fold_unit_mark_v (u1 : Gfold_unit) (r1 : Int) : Option Gfold_unit := andThen (fold_Low_v r1) fun (r2 : Bool) => bcond (r2) ( grd (u1.low.length + 1 ≤ 2147483648) <| some (⟨(⟨u1.at_, u1.broken, u1.base, u1.low ++ [r1], u1.high⟩ : Gfold_unit).at_, (⟨u1.at_, u1.broken, u1.base, u1.low ++ [r1], u1.high⟩ : Gfold_unit).broken, (⟨u1.at_, u1.broken, u1.base, u1.low ++ [r1], u1.high⟩ : Gfold_unit).base, u1.low ++ [r1], u1.high⟩ : Gfold_unit)
) ( grd (u1.high.length + 1 ≤ 2147483648) <| some (⟨(⟨u1.at_, u1.broken, u1.base, u1.low, u1.high ++ [r1]⟩ : Gfold_unit).at_, (⟨u1.at_, u1.broken, u1.base, u1.low, u1.high ++ [r1]⟩ : Gfold_unit).broken, (⟨u1.at_, u1.broken, u1.base, u1.low, u1.high ++ [r1]⟩ : Gfold_unit).base, u1.low, u1.high ++ [r1]⟩ : Gfold_unit)
)
set_option maxRecDepth 100000 in
set_option maxHeartbeats 4000000 in
theorem fold_unit_mark_fn {vu1 : Value} {zu1 : List (Gfold_unit × Hd × Hd)} {iu1 : Nat} {u1 : Gfold_unit} {u1_h0 u1_h1 : Hd} (hiu1 : zu1[iu1]? = some (u1, (u1_h0, u1_h1))) {r1 : Int} {r : Gfold_unit} (h : fold_unit_mark_v u1 r1 = some r) : Fn Try.prog 50 [.pointer (some ⟨vblk vu1, iu1 * 5, none⟩), .int .i32 r1] [vec encN_Gfold_unit 46 5 vu1 zu1, vec (encI (.i32)) 21 1 u1_h0.v u1.low, vec (encI (.i32)) 21 1 u1_h1.v u1.high] (fun b : Hd × Hd => .tuple #[]) (fun b => [vec encN_Gfold_unit 46 5 vu1 (zu1.set iu1 (r, (b.1, b.2))), vec (encI (.i32)) 21 1 b.1.v r.low, vec (encI (.i32)) 21 1 b.2.v r.high]) := by
 unfold fold_unit_mark_v at h
 refine Fn.intro Try.func50 rfl Try.ntmps50 (by simp) ?_
 intro w0 K
 refine TC.seq (TC.region (TO.move rfl dc rfl ?_))
 obtain ⟨r2, hq1, h⟩ := andE h
 refine TO.callP (v := .bool r2) (vs := [.int .i32 r1]) rfl dc rfl rfl rfl en_74 (fold_Low_fn hq1) (TO.nil (TX.next ?_))
 refine TC.condB rfl (fun hb1 => ?_) (fun hb1 => ?_)
 ·
  have h := condT hb1 h
  refine TC.region (TO.move rfl dc rfl (TO.move rfl dc rfl (TO.nilCheck rfl dc rfl (TO.fieldAddr fl_46_3 rfl dc rfl (show _ = iu1 * 5 + 3 from rfl) (TO.loadVec (i := iu1) (j := 3) (k := 0) (q := (u1, (u1_h0, u1_h1))) sc_44 encN_Gfold_unit_len rfl dc rfl rfl hiu1 rfl dc rfl (TO.move rfl dc rfl ?_))))))
  refine TO.buildSlice (cs := [.int .i32 r1]) (te := 21) (ps := [(0, .tmp 11)]) rfl dc rfl (fun _ => by kernel_rfl) (fun b1 => ?_)
  obtain ⟨hg1, h⟩ := grdE h
  refine TO.appendVec (k := 1) (k2 := 3) (ys := [r1]) Try.underlying44 el_21 encI_len encI_one rfl dc rfl rfl rfl rfl rfl rfl hg1 (fun v1 => ?_)
  refine TO.nameHd (k := 1) rfl (fun hd1 he1 => ?_)
  subst he1
  show TO _ _ _ _ _ _ _ _ _ _ [vec encN_Gfold_unit 46 5 vu1 zu1, vec (encI (.i32)) 21 1 hd1.v (u1.low ++ [r1]), vec (encI (.i32)) 21 1 u1_h1.v u1.high, cells b1 [.int .i32 r1] 21]
  refine TO.nilCheck rfl dc rfl (TO.fieldAddr fl_46_3 rfl dc rfl (show _ = iu1 * 5 + 3 from rfl) ?_)
  refine TO.storeVec (i := iu1) (j := 3) (k := 0) (q := (u1, (u1_h0, u1_h1))) (q' := ((⟨u1.at_, u1.broken, u1.base, u1.low ++ [r1], u1.high⟩ : Gfold_unit), (hd1, u1_h1))) sz_44 encN_Gfold_unit_len rfl rfl rfl rfl hiu1 rfl dc rfl (fun _ _ => rfl) ?_
  show TO _ _ _ _ _ _ _ _ _ _ [vec encN_Gfold_unit 46 5 vu1 (zu1.set iu1 ((⟨u1.at_, u1.broken, u1.base, u1.low ++ [r1], u1.high⟩ : Gfold_unit), (hd1, u1_h1))), vec (encI (.i32)) 21 1 hd1.v (u1.low ++ [r1]), vec (encI (.i32)) 21 1 u1_h1.v u1.high, cells b1 [.int .i32 r1] 21]
  refine TO.nil (TX.ent (k := 0) rfl (vec_setE rfl (q1 := ((⟨u1.at_, u1.broken, u1.base, u1.low ++ [r1], u1.high⟩ : Gfold_unit), (hd1, u1_h1))) (q2 := ((⟨(⟨u1.at_, u1.broken, u1.base, u1.low ++ [r1], u1.high⟩ : Gfold_unit).at_, (⟨u1.at_, u1.broken, u1.base, u1.low ++ [r1], u1.high⟩ : Gfold_unit).broken, (⟨u1.at_, u1.broken, u1.base, u1.low ++ [r1], u1.high⟩ : Gfold_unit).base, u1.low ++ [r1], u1.high⟩ : Gfold_unit), (hd1, u1_h1))) encN_Gfold_unit_len rfl) ?_)
  show TX _ _ _ _ _ _ _ [vec encN_Gfold_unit 46 5 vu1 (zu1.set iu1 ((⟨(⟨u1.at_, u1.broken, u1.base, u1.low ++ [r1], u1.high⟩ : Gfold_unit).at_, (⟨u1.at_, u1.broken, u1.base, u1.low ++ [r1], u1.high⟩ : Gfold_unit).broken, (⟨u1.at_, u1.broken, u1.base, u1.low ++ [r1], u1.high⟩ : Gfold_unit).base, u1.low ++ [r1], u1.high⟩ : Gfold_unit), (hd1, u1_h1))), vec (encI (.i32)) 21 1 hd1.v (u1.low ++ [r1]), vec (encI (.i32)) 21 1 u1_h1.v u1.high, cells b1 [.int .i32 r1] 21]
  cases h
  exact TX.fin (rs := []) (hd1, u1_h1) (.inr rfl) Try.results50 .nil rfl (Splits.of [0, 1, 2] kr rfl)
 ·
  have h := condF hb1 h
  refine TC.region (TO.move rfl dc rfl (TO.move rfl dc rfl (TO.nilCheck rfl dc rfl (TO.fieldAddr fl_46_4 rfl dc rfl (show _ = iu1 * 5 + 4 from rfl) (TO.loadVec (i := iu1) (j := 4) (k := 0) (q := (u1, (u1_h0, u1_h1))) sc_44 encN_Gfold_unit_len rfl dc rfl rfl hiu1 rfl dc rfl (TO.move rfl dc rfl ?_))))))
  refine TO.buildSlice (cs := [.int .i32 r1]) (te := 21) (ps := [(0, .tmp 21)]) rfl dc rfl (fun _ => by kernel_rfl) (fun b2 => ?_)
  obtain ⟨hg2, h⟩ := grdE h
  refine TO.appendVec (k := 2) (k2 := 3) (ys := [r1]) Try.underlying44 el_21 encI_len encI_one rfl dc rfl rfl rfl rfl rfl rfl hg2 (fun v2 => ?_)
  refine TO.nameHd (k := 2) rfl (fun hd2 he2 => ?_)
  subst he2
  show TO _ _ _ _ _ _ _ _ _ _ [vec encN_Gfold_unit 46 5 vu1 zu1, vec (encI (.i32)) 21 1 u1_h0.v u1.low, vec (encI (.i32)) 21 1 hd2.v (u1.high ++ [r1]), cells b2 [.int .i32 r1] 21]
  refine TO.nilCheck rfl dc rfl (TO.fieldAddr fl_46_4 rfl dc rfl (show _ = iu1 * 5 + 4 from rfl) ?_)
  refine TO.storeVec (i := iu1) (j := 4) (k := 0) (q := (u1, (u1_h0, u1_h1))) (q' := ((⟨u1.at_, u1.broken, u1.base, u1.low, u1.high ++ [r1]⟩ : Gfold_unit), (u1_h0, hd2))) sz_44 encN_Gfold_unit_len rfl rfl rfl rfl hiu1 rfl dc rfl (fun _ _ => rfl) ?_
  show TO _ _ _ _ _ _ _ _ _ _ [vec encN_Gfold_unit 46 5 vu1 (zu1.set iu1 ((⟨u1.at_, u1.broken, u1.base, u1.low, u1.high ++ [r1]⟩ : Gfold_unit), (u1_h0, hd2))), vec (encI (.i32)) 21 1 u1_h0.v u1.low, vec (encI (.i32)) 21 1 hd2.v (u1.high ++ [r1]), cells b2 [.int .i32 r1] 21]
  refine TO.nil (TX.ent (k := 0) rfl (vec_setE rfl (q1 := ((⟨u1.at_, u1.broken, u1.base, u1.low, u1.high ++ [r1]⟩ : Gfold_unit), (u1_h0, hd2))) (q2 := ((⟨(⟨u1.at_, u1.broken, u1.base, u1.low, u1.high ++ [r1]⟩ : Gfold_unit).at_, (⟨u1.at_, u1.broken, u1.base, u1.low, u1.high ++ [r1]⟩ : Gfold_unit).broken, (⟨u1.at_, u1.broken, u1.base, u1.low, u1.high ++ [r1]⟩ : Gfold_unit).base, u1.low, u1.high ++ [r1]⟩ : Gfold_unit), (u1_h0, hd2))) encN_Gfold_unit_len rfl) ?_)
  show TX _ _ _ _ _ _ _ [vec encN_Gfold_unit 46 5 vu1 (zu1.set iu1 ((⟨(⟨u1.at_, u1.broken, u1.base, u1.low, u1.high ++ [r1]⟩ : Gfold_unit).at_, (⟨u1.at_, u1.broken, u1.base, u1.low, u1.high ++ [r1]⟩ : Gfold_unit).broken, (⟨u1.at_, u1.broken, u1.base, u1.low, u1.high ++ [r1]⟩ : Gfold_unit).base, u1.low, u1.high ++ [r1]⟩ : Gfold_unit), (u1_h0, hd2))), vec (encI (.i32)) 21 1 u1_h0.v u1.low, vec (encI (.i32)) 21 1 hd2.v (u1.high ++ [r1]), cells b2 [.int .i32 r1] 21]
  cases h
  exact TX.fin (rs := []) (u1_h0, hd2) (.inr rfl) Try.results50 .nil rfl (Splits.of [0, 1, 2] kr rfl)
def fold_parted_b (rcall : (List (Int × Gfold_pair)) → Int → Option (List Int)) (Msplit1 : List (Int × Gfold_pair)) (r1 : Int) : Option (List Int) := bcond (!((getM r1 Msplit1).isSome)) ( some ([r1] : List Int)
) ( andThen (rcall Msplit1 (((getM r1 Msplit1).getD (⟨0, 0⟩ : Gfold_pair)).e0)) fun (r2 : (List Int)) => grd (r2.length + 1 ≤ 2147483648) <| some (r2 ++ [((getM r1 Msplit1).getD (⟨0, 0⟩ : Gfold_pair)).e1])
)
def fold_parted_v (Msplit1 : List (Int × Gfold_pair)) (r1 : Int) : Option (List Int) := loopG (fun _ _ => none) fold_parted_b fuel Msplit1 r1
set_option maxRecDepth 100000 in
set_option maxHeartbeats 4000000 in
theorem fold_parted_fb (n : Nat) : ∀ {bsplit1 : Nat} {Msplit1 : List (Int × Gfold_pair)} {r1 : Int} {r : (List Int)} (_ : loopG (fun _ _ => none) fold_parted_b n Msplit1 r1 = some r), Fn Try.prog 51 [.map (some bsplit1), .int .i32 r1] [mapA (fun n : Int => Value.int .i32 n) (fun p : Gfold_pair => Value.agg #[.int .i32 p.e0, .int .i32 p.e1]) bsplit1 Msplit1] (fun v0 : Value => v0) (fun v0 => [mapA (fun n : Int => Value.int .i32 n) (fun p : Gfold_pair => Value.agg #[.int .i32 p.e0, .int .i32 p.e1]) bsplit1 Msplit1, vec (encI (.i32)) 21 1 v0 r]) := by
 induction n with
 | zero => intro bsplit1 Msplit1 r1 r h; exact noneE h
 | succ n hrec =>
 intro bsplit1 Msplit1 r1 r h
 rw [loopG_succ] at h
 revert hrec h
 generalize loopG (fun _ _ => none) fold_parted_b n = rcall
 intro hrec h
 unfold fold_parted_b at h
 refine Fn.intro Try.func51 rfl Try.ntmps51 (by simp) ?_
 intro w0 K
 refine TC.seq (TC.region (TO.assign rfl dc rfl (TO.nil (TX.next (TC.seq (TC.region (TO.move rfl dc rfl (TO.move rfl dc rfl ?_))))))))
 refine TO.lookupOk (k := 0) (ek := (fun n : Int => Value.int .i32 n)) (ev' := (fun p : Gfold_pair => Value.agg #[.int .i32 p.e0, .int .i32 p.e1])) (kk := r1) (z0 := (⟨0, 0⟩ : Gfold_pair)) (KeyOk.int Try.underlying21) Try.underlying67 kr rfl dc rfl rfl rfl ?_
 refine TO.move rfl dc rfl (TO.extract rfl dc rfl rfl (TO.extract rfl dc rfl rfl ?_))
 refine TO.alloc zr_73 rfl dc (fun b1 => ?_)
 refine TO.stores (k := 1) (vs := [.int .i32 (((getM r1 Msplit1).getD (⟨0, 0⟩ : Gfold_pair)).e0), .int .i32 (((getM r1 Msplit1).getD (⟨0, 0⟩ : Gfold_pair)).e1)]) (l' := [.int .i32 (((getM r1 Msplit1).getD (⟨0, 0⟩ : Gfold_pair)).e0), .int .i32 (((getM r1 Msplit1).getD (⟨0, 0⟩ : Gfold_pair)).e1)]) sz_73 rfl rfl rfl rfl rfl (show _ ≤ _ by simp) rfl rfl ?_
 show TO _ _ _ _ _ _ _ _ _ _ [mapA (fun n : Int => Value.int .i32 n) (fun p : Gfold_pair => Value.agg #[.int .i32 p.e0, .int .i32 p.e1]) bsplit1 Msplit1, cells b1 [.int .i32 (((getM r1 Msplit1).getD (⟨0, 0⟩ : Gfold_pair)).e0), .int .i32 (((getM r1 Msplit1).getD (⟨0, 0⟩ : Gfold_pair)).e1)] 73]
 refine TO.assign rfl dc rfl (TO.nil (TX.next (TC.seq (TC.seq (TC.region (TO.move rfl dc rfl (TO.un rfl dc rfl un_not (TO.nil (TX.next ?_)))))))))
 refine TC.condB rfl (fun hb1 => ?_) (fun hb1 => ?_)
 ·
  have h := condT hb1 h
  refine TC.seq (TC.region (TO.move rfl dc rfl ?_))
  refine TO.buildSlice (cs := [.int .i32 r1]) (te := 21) (ps := [(0, .tmp 15)]) rfl dc rfl (fun _ => by kernel_rfl) (fun b2 => ?_)
  refine TO.assign rfl dc rfl (TO.nil (TX.next (TC.ret (TX.thenRet (TX.toVec ([r1] : List Int) (k := 2) rfl encI_len rfl (show 1 ≤ maxLen by decide) ?_)))))
  show TX _ _ _ _ _ _ _ [mapA (fun n : Int => Value.int .i32 n) (fun p : Gfold_pair => Value.agg #[.int .i32 p.e0, .int .i32 p.e1]) bsplit1 Msplit1, cells b1 [.int .i32 (((getM r1 Msplit1).getD (⟨0, 0⟩ : Gfold_pair)).e0), .int .i32 (((getM r1 Msplit1).getD (⟨0, 0⟩ : Gfold_pair)).e1)] 73, vec (encI (.i32)) 21 1 (.slice (some ⟨b2, 0, none⟩) 1 1) ([r1] : List Int)]
  cases h
  exact TX.fin (rs := [.tmp 4]) (.slice (some ⟨b2, 0, none⟩) 1 1) (.inl rfl) Try.results51 (.cons (.tmp rfl) .nil) rfl (Splits.of [0, 2] kr rfl)
 ·
  have h := condF hb1 h
  refine TC.skip (TX.next (TC.seq ?_))
  obtain ⟨r2, hq1, h⟩ := andE h
  obtain ⟨hg1, h⟩ := grdE h
  refine TC.pad 2 ?_
  show TC _ _ _ _ _ _ _ _ _ [mapA (fun n : Int => Value.int .i32 n) (fun p : Gfold_pair => Value.agg #[.int .i32 p.e0, .int .i32 p.e1]) bsplit1 Msplit1, cells b1 [.int .i32 (((getM r1 Msplit1).getD (⟨0, 0⟩ : Gfold_pair)).e0), .int .i32 (((getM r1 Msplit1).getD (⟨0, 0⟩ : Gfold_pair)).e1)] 73, emp, emp]
  refine let vals1 : (Value × Nat) → List (Nat × Nat × Value) := fun b => [(0, 17, .map (some bsplit1)), (1, 18, .pointer (some ⟨b1, 0, none⟩)), (2, 19, .int .i32 (((getM r1 Msplit1).getD (⟨0, 0⟩ : Gfold_pair)).e0)), (3, 20, b.1), (4, 21, .pointer (some ⟨b1, 1, none⟩)), (5, 22, .int .i32 (((getM r1 Msplit1).getD (⟨0, 0⟩ : Gfold_pair)).e1)), (6, 23, .slice (some ⟨b.2, 0, none⟩) 1 1)]; let LL1 : (Nat → Prop) → (Value × Nat) → List Asn := fun D b => [mapA (fun n : Int => Value.int .i32 n) (fun p : Gfold_pair => Value.agg #[.int .i32 p.e0, .int .i32 p.e1]) bsplit1 Msplit1, cells b1 [.int .i32 (((getM r1 Msplit1).getD (⟨0, 0⟩ : Gfold_pair)).e0), .int .i32 (((getM r1 Msplit1).getD (⟨0, 0⟩ : Gfold_pair)).e1)] 73, eD D emp [(3, vec (encI (.i32)) 21 1 b.1 r2)], eD D emp [(6, cells b.2 [.int .i32 (((getM r1 Msplit1).getD (⟨0, 0⟩ : Gfold_pair)).e1)] 21)]]; ?_
  refine TC.drawG (β := Value × Nat) 7 ((.slice none 0 0 : Value), (0 : Nat)) vals1 LL1 mixed kr kr dc (fun _ => rfl) (cons_eq rfl (cons_eq rfl (cons_eq eD_none (cons_eq eD_none rfl)))) (DrawG.cons ?_ (DrawG.cons ?_ (DrawG.cons ?_ (DrawG.cons ?_ (DrawG.cons ?_ (DrawG.cons ?_ (DrawG.cons ?_ DrawG.nil))))))) ?_
  ·
   intro D b hn hd hcl
   obtain ⟨v1, b3⟩ := b
   refine TO.rewL (L' := [mapA (fun n : Int => Value.int .i32 n) (fun p : Gfold_pair => Value.agg #[.int .i32 p.e0, .int .i32 p.e1]) bsplit1 Msplit1, cells b1 [.int .i32 (((getM r1 Msplit1).getD (⟨0, 0⟩ : Gfold_pair)).e0), .int .i32 (((getM r1 Msplit1).getD (⟨0, 0⟩ : Gfold_pair)).e1)] 73, emp, eD D emp [(6, cells b3 [.int .i32 (((getM r1 Msplit1).getD (⟨0, 0⟩ : Gfold_pair)).e1)] 21)]]) (cons_eq rfl (cons_eq rfl (cons_eq (eD_miss (fun hD => hn (hcl 3 _ rfl hD 0 dc)) eD_nil) (cons_eq rfl rfl)))) ?_
   refine TO.move rfl dc (dl_old (by rfl) rfl) ?_
   exact TX.valG (v1, b3) 0 (by rfl) (by rfl) rfl (dl_cons_eq (fun _ => rfl) (dl_cons_eq (fun _ => rfl) (dl_cons_eq (fun _ => rfl) (dl_cons_eq (fun _ => rfl) (dl_cons_eq (fun _ => rfl) (dl_cons_eq (fun _ => rfl) (dl_cons_eq (fun _ => rfl) rfl))))))) (cons_eq rfl (cons_eq rfl (cons_eq ((eD_skip (by rfl)).trans (eD_miss (fun hD => hn (hcl 3 _ rfl hD 0 dc)) eD_nil)) (cons_eq ((eD_skip (by rfl)).trans rfl) rfl))))
  ·
   intro D b hn hd hcl
   obtain ⟨v1, b3⟩ := b
   refine TO.rewL (L' := [mapA (fun n : Int => Value.int .i32 n) (fun p : Gfold_pair => Value.agg #[.int .i32 p.e0, .int .i32 p.e1]) bsplit1 Msplit1, cells b1 [.int .i32 (((getM r1 Msplit1).getD (⟨0, 0⟩ : Gfold_pair)).e0), .int .i32 (((getM r1 Msplit1).getD (⟨0, 0⟩ : Gfold_pair)).e1)] 73, emp, eD D emp [(6, cells b3 [.int .i32 (((getM r1 Msplit1).getD (⟨0, 0⟩ : Gfold_pair)).e1)] 21)]]) (cons_eq rfl (cons_eq rfl (cons_eq (eD_miss (fun hD => hn (hcl 2 _ rfl (hcl 3 _ rfl hD 2 dc) 1 dc)) eD_nil) (cons_eq rfl rfl)))) ?_
   refine TO.indexArr dc Try.underlying73 sz_21 rfl dc (dl_old (by rfl) rfl) rfl (show _ = 0 from rfl) ?_
   exact TX.valG (v1, b3) 1 (by rfl) (by rfl) rfl (dl_cons_eq (fun _ => rfl) (dl_cons_eq (fun _ => rfl) (dl_cons_eq (fun _ => rfl) (dl_cons_eq (fun _ => rfl) (dl_cons_eq (fun _ => rfl) (dl_cons_eq (fun _ => rfl) (dl_cons_eq (fun _ => rfl) rfl))))))) (cons_eq rfl (cons_eq rfl (cons_eq ((eD_skip (by rfl)).trans (eD_miss (fun hD => hn (hcl 2 _ rfl (hcl 3 _ rfl hD 2 dc) 1 dc)) eD_nil)) (cons_eq ((eD_skip (by rfl)).trans rfl) rfl))))
  ·
   intro D b hn hd hcl
   obtain ⟨v1, b3⟩ := b
   refine TO.rewL (L' := [mapA (fun n : Int => Value.int .i32 n) (fun p : Gfold_pair => Value.agg #[.int .i32 p.e0, .int .i32 p.e1]) bsplit1 Msplit1, cells b1 [.int .i32 (((getM r1 Msplit1).getD (⟨0, 0⟩ : Gfold_pair)).e0), .int .i32 (((getM r1 Msplit1).getD (⟨0, 0⟩ : Gfold_pair)).e1)] 73, emp, eD D emp [(6, cells b3 [.int .i32 (((getM r1 Msplit1).getD (⟨0, 0⟩ : Gfold_pair)).e1)] 21)]]) (cons_eq rfl (cons_eq rfl (cons_eq (eD_miss (fun hD => hn (hcl 3 _ rfl hD 2 dc)) eD_nil) (cons_eq rfl rfl)))) ?_
   refine TO.load (k := 1) sc_21 rfl dc (dl_lookup (m := 1) rfl rfl (hd 1 dc)) rfl rfl ?_
   exact TX.valG (v1, b3) 2 (by rfl) (by rfl) rfl (dl_cons_eq (fun _ => rfl) (dl_cons_eq (fun _ => rfl) (dl_cons_eq (fun _ => rfl) (dl_cons_eq (fun _ => rfl) (dl_cons_eq (fun _ => rfl) (dl_cons_eq (fun _ => rfl) (dl_cons_eq (fun _ => rfl) rfl))))))) (cons_eq rfl (cons_eq rfl (cons_eq ((eD_skip (by rfl)).trans (eD_miss (fun hD => hn (hcl 3 _ rfl hD 2 dc)) eD_nil)) (cons_eq ((eD_skip (by rfl)).trans rfl) rfl))))
  ·
   intro D b hn hd hcl
   obtain ⟨_, b3⟩ := b
   refine TO.rewL (L' := [mapA (fun n : Int => Value.int .i32 n) (fun p : Gfold_pair => Value.agg #[.int .i32 p.e0, .int .i32 p.e1]) bsplit1 Msplit1, cells b1 [.int .i32 (((getM r1 Msplit1).getD (⟨0, 0⟩ : Gfold_pair)).e0), .int .i32 (((getM r1 Msplit1).getD (⟨0, 0⟩ : Gfold_pair)).e1)] 73, emp, eD D emp [(6, cells b3 [.int .i32 (((getM r1 Msplit1).getD (⟨0, 0⟩ : Gfold_pair)).e1)] 21)]]) (cons_eq rfl (cons_eq rfl (cons_eq (eD_miss hn eD_nil) (cons_eq rfl rfl)))) ?_
   refine TO.call (vs := [.map (some bsplit1), .int .i32 (((getM r1 Msplit1).getD (⟨0, 0⟩ : Gfold_pair)).e0)]) rfl dc rfl (evL.cons (dl_lookup (m := 0) rfl rfl (hd 0 dc)) (evL.cons (dl_lookup (m := 2) rfl rfl (hd 2 dc)) evL.nil)) rfl en_51 (hrec hq1) (Splits.of [0] kr rfl) ?_
   rintro v1
   show TO _ _ _ _ _ _ _ _ _ _ [emp, cells b1 [.int .i32 (((getM r1 Msplit1).getD (⟨0, 0⟩ : Gfold_pair)).e0), .int .i32 (((getM r1 Msplit1).getD (⟨0, 0⟩ : Gfold_pair)).e1)] 73, emp, eD D emp [(6, cells b3 [.int .i32 (((getM r1 Msplit1).getD (⟨0, 0⟩ : Gfold_pair)).e1)] 21)], mapA (fun n : Int => Value.int .i32 n) (fun p : Gfold_pair => Value.agg #[.int .i32 p.e0, .int .i32 p.e1]) bsplit1 Msplit1, vec (encI (.i32)) 21 1 v1 r2]
   refine TO.weakenL (L' := [mapA (fun n : Int => Value.int .i32 n) (fun p : Gfold_pair => Value.agg #[.int .i32 p.e0, .int .i32 p.e1]) bsplit1 Msplit1, cells b1 [.int .i32 (((getM r1 Msplit1).getD (⟨0, 0⟩ : Gfold_pair)).e0), .int .i32 (((getM r1 Msplit1).getD (⟨0, 0⟩ : Gfold_pair)).e1)] 73, emp, eD D emp [(6, cells b3 [.int .i32 (((getM r1 Msplit1).getD (⟨0, 0⟩ : Gfold_pair)).e1)] 21)], vec (encI (.i32)) 21 1 v1 r2]) (Splits.of [4, 1, 2, 3, 5] kr rfl) ?_
   refine TO.place 2 rfl rfl ?_
   show TO _ _ _ _ _ _ _ _ _ _ [mapA (fun n : Int => Value.int .i32 n) (fun p : Gfold_pair => Value.agg #[.int .i32 p.e0, .int .i32 p.e1]) bsplit1 Msplit1, cells b1 [.int .i32 (((getM r1 Msplit1).getD (⟨0, 0⟩ : Gfold_pair)).e0), .int .i32 (((getM r1 Msplit1).getD (⟨0, 0⟩ : Gfold_pair)).e1)] 73, vec (encI (.i32)) 21 1 v1 r2, eD D emp [(6, cells b3 [.int .i32 (((getM r1 Msplit1).getD (⟨0, 0⟩ : Gfold_pair)).e1)] 21)]]
   exact TX.valG (v1, b3) 3 (by rfl) (by rfl) rfl (dl_cons_eq (fun _ => rfl) (dl_cons_eq (fun _ => rfl) (dl_cons_eq (fun _ => rfl) (dl_cons_eq (fun hD => absurd hD hn) (dl_cons_eq (fun _ => rfl) (dl_cons_eq (fun _ => rfl) (dl_cons_eq (fun _ => rfl) rfl))))))) (cons_eq rfl (cons_eq rfl (cons_eq (eD_hit (Or.inr rfl) rfl) (cons_eq ((eD_skip (by rfl)).trans rfl) rfl))))
  ·
   intro D b hn hd hcl
   obtain ⟨v1, b3⟩ := b
   refine TO.rewL (L' := [mapA (fun n : Int => Value.int .i32 n) (fun p : Gfold_pair => Value.agg #[.int .i32 p.e0, .int .i32 p.e1]) bsplit1 Msplit1, cells b1 [.int .i32 (((getM r1 Msplit1).getD (⟨0, 0⟩ : Gfold_pair)).e0), .int .i32 (((getM r1 Msplit1).getD (⟨0, 0⟩ : Gfold_pair)).e1)] 73, eD D emp [(3, vec (encI (.i32)) 21 1 v1 r2)], emp]) (cons_eq rfl (cons_eq rfl (cons_eq rfl (cons_eq (eD_miss (fun hD => hn (hcl 5 _ rfl (hcl 6 _ rfl hD 5 dc) 4 dc)) eD_nil) rfl)))) ?_
   refine TO.indexArr dc Try.underlying73 sz_21 rfl dc (dl_old (by rfl) rfl) rfl (show _ = 1 from rfl) ?_
   exact TX.valG (v1, b3) 4 (by rfl) (by rfl) rfl (dl_cons_eq (fun _ => rfl) (dl_cons_eq (fun _ => rfl) (dl_cons_eq (fun _ => rfl) (dl_cons_eq (fun _ => rfl) (dl_cons_eq (fun _ => rfl) (dl_cons_eq (fun _ => rfl) (dl_cons_eq (fun _ => rfl) rfl))))))) (cons_eq rfl (cons_eq rfl (cons_eq ((eD_skip (by rfl)).trans rfl) (cons_eq ((eD_skip (by rfl)).trans (eD_miss (fun hD => hn (hcl 5 _ rfl (hcl 6 _ rfl hD 5 dc) 4 dc)) eD_nil)) rfl))))
  ·
   intro D b hn hd hcl
   obtain ⟨v1, b3⟩ := b
   refine TO.rewL (L' := [mapA (fun n : Int => Value.int .i32 n) (fun p : Gfold_pair => Value.agg #[.int .i32 p.e0, .int .i32 p.e1]) bsplit1 Msplit1, cells b1 [.int .i32 (((getM r1 Msplit1).getD (⟨0, 0⟩ : Gfold_pair)).e0), .int .i32 (((getM r1 Msplit1).getD (⟨0, 0⟩ : Gfold_pair)).e1)] 73, eD D emp [(3, vec (encI (.i32)) 21 1 v1 r2)], emp]) (cons_eq rfl (cons_eq rfl (cons_eq rfl (cons_eq (eD_miss (fun hD => hn (hcl 6 _ rfl hD 5 dc)) eD_nil) rfl)))) ?_
   refine TO.load (k := 1) sc_21 rfl dc (dl_lookup (m := 4) rfl rfl (hd 4 dc)) rfl rfl ?_
   exact TX.valG (v1, b3) 5 (by rfl) (by rfl) rfl (dl_cons_eq (fun _ => rfl) (dl_cons_eq (fun _ => rfl) (dl_cons_eq (fun _ => rfl) (dl_cons_eq (fun _ => rfl) (dl_cons_eq (fun _ => rfl) (dl_cons_eq (fun _ => rfl) (dl_cons_eq (fun _ => rfl) rfl))))))) (cons_eq rfl (cons_eq rfl (cons_eq ((eD_skip (by rfl)).trans rfl) (cons_eq ((eD_skip (by rfl)).trans (eD_miss (fun hD => hn (hcl 6 _ rfl hD 5 dc)) eD_nil)) rfl))))
  ·
   intro D b hn hd hcl
   obtain ⟨v1, _⟩ := b
   refine TO.rewL (L' := [mapA (fun n : Int => Value.int .i32 n) (fun p : Gfold_pair => Value.agg #[.int .i32 p.e0, .int .i32 p.e1]) bsplit1 Msplit1, cells b1 [.int .i32 (((getM r1 Msplit1).getD (⟨0, 0⟩ : Gfold_pair)).e0), .int .i32 (((getM r1 Msplit1).getD (⟨0, 0⟩ : Gfold_pair)).e1)] 73, eD D emp [(3, vec (encI (.i32)) 21 1 v1 r2)], emp]) (cons_eq rfl (cons_eq rfl (cons_eq rfl (cons_eq (eD_miss hn eD_nil) rfl)))) ?_
   refine TO.buildSlice (cs := [.int .i32 (((getM r1 Msplit1).getD (⟨0, 0⟩ : Gfold_pair)).e1)]) (te := 21) (ps := [(0, .tmp 22)]) rfl dc (evP.cons (dl_lookup (m := 5) rfl rfl (hd 5 dc)) evP.nil) (fun _ => by kernel_rfl) (fun b3 => ?_)
   refine TO.place 3 rfl rfl ?_
   show TO _ _ _ _ _ _ _ _ _ _ [mapA (fun n : Int => Value.int .i32 n) (fun p : Gfold_pair => Value.agg #[.int .i32 p.e0, .int .i32 p.e1]) bsplit1 Msplit1, cells b1 [.int .i32 (((getM r1 Msplit1).getD (⟨0, 0⟩ : Gfold_pair)).e0), .int .i32 (((getM r1 Msplit1).getD (⟨0, 0⟩ : Gfold_pair)).e1)] 73, eD D emp [(3, vec (encI (.i32)) 21 1 v1 r2)], cells b3 [.int .i32 (((getM r1 Msplit1).getD (⟨0, 0⟩ : Gfold_pair)).e1)] 21]
   exact TX.valG (v1, b3) 6 (by rfl) (by rfl) rfl (dl_cons_eq (fun _ => rfl) (dl_cons_eq (fun _ => rfl) (dl_cons_eq (fun _ => rfl) (dl_cons_eq (fun _ => rfl) (dl_cons_eq (fun _ => rfl) (dl_cons_eq (fun _ => rfl) (dl_cons_eq (fun hD => absurd hD hn) rfl))))))) (cons_eq rfl (cons_eq rfl (cons_eq ((eD_skip (by rfl)).trans rfl) (cons_eq (eD_hit (Or.inr rfl) rfl) rfl))))
  intro D b hall
  obtain ⟨v1, b3⟩ := b
  refine TO.rewL (L' := [mapA (fun n : Int => Value.int .i32 n) (fun p : Gfold_pair => Value.agg #[.int .i32 p.e0, .int .i32 p.e1]) bsplit1 Msplit1, cells b1 [.int .i32 (((getM r1 Msplit1).getD (⟨0, 0⟩ : Gfold_pair)).e0), .int .i32 (((getM r1 Msplit1).getD (⟨0, 0⟩ : Gfold_pair)).e1)] 73, vec (encI (.i32)) 21 1 v1 r2, cells b3 [.int .i32 (((getM r1 Msplit1).getD (⟨0, 0⟩ : Gfold_pair)).e1)] 21]) (cons_eq rfl (cons_eq rfl (cons_eq (eD_hit (hall 3 dc) rfl) (cons_eq (eD_hit (hall 6 dc) rfl) rfl)))) ?_
  refine TO.appendVec (k := 2) (k2 := 3) (ys := [((getM r1 Msplit1).getD (⟨0, 0⟩ : Gfold_pair)).e1]) Try.underlying44 el_21 encI_len encI_one rfl dc rfl rfl rfl rfl rfl rfl hg1 (fun v2 => ?_)
  refine TO.assign rfl dc rfl (TO.nil (TX.next (TC.ret ?_)))
  cases h
  exact TX.fin (rs := [.tmp 4]) v2 (.inl rfl) Try.results51 (.cons (.tmp rfl) .nil) rfl (Splits.of [0, 2] kr rfl)
theorem fold_parted_fn {bsplit1 : Nat} {Msplit1 : List (Int × Gfold_pair)} {r1 : Int} {r : (List Int)} (h : fold_parted_v Msplit1 r1 = some r) : Fn Try.prog 51 [.map (some bsplit1), .int .i32 r1] [mapA (fun n : Int => Value.int .i32 n) (fun p : Gfold_pair => Value.agg #[.int .i32 p.e0, .int .i32 p.e1]) bsplit1 Msplit1] (fun v0 : Value => v0) (fun v0 => [mapA (fun n : Int => Value.int .i32 n) (fun p : Gfold_pair => Value.agg #[.int .i32 p.e0, .int .i32 p.e1]) bsplit1 Msplit1, vec (encI (.i32)) 21 1 v0 r]) := by
 unfold fold_parted_v at h
 exact fold_parted_fb fuel  h
def fold_Bare_1_v (u1 : Gfold_unit) : Option ByteArray := some (Utf8.encode u1.base)
set_option maxRecDepth 100000 in
set_option maxHeartbeats 4000000 in
theorem fold_Bare_1_fn {u1 : Gfold_unit} {u1_h0 u1_h1 : Hd} {r : ByteArray} (h : fold_Bare_1_v u1 = some r) : Fn Try.prog 43 [.agg #[.int .i64 u1.at_, .int .u8 u1.broken, .int .i32 u1.base, u1_h0.v, u1_h1.v]] [vec (encI (.i32)) 21 1 u1_h0.v u1.low, vec (encI (.i32)) 21 1 u1_h1.v u1.high] (fun _b : Unit => .string r) (fun _b => [vec (encI (.i32)) 21 1 u1_h0.v u1.low, vec (encI (.i32)) 21 1 u1_h1.v u1.high]) := by
 unfold fold_Bare_1_v at h
 refine Fn.intro Try.func43 rfl Try.ntmps43 (by simp) ?_
 intro w0 K
 refine TC.seq (TC.region ?_)
 refine TO.box rfl dc rfl (fun b1 => ?_)
 refine TO.assign rfl dc rfl (TO.nil (TX.next (TC.seq (TC.region (TO.fieldAddr fl_46_2 rfl dc rfl (show _ = 2 from rfl) (TO.load (k := 2) sc_21 rfl dc rfl rfl rfl (TO.conv rfl dc rfl (conv_rune Try.underlying21 Try.underlying9) (TO.assign rfl dc rfl (TO.nil (TX.next (TC.ret ?_)))))))))))
 cases h
 exact TX.fin (rs := [.tmp 2]) () (.inl rfl) Try.results43 (.cons (.tmp rfl) .nil) rfl (Splits.of [0, 1] kr rfl)
def fold_Apart_1_v (u1 : Gfold_unit) : Option ByteArray := grd ((Utf8.encode u1.base).size + (strOf u1.low).size ≤ 9223372036854775807) <| grd (((Utf8.encode u1.base) ++ (strOf u1.low)).size + (strOf u1.high).size ≤ 9223372036854775807) <| some (((Utf8.encode u1.base) ++ (strOf u1.low)) ++ (strOf u1.high))
set_option maxRecDepth 100000 in
set_option maxHeartbeats 4000000 in
theorem fold_Apart_1_fn {u1 : Gfold_unit} {u1_h0 u1_h1 : Hd} {r : ByteArray} (h : fold_Apart_1_v u1 = some r) : Fn Try.prog 39 [.agg #[.int .i64 u1.at_, .int .u8 u1.broken, .int .i32 u1.base, u1_h0.v, u1_h1.v]] [vec (encI (.i32)) 21 1 u1_h0.v u1.low, vec (encI (.i32)) 21 1 u1_h1.v u1.high] (fun _b : Unit => .string r) (fun _b => [vec (encI (.i32)) 21 1 u1_h0.v u1.low, vec (encI (.i32)) 21 1 u1_h1.v u1.high]) := by
 unfold fold_Apart_1_v at h
 refine Fn.intro Try.func39 rfl Try.ntmps39 (by simp) ?_
 intro w0 K
 refine TC.seq (TC.region ?_)
 refine TO.box rfl dc rfl (fun b1 => ?_)
 refine TO.assign rfl dc rfl (TO.nil (TX.next (TC.seq (TC.region (TO.fieldAddr fl_46_2 rfl dc rfl (show _ = 2 from rfl) (TO.load (k := 2) sc_21 rfl dc rfl rfl rfl (TO.conv rfl dc rfl (conv_rune Try.underlying21 Try.underlying9) (TO.fieldAddr fl_46_3 rfl dc rfl (show _ = 3 from rfl) (TO.load (k := 2) sc_44 rfl dc rfl rfl rfl (TO.runesStr (k := 0) rfl dc rfl rfl Try.underlying44 Try.underlying21 Try.underlying9 ?_))))))))))
 obtain ⟨hg1, h⟩ := grdE h
 refine TO.bin rfl dc rfl rfl (bin_sadd hg1) (TO.fieldAddr fl_46_4 rfl dc rfl (show _ = 4 from rfl) (TO.load (k := 2) sc_44 rfl dc rfl rfl rfl (TO.runesStr (k := 1) rfl dc rfl rfl Try.underlying44 Try.underlying21 Try.underlying9 ?_)))
 obtain ⟨hg2, h⟩ := grdE h
 refine TO.bin rfl dc rfl rfl (bin_sadd hg2) (TO.assign rfl dc rfl (TO.nil (TX.next (TC.ret ?_))))
 cases h
 exact TX.fin (rs := [.tmp 2]) () (.inl rfl) Try.results39 (.cons (.tmp rfl) .nil) rfl (Splits.of [0, 1] kr rfl)
def fold_plain_s1 (u1 : Gfold_unit) (j1 : Option ByteArray) (ag1 : Int → Bool → Nat → Option ByteArray) (from3 : Int) (head3 : Bool) (m3 : Nat) : Option ByteArray := bcond (decide (m3 < (pcs str_f9f7e721.data.toList).length)) ( andThen ((pcs str_f9f7e721.data.toList)[m3]?) fun (p1 : Pc) => joinK (fun (j2 : Int → Option ByteArray) => bcond (((p1.r : Int) : Int) == 32) ( bcond (decide ((0 : Int) ≤ from3)) ( grd (0 ≤ (from3 : Int) ∧ (from3 : Int) ≤ (p1.i : Int) ∧ ((p1.i : Int) : Int) ≤ (str_f9f7e721.size : Int)) <| some (cutB str_f9f7e721 from3 (p1.i : Int))
) ( bcond (((p1.r : Int) : Int) == 32) ( j2 from3
) ( bcond (head3) ( bcond (((p1.r : Int) : Int) == (lower u1.base)) ( grd (I64 ((p1.i : Int) + ((Utf8.encode (p1.r : Int)).size : Int))) <| j2 ((p1.i : Int) + ((Utf8.encode (p1.r : Int)).size : Int))
) ( j2 from3
)
) ( j2 from3
)
)
)
) ( bcond (((p1.r : Int) : Int) == 32) ( j2 from3
) ( bcond (head3) ( bcond (((p1.r : Int) : Int) == (lower u1.base)) ( grd (I64 ((p1.i : Int) + ((Utf8.encode (p1.r : Int)).size : Int))) <| j2 ((p1.i : Int) + ((Utf8.encode (p1.r : Int)).size : Int))
) ( j2 from3
)
) ( j2 from3
)
)
)
) (fun (from4 : Int) => ag1 from4 (((p1.r : Int) : Int) == 32) (m3 + 1)
)
) ( j1
)
def fold_plain_v (u1 : Gfold_unit) : Option ByteArray := andThen (fold_unit_letter_v u1) fun (r1 : Bool) => bcond (!r1) ( some (Utf8.encode u1.base)
) ( joinK (fun (j1 : Option ByteArray) => grd (I32 u1.base) <| loopG (fun _ _ _ => none) (fold_plain_s1 u1 j1) fuel (-1) true 0
) ( some (Utf8.encode (lower u1.base))
)
)
set_option maxRecDepth 100000 in
set_option maxHeartbeats 4000000 in
theorem fold_plain_fn {u1 : Gfold_unit} {u1_h0 u1_h1 : Hd} {r : ByteArray} (h : fold_plain_v u1 = some r) : Fn Try.prog 26 [.agg #[.int .i64 u1.at_, .int .u8 u1.broken, .int .i32 u1.base, u1_h0.v, u1_h1.v]] [vec (encI (.i32)) 21 1 u1_h0.v u1.low, vec (encI (.i32)) 21 1 u1_h1.v u1.high] (fun _b : Unit => .string r) (fun _b => [vec (encI (.i32)) 21 1 u1_h0.v u1.low, vec (encI (.i32)) 21 1 u1_h1.v u1.high]) := by
 unfold fold_plain_v at h
 refine Fn.intro Try.func26 rfl Try.ntmps26 (by simp) ?_
 intro w0 K
 refine TC.seq (TC.region ?_)
 refine TO.box rfl dc rfl (fun b1 => ?_)
 refine TO.assign rfl dc rfl (TO.nil (TX.next (TC.seq (TC.seq (TC.region (TO.loads (k := 2) (cs := [.int .i64 u1.at_, .int .u8 u1.broken, .int .i32 u1.base, u1_h0.v, u1_h1.v]) rw_46 rfl dc rfl rfl rfl rfl ?_))))))
 obtain ⟨r1, hq1, h⟩ := andE h
 refine TO.callK (v := .bool r1) (vs := [.agg #[.int .i64 u1.at_, .int .u8 u1.broken, .int .i32 u1.base, u1_h0.v, u1_h1.v]]) rfl dc rfl rfl rfl en_42 (fold_unit_letter_fn (u1 := u1) (u1_h0 := u1_h0) (u1_h1 := u1_h1) hq1) [0, 1] kr rfl (TO.un rfl dc rfl un_not (TO.nil (TX.next ?_)))
 refine TC.condB rfl (fun hb1 => ?_) (fun hb1 => ?_)
 ·
  have h := condT hb1 h
  refine TC.seq (TC.region (TO.fieldAddr fl_46_2 rfl dc rfl (show _ = 2 from rfl) (TO.load (k := 2) sc_21 rfl dc rfl rfl rfl (TO.conv rfl dc rfl (conv_rune Try.underlying21 Try.underlying9) (TO.assign rfl dc rfl (TO.nil (TX.next (TC.ret (TX.thenRet ?_)))))))))
  cases h
  exact TX.fin (rs := [.tmp 2]) () (.inl rfl) Try.results26 (.cons (.tmp rfl) .nil) rfl (Splits.of [0, 1] kr rfl)
 ·
  have h := condF hb1 h
  refine TC.skip (TX.next ?_)
  obtain ⟨j1, hj1, h⟩ := joinE h
  refine TC.cutN (β := Unit) 3 rfl (fun b => j1 = some r) (fun b => []) (fun b => [(3, .int .i32 (lower u1.base))]) (fun b => [vec (encI (.i32)) 21 1 u1_h0.v u1.low, vec (encI (.i32)) 21 1 u1_h1.v u1.high]) (fun cut => ?_) ?_
  ·
   refine TC.seq (TC.region (TO.fieldAddr fl_46_2 rfl dc rfl (show _ = 2 from rfl) (TO.load (k := 2) sc_21 rfl dc rfl rfl rfl ?_)))
   obtain ⟨hg1, h⟩ := grdE h
   refine TO.callP (v := .int .i32 (lower u1.base)) (vs := [.int .i32 u1.base]) rfl dc rfl rfl rfl en_52 (FnP.of_same fun w => lower_any u1.base w hg1.1 hg1.2) ?_
   refine TO.assign rfl dc rfl (TO.nil (TX.next (TC.seq (TC.region (TO.assign rfl dc rfl (TO.nil (TX.next (TC.seq (TC.region (TO.assign rfl dc rfl (TO.nil (TX.next (cut ?_)))))))))))))
   refine TC.seq (TC.region ?_)
   refine TO.rangeStr Try.underlying9 rfl dc rfl (fun b2 => ?_)
   show TO _ _ _ _ _ _ _ _ _ _ [vec (encI (.i32)) 21 1 u1_h0.v u1.low, vec (encI (.i32)) 21 1 u1_h1.v u1.high, cells b1 [.int .i64 u1.at_, .int .u8 u1.broken, .int .i32 u1.base, u1_h0.v, u1_h1.v] 46, obj b2 (.stringIter str_f9f7e721 (posAt str_f9f7e721 0))]
   refine TO.nil (TX.next (TC.block ?_))
   refine TC.loopD (β := Nat × Int × Bool × Nat) (fun b => loopG (fun _ _ _ => none) (fold_plain_s1 u1 j1) b.1 b.2.1 b.2.2.1 b.2.2.2 = some r) (fun b => []) (fun b => [(3, .int .i32 (lower u1.base)), (4, .int .i64 b.2.1), (5, .bool b.2.2.1), (17, .pointer (some ⟨b2, 0, none⟩))]) (fun b => [vec (encI (.i32)) 21 1 u1_h0.v u1.low, vec (encI (.i32)) 21 1 u1_h1.v u1.high, obj b2 (.stringIter str_f9f7e721 (posAt str_f9f7e721 b.2.2.2))]) (fun b => b.1) (fuel, (-1), true, 0) h rfl (Sbs.cons rfl (Sbs.cons rfl (Sbs.cons rfl (Sbs.cons rfl (Sbs.nil))))) (Splits.of [0, 1, 3] kr rfl) ?_
   rintro ⟨n1, from3, head3, m3⟩ h
   cases n1 with
   | zero => exact noneE h
   | succ n1 =>
    obtain ⟨ag1, hag1⟩ : ∃ ag, ag = loopG (fun _ _ _ => none) (fold_plain_s1 u1 j1) n1 := ⟨_, rfl⟩
    have h : fold_plain_s1 u1 j1 ag1 from3 head3 m3 = some r := by rw [hag1]; exact h
    unfold fold_plain_s1 at h
    show TC _ _ _ _ _ ([]) _ _ [(3, .int .i32 (lower u1.base)), (4, .int .i64 from3), (5, .bool head3), (17, .pointer (some ⟨b2, 0, none⟩))] [vec (encI (.i32)) 21 1 u1_h0.v u1.low, vec (encI (.i32)) 21 1 u1_h1.v u1.high, obj b2 (.stringIter str_f9f7e721 (posAt str_f9f7e721 m3))]
    refine TC.seq (TC.region ?_)
    refine TO.bySplit (b := decide (m3 < (pcs str_f9f7e721.data.toList).length)) (fun hb2 => ?_) (fun hb2 => ?_)
    ·
     have h := condT hb2 h
     obtain ⟨p1, hq2, h⟩ := andE h
     refine TO.nextStr (k := 2) (m := m3) (p := p1) rfl dc rfl rfl hq2 (TO.extract rfl dc rfl rfl (TO.nil (TX.next (TC.seq (TC.condT rfl (TC.skip (TX.next (TC.block ?_))))))))
     obtain ⟨j2, hj2, h⟩ := joinE h
     refine TC.cutN (β := Int) 1 rfl (fun b => j2 b = some r) (fun b => []) (fun b => [(3, .int .i32 (lower u1.base)), (4, .int .i64 b), (7, .int .i32 (p1.r : Int)), (17, .pointer (some ⟨b2, 0, none⟩))]) (fun b => [vec (encI (.i32)) 21 1 u1_h0.v u1.low, vec (encI (.i32)) 21 1 u1_h1.v u1.high, obj b2 (.stringIter str_f9f7e721 (posAt str_f9f7e721 (m3 + 1)))]) (fun cut => ?_) ?_
     ·
      refine TC.seq (TC.region (TO.extract rfl dc rfl rfl (TO.extract rfl dc rfl rfl (TO.assign rfl dc rfl (TO.assign rfl dc rfl (TO.nil (TX.next (cut (TC.block (TC.seq (TC.region (TO.move rfl dc rfl (TO.bin rfl dc rfl rfl bin_eql ?_)))))))))))))
      refine TO.move rfl dc rfl ?_
      refine TO.split (s := 25) rfl (fun hb3 => ?_) (fun hb3 => ?_)
      ·
       have h := condT hb3 h
       refine TO.move rfl dc rfl (TO.bin rfl dc rfl rfl bin_geq (TO.pick (b := true) rfl dc rfl rfl (TO.assign rfl dc rfl (TO.nil (TX.next ?_)))))
       refine TC.condB rfl (fun hb4 => ?_) (fun hb4 => ?_)
       ·
        have h := condT hb4 h
        refine TC.seq (TC.region (TO.move rfl dc rfl (TO.move rfl dc rfl ?_)))
        obtain ⟨hg2, h⟩ := grdE h
        refine TO.slice rfl dc rfl rfl rfl (slice_stringI (i := from3) (j := (p1.i : Int)) Try.underlying9 (.inr rfl) (.inr rfl) hg2) (TO.assign rfl dc rfl (TO.nil (TX.next (TC.ret (TX.blockRet (TX.thenRet (TX.blockRet (TX.thenRet (TX.blockRet (TX.thenRet ?_))))))))))
        cases h
        exact TX.fin (rs := [.tmp 2]) () (.inl rfl) Try.results26 (.cons (.tmp rfl) .nil) rfl (Splits.of [0, 1] kr rfl)
       ·
        have h := condF hb4 h
        refine TC.seq (TC.region (TO.move rfl dc rfl (TO.bin rfl dc rfl rfl bin_eql (TO.assign rfl dc rfl (TO.nil (TX.next ?_))))))
        refine TC.condB rfl (fun hb5 => ?_) (fun hb5 => ?_)
        ·
         have h := condT hb5 h
         refine TC.skip (TX.blockNormal ?_)
         exact TX.meetD from3 h rfl (Sbs.cons rfl (Sbs.cons rfl (Sbs.cons rfl (Sbs.cons rfl (Sbs.nil))))) (Splits.of [0, 1, 2] kr rfl)
        ·
         have h := condF hb5 h
         refine TC.seq (TC.region (TO.move rfl dc rfl (TO.move rfl dc rfl ?_)))
         refine TO.split (s := 37) rfl (fun hb6 => ?_) (fun hb6 => ?_)
         ·
          have h := condT hb6 h
          refine TO.move rfl dc rfl (TO.move rfl dc rfl (TO.bin rfl dc rfl rfl bin_eql (TO.pick (b := true) rfl dc rfl rfl (TO.assign rfl dc rfl (TO.nil (TX.next ?_))))))
          refine TC.condB rfl (fun hb7 => ?_) (fun hb7 => ?_)
          ·
           have h := condT hb7 h
           refine TC.region (TO.move rfl dc rfl (TO.move rfl dc rfl (TO.conv rfl dc rfl (conv_rune Try.underlying21 Try.underlying9) (TO.lenStr rfl dc rfl Try.underlying9 ?_))))
           obtain ⟨hg3, h⟩ := grdE h
           refine TO.bin rfl dc rfl rfl (bin_add (r := (p1.i : Int) + ((Utf8.encode (p1.r : Int)).size : Int)) (IntWalk.i64_in _ hg3)) (TO.assign rfl dc rfl (TO.nil (TX.blockNormal ?_)))
           exact TX.meetD ((p1.i : Int) + ((Utf8.encode (p1.r : Int)).size : Int)) h rfl (Sbs.cons rfl (Sbs.cons rfl (Sbs.cons rfl (Sbs.cons rfl (Sbs.nil))))) (Splits.of [0, 1, 2] kr rfl)
          ·
           have h := condF hb7 h
           refine TC.skip (TX.blockNormal ?_)
           exact TX.meetD from3 h rfl (Sbs.cons rfl (Sbs.cons rfl (Sbs.cons rfl (Sbs.cons rfl (Sbs.nil))))) (Splits.of [0, 1, 2] kr rfl)
         ·
          have h := condF hb6 h
          refine TO.skip rfl dc (TO.skip rfl dc (TO.skip rfl dc (TO.pick (b := false) rfl dc rfl rfl (TO.assign rfl dc rfl (TO.nil (TX.next (TC.condF rfl (TC.skip (TX.blockNormal ?_)))))))))
          exact TX.meetD from3 h rfl (Sbs.cons rfl (Sbs.cons rfl (Sbs.cons rfl (Sbs.cons rfl (Sbs.nil))))) (Splits.of [0, 1, 2] kr rfl)
      ·
       have h := condF hb3 h
       refine TO.skip rfl dc (TO.skip rfl dc (TO.pick (b := false) rfl dc rfl rfl (TO.assign rfl dc rfl (TO.nil (TX.next (TC.condF rfl (TC.seq (TC.region (TO.move rfl dc rfl (TO.bin rfl dc rfl rfl bin_eql (TO.assign rfl dc rfl (TO.nil (TX.next ?_)))))))))))))
       refine TC.condB rfl (fun hb8 => ?_) (fun hb8 => ?_)
       ·
        have h := condT hb8 h
        refine TC.skip (TX.blockNormal ?_)
        exact TX.meetD from3 h rfl (Sbs.cons rfl (Sbs.cons rfl (Sbs.cons rfl (Sbs.cons rfl (Sbs.nil))))) (Splits.of [0, 1, 2] kr rfl)
       ·
        have h := condF hb8 h
        refine TC.seq (TC.region (TO.move rfl dc rfl (TO.move rfl dc rfl ?_)))
        refine TO.split (s := 37) rfl (fun hb9 => ?_) (fun hb9 => ?_)
        ·
         have h := condT hb9 h
         refine TO.move rfl dc rfl (TO.move rfl dc rfl (TO.bin rfl dc rfl rfl bin_eql (TO.pick (b := true) rfl dc rfl rfl (TO.assign rfl dc rfl (TO.nil (TX.next ?_))))))
         refine TC.condB rfl (fun hb10 => ?_) (fun hb10 => ?_)
         ·
          have h := condT hb10 h
          refine TC.region (TO.move rfl dc rfl (TO.move rfl dc rfl (TO.conv rfl dc rfl (conv_rune Try.underlying21 Try.underlying9) (TO.lenStr rfl dc rfl Try.underlying9 ?_))))
          obtain ⟨hg4, h⟩ := grdE h
          refine TO.bin rfl dc rfl rfl (bin_add (r := (p1.i : Int) + ((Utf8.encode (p1.r : Int)).size : Int)) (IntWalk.i64_in _ hg4)) (TO.assign rfl dc rfl (TO.nil (TX.blockNormal ?_)))
          exact TX.meetD ((p1.i : Int) + ((Utf8.encode (p1.r : Int)).size : Int)) h rfl (Sbs.cons rfl (Sbs.cons rfl (Sbs.cons rfl (Sbs.cons rfl (Sbs.nil))))) (Splits.of [0, 1, 2] kr rfl)
         ·
          have h := condF hb10 h
          refine TC.skip (TX.blockNormal ?_)
          exact TX.meetD from3 h rfl (Sbs.cons rfl (Sbs.cons rfl (Sbs.cons rfl (Sbs.cons rfl (Sbs.nil))))) (Splits.of [0, 1, 2] kr rfl)
        ·
         have h := condF hb9 h
         refine TO.skip rfl dc (TO.skip rfl dc (TO.skip rfl dc (TO.pick (b := false) rfl dc rfl rfl (TO.assign rfl dc rfl (TO.nil (TX.next (TC.condF rfl (TC.skip (TX.blockNormal ?_)))))))))
         exact TX.meetD from3 h rfl (Sbs.cons rfl (Sbs.cons rfl (Sbs.cons rfl (Sbs.cons rfl (Sbs.nil))))) (Splits.of [0, 1, 2] kr rfl)
     ·
      rintro from4 h
      rw [hj2] at h
      show TC _ _ _ _ _ ([]) _ _ [(3, .int .i32 (lower u1.base)), (4, .int .i64 from4), (7, .int .i32 (p1.r : Int)), (17, .pointer (some ⟨b2, 0, none⟩))] [vec (encI (.i32)) 21 1 u1_h0.v u1.low, vec (encI (.i32)) 21 1 u1_h1.v u1.high, obj b2 (.stringIter str_f9f7e721 (posAt str_f9f7e721 (m3 + 1)))]
      refine TC.region (TO.move rfl dc rfl (TO.bin rfl dc rfl rfl bin_eql (TO.assign rfl dc rfl (TO.nil (TX.blockNormal ?_)))))
      subst hag1
      exact TX.againD (n1, from4, ((p1.r : Int) : Int) == 32, m3 + 1) h (Nat.lt_succ_self _) rfl (Sbs.cons rfl (Sbs.cons rfl (Sbs.cons rfl (Sbs.cons rfl (Sbs.nil))))) (Splits.of [0, 1, 2] kr rfl)
    ·
     have h := condF hb2 h
     refine TO.nextEnd (k := 2) (m := m3) rfl dc rfl rfl (Nat.le_of_not_lt (of_decide_eq_false hb2)) (TO.extract rfl dc rfl rfl (TO.nil (TX.next (TC.seq (TC.condF rfl (TC.exit (TX.thenExit (TX.thenExit (TX.blockHere ?_)))))))))
     exact TX.meetD () h rfl (Sbs.cons rfl (Sbs.nil)) (Splits.of [0, 1] kr rfl)
  ·
   rintro _ h
   rw [hj1] at h
   show TC _ _ _ _ _ ([]) _ _ [(3, .int .i32 (lower u1.base))] [vec (encI (.i32)) 21 1 u1_h0.v u1.low, vec (encI (.i32)) 21 1 u1_h1.v u1.high]
   refine TC.seq (TC.region (TO.move rfl dc rfl (TO.conv rfl dc rfl (conv_rune Try.underlying21 Try.underlying9) (TO.assign rfl dc rfl (TO.nil (TX.next (TC.ret ?_)))))))
   cases h
   exact TX.fin (rs := [.tmp 2]) () (.inl rfl) Try.results26 (.cons (.tmp rfl) .nil) rfl (Splits.of [0, 1] kr rfl)
end Go.Proofs.Ytlamcpgnmeileaa
namespace Go.Proofs.Ytlamcpgnmeileaa
open Go.RowKit Go.Lib
set_option linter.unusedVariables false
set_option linter.unusedSimpArgs false
def str_37a80f8f : ByteArray := ⟨(List.toArray (List.append (List.append (List.append (List.append [204, 128, 65, 195, 128, 69, 195, 136, 73, 195, 140, 79, 195, 146, 85, 195, 153, 97, 195, 160, 101, 195, 168, 105, 195, 172, 111, 195, 178, 117, 195, 185, 208, 149, 208, 128, 208, 152, 208, 141] [208, 181, 209, 144, 208, 184, 209, 157, 204, 129, 65, 195, 129, 69, 195, 137, 73, 195, 141, 79, 195, 147, 85, 195, 154, 89, 195, 157, 97, 195, 161, 101, 195, 169, 105, 195, 173, 111, 195, 179, 117]) (List.append [195, 186, 121, 195, 189, 67, 196, 134, 76, 196, 185, 78, 197, 131, 82, 197, 148, 83, 197, 154, 90, 197, 185, 99, 196, 135, 108, 196, 186, 110, 197, 132, 114, 197, 149, 115, 197, 155, 122, 197, 186] [206, 145, 206, 134, 206, 149, 206, 136, 206, 151, 206, 137, 206, 153, 206, 138, 206, 159, 206, 140, 206, 165, 206, 142, 206, 169, 206, 143, 206, 177, 206, 172, 206, 181, 206, 173, 206, 183, 206, 174, 206])) (List.append (List.append [185, 206, 175, 206, 191, 207, 140, 207, 133, 207, 141, 207, 137, 207, 142, 208, 147, 208, 131, 208, 154, 208, 140, 208, 179, 209, 147, 208, 186, 209, 156, 207, 138, 206, 144, 207, 139, 206, 176, 204] [130, 65, 195, 130, 69, 195, 138, 73, 195, 142, 79, 195, 148, 85, 195, 155, 97, 195, 162, 101, 195, 170, 105, 195, 174, 111, 195, 180, 117, 195, 187, 67, 196, 136, 71, 196, 156, 72, 196, 164, 74]) (List.append [196, 180, 83, 197, 156, 87, 197, 180, 89, 197, 182, 99, 196, 137, 103, 196, 157, 104, 196, 165, 106, 196, 181, 115, 197, 157, 119, 197, 181, 121, 197, 183, 204, 131, 65, 195, 131, 78, 195, 145, 79] [195, 149, 97, 195, 163, 110, 195, 177, 111, 195, 181, 73, 196, 168, 85, 197, 168, 105, 196, 169, 117, 197, 169, 204, 132, 65, 196, 128, 69, 196, 146, 73, 196, 170, 79, 197, 140, 85, 197, 170, 97]))) (List.append (List.append (List.append [196, 129, 101, 196, 147, 105, 196, 171, 111, 197, 141, 117, 197, 171, 204, 134, 65, 196, 130, 69, 196, 148, 71, 196, 158, 73, 196, 172, 79, 197, 142, 85, 197, 172, 97, 196, 131, 101, 196, 149] [103, 196, 159, 105, 196, 173, 111, 197, 143, 117, 197, 173, 208, 152, 208, 153, 208, 163, 208, 142, 208, 184, 208, 185, 209, 131, 209, 158, 204, 135, 67, 196, 138, 69, 196, 150, 71, 196, 160, 73, 196]) (List.append [176, 90, 197, 187, 99, 196, 139, 101, 196, 151, 103, 196, 161, 122, 197, 188, 204, 136, 65, 195, 132, 69, 195, 139, 73, 195, 143, 79, 195, 150, 85, 195, 156, 97, 195, 164, 101, 195, 171, 105, 195] [175, 111, 195, 182, 117, 195, 188, 121, 195, 191, 89, 197, 184, 208, 149, 208, 129, 208, 134, 208, 135, 208, 181, 209, 145, 209, 150, 209, 151, 206, 153, 206, 170, 206, 165, 206, 171, 206, 185, 207, 138])) (List.append (List.append [207, 133, 207, 139, 204, 138, 65, 195, 133, 85, 197, 174, 97, 195, 165, 117, 197, 175, 204, 139, 79, 197, 144, 85, 197, 176, 111, 197, 145, 117, 197, 177, 204, 140, 67, 196, 140, 68, 196, 142, 69] [196, 154, 76, 196, 189, 78, 197, 135, 82, 197, 152, 83, 197, 160, 84, 197, 164, 90, 197, 189, 99, 196, 141, 100, 196, 143, 101, 196, 155, 108, 196, 190, 110, 197, 136, 114, 197, 153, 115, 197, 161]) (List.append [116, 197, 165, 122, 197, 190, 204, 167, 67, 195, 135, 71, 196, 162, 75, 196, 182, 76, 196, 187, 78, 197, 133, 82, 197, 150, 83, 197, 158, 84, 197, 162, 99, 195, 167, 103, 196, 163, 107, 196, 183] [108, 196, 188, 110, 197, 134, 114, 197, 151, 115, 197, 159, 116, 197, 163, 204, 168, 65, 196, 132, 69, 196, 152, 73, 196, 174, 85, 197, 178, 97, 196, 133, 101, 196, 153, 105, 196, 175, 117, 197, 179])))))⟩
def fold_pairs_s1 (ag1 : Int → Int → Bool → Nat → Option (List (Gfold_pair × Int))) (p7 : Int) (p8 : Int) (base4 : Bool) (m4 : Nat) : Option (List (Gfold_pair × Int)) := bcond (decide (m4 < (pcs str_37a80f8f.data.toList).length)) ( andThen ((pcs str_37a80f8f.data.toList)[m4]?) fun (p9 : Pc) => joinK (fun (j1 : Int → Option (List (Gfold_pair × Int))) => grd (I32 (p9.r : Int)) <| bcond (((kind (p9.r : Int)) : Int) == 2) ( ag1 p7 (p9.r : Int) true (m4 + 1)
) ( bcond (base4) ( j1 (p9.r : Int)
) ( consO ((⟨p7, p8⟩ : Gfold_pair), (p9.r : Int)) <| j1 p7
)
)
) (fun (p10 : Int) => ag1 p10 p8 (!base4) (m4 + 1)
)
) ( some []
)
def fold_pairs_v  : Option (List (Gfold_pair × Int)) := loopG (fun _ _ _ _ => none) (fold_pairs_s1) fuel 0 0 true 0
set_option maxRecDepth 100000 in
set_option maxHeartbeats 4000000 in
theorem fold_pairs_itr  {xs : (List (Gfold_pair × Int))} (h : fold_pairs_v = some xs) : Itr Try.prog 66 [] (fun q : Gfold_pair × Int => [.agg #[.int .i32 q.1.e0, .int .i32 q.1.e1], .int .i32 q.2]) xs [] := by
 unfold fold_pairs_v at h
 refine Itr.intro Try.func66 rfl Try.ntmps66 (by simp) ?_
 intro l w0 K I X hRo hy
 obtain ⟨r0, hx0⟩ : ∃ r, xs = [] ++ r := ⟨xs, rfl⟩
 have hr0 : xs = r0 := hx0
 rw [hr0] at h
 refine TC.seq (TC.region ?_)
 refine TO.alloc zr_73 rfl dc (fun b1 => ?_)
 refine TO.nil (TX.next (TC.seq (TC.region (TO.assign rfl dc rfl (TO.nil (TX.next (TC.seq (TC.region ?_))))))))
 refine TO.rangeStr Try.underlying9 rfl dc rfl (fun b2 => ?_)
 show TO _ _ _ _ _ _ _ _ _ _ [I [], cells b1 [.int .i32 0, .int .i32 0] 73, obj b2 (.stringIter str_37a80f8f (posAt str_37a80f8f 0))]
 refine TO.nil (TX.next (TC.block ?_))
 refine TC.loopD (β := Nat × Int × Int × Bool × Nat × (List (Gfold_pair × Int)) × (List (Gfold_pair × Int))) (fun b => loopG (fun _ _ _ _ => none) (fold_pairs_s1) b.1 b.2.1 b.2.2.1 b.2.2.2.1 b.2.2.2.2.1 = some b.2.2.2.2.2.2 ∧ xs = b.2.2.2.2.2.1 ++ b.2.2.2.2.2.2) (fun b => []) (fun b => [(0, .func (.yield l) #[] #[]), (2, .pointer (some ⟨b1, 0, none⟩)), (3, .bool b.2.2.2.1), (6, .pointer (some ⟨b2, 0, none⟩))]) (fun b => [I b.2.2.2.2.2.1, cells b1 [.int .i32 b.2.1, .int .i32 b.2.2.1] 73, obj b2 (.stringIter str_37a80f8f (posAt str_37a80f8f b.2.2.2.2.1))]) (fun b => b.1) (fuel, 0, 0, true, 0, ([] : List (Gfold_pair × Int)), r0) ⟨h, hx0⟩ rfl (Sbs.cons rfl (Sbs.cons rfl (Sbs.cons rfl (Sbs.cons rfl (Sbs.nil))))) (Splits.of [0, 1, 2] kr rfl) ?_
 rintro ⟨n1, p7, p8, base4, m4, acc3, rr3⟩ ⟨h, hx3⟩
 cases n1 with
 | zero => exact noneE h
 | succ n1 =>
  obtain ⟨ag1, hag1⟩ : ∃ ag, ag = loopG (fun _ _ _ _ => none) (fold_pairs_s1) n1 := ⟨_, rfl⟩
  have h : fold_pairs_s1 ag1 p7 p8 base4 m4 = some rr3 := by rw [hag1]; exact h
  unfold fold_pairs_s1 at h
  show TC _ _ _ _ _ ([]) _ _ [(0, .func (.yield l) #[] #[]), (2, .pointer (some ⟨b1, 0, none⟩)), (3, .bool base4), (6, .pointer (some ⟨b2, 0, none⟩))] [I acc3, cells b1 [.int .i32 p7, .int .i32 p8] 73, obj b2 (.stringIter str_37a80f8f (posAt str_37a80f8f m4))]
  refine TC.seq (TC.region ?_)
  refine TO.bySplit (b := decide (m4 < (pcs str_37a80f8f.data.toList).length)) (fun hb1 => ?_) (fun hb1 => ?_)
  ·
   have h := condT hb1 h
   obtain ⟨p9, hq1, h⟩ := andE h
   refine TO.nextStr (k := 2) (m := m4) (p := p9) rfl dc rfl rfl hq1 (TO.extract rfl dc rfl rfl (TO.nil (TX.next (TC.seq (TC.condT rfl (TC.skip (TX.next (TC.block ?_))))))))
   obtain ⟨j1, hj1, h⟩ := joinE h
   refine TC.cutN (β := Int × (List (Gfold_pair × Int)) × (List (Gfold_pair × Int))) 1 rfl (fun b => j1 b.1 = some b.2.2 ∧ xs = b.2.1 ++ b.2.2) (fun b => []) (fun b => [(0, .func (.yield l) #[] #[]), (2, .pointer (some ⟨b1, 0, none⟩)), (3, .bool base4), (6, .pointer (some ⟨b2, 0, none⟩))]) (fun b => [I b.2.1, cells b1 [.int .i32 b.1, .int .i32 p8] 73, obj b2 (.stringIter str_37a80f8f (posAt str_37a80f8f (m4 + 1)))]) (fun cut => ?_) ?_
   ·
    refine TC.seq (TC.region (TO.extract rfl dc rfl rfl (TO.assign rfl dc rfl (TO.nil (TX.next (cut (TC.block (TC.seq (TC.region (TO.move rfl dc rfl ?_))))))))))
    obtain ⟨hg1, h⟩ := grdE h
    refine TO.callP (v := .int .i64 (kind (p9.r : Int))) (vs := [.int .i32 (p9.r : Int)]) rfl dc rfl rfl rfl en_16 (FnP.of_same fun w => kind_any (p9.r : Int) w hg1.1 hg1.2) ?_
    refine TO.bin rfl dc rfl rfl bin_eql (TO.assign rfl dc rfl (TO.nil (TX.next ?_)))
    refine TC.condB rfl (fun hb2 => ?_) (fun hb2 => ?_)
    ·
     have h := condT hb2 h
     refine TC.seq (TC.region (TO.move rfl dc rfl (TO.indexArr dc Try.underlying73 sz_21 rfl dc rfl rfl (show _ = 1 from rfl) ?_)))
     refine TO.store (k := 1) (l' := [.int .i32 p7, .int .i32 (p9.r : Int)]) sz_21 rfl rfl rfl rfl rfl (fun _ _ => rfl) rfl ?_
     show TO _ _ _ _ _ _ _ _ _ _ [I acc3, cells b1 [.int .i32 p7, .int .i32 (p9.r : Int)] 73, obj b2 (.stringIter str_37a80f8f (posAt str_37a80f8f (m4 + 1)))]
     refine TO.assign rfl dc rfl (TO.nil (TX.next (TC.exit (TX.blockOn dc (TX.thenExit (TX.blockHere ?_))))))
     subst hag1
     exact TX.againD (n1, p7, (p9.r : Int), true, m4 + 1, acc3, rr3) ⟨h, hx3⟩ (Nat.lt_succ_self _) rfl (Sbs.cons rfl (Sbs.cons rfl (Sbs.cons rfl (Sbs.cons rfl (Sbs.nil))))) (Splits.of [0, 1, 2] kr rfl)
    ·
     have h := condF hb2 h
     refine TC.seq (TC.region (TO.move rfl dc rfl (TO.assign rfl dc rfl (TO.nil (TX.next ?_)))))
     refine TC.condB rfl (fun hb3 => ?_) (fun hb3 => ?_)
     ·
      have h := condT hb3 h
      refine TC.region (TO.move rfl dc rfl (TO.indexArr dc Try.underlying73 sz_21 rfl dc rfl rfl (show _ = 0 from rfl) ?_))
      refine TO.store (k := 1) (l' := [.int .i32 (p9.r : Int), .int .i32 p8]) sz_21 rfl rfl rfl rfl rfl (fun _ _ => rfl) rfl ?_
      show TO _ _ _ _ _ _ _ _ _ _ [I acc3, cells b1 [.int .i32 (p9.r : Int), .int .i32 p8] 73, obj b2 (.stringIter str_37a80f8f (posAt str_37a80f8f (m4 + 1)))]
      refine TO.nil (TX.blockNormal ?_)
      exact TX.meetD ((p9.r : Int), acc3, rr3) ⟨h, hx3⟩ rfl (Sbs.cons rfl (Sbs.cons rfl (Sbs.cons rfl (Sbs.cons rfl (Sbs.nil))))) (Splits.of [0, 1, 2] kr rfl)
     ·
      have h := condF hb3 h
      refine TC.seq (TC.region (TO.move rfl dc rfl (TO.loads (k := 1) (cs := [.int .i32 p7, .int .i32 p8]) rw_73 rfl dc rfl rfl rfl rfl (TO.move rfl dc rfl ?_))))
      obtain ⟨rr5, hr1, h⟩ := consE h
      have hx5 : xs = acc3 ++ ((⟨p7, p8⟩ : Gfold_pair), (p9.r : Int)) :: rr5 := by rw [hx3, hr1]
      refine TO.yield hy rfl dc rfl hx5 rfl (k := 0) rfl ?_ ?_
      ·
       have hx6 : xs = (acc3 ++ [((⟨p7, p8⟩ : Gfold_pair), (p9.r : Int))]) ++ rr5 := by rw [hx5]; simp
       show TO _ _ _ _ _ _ _ _ _ _ [I (acc3 ++ [((⟨p7, p8⟩ : Gfold_pair), (p9.r : Int))]), cells b1 [.int .i32 p7, .int .i32 p8] 73, obj b2 (.stringIter str_37a80f8f (posAt str_37a80f8f (m4 + 1)))]
       refine TO.un rfl dc rfl un_not (TO.assign rfl dc rfl (TO.nil (TX.next (TC.condF rfl (TC.skip (TX.blockNormal ?_))))))
       exact TX.meetD (p7, acc3 ++ [((⟨p7, p8⟩ : Gfold_pair), (p9.r : Int))], rr5) ⟨h, hx6⟩ rfl (Sbs.cons rfl (Sbs.cons rfl (Sbs.cons rfl (Sbs.cons rfl (Sbs.nil))))) (Splits.of [0, 1, 2] kr rfl)
      ·
       show TO _ _ _ _ _ _ _ _ _ _ [X (acc3 ++ [((⟨p7, p8⟩ : Gfold_pair), (p9.r : Int))]), cells b1 [.int .i32 p7, .int .i32 p8] 73, obj b2 (.stringIter str_37a80f8f (posAt str_37a80f8f (m4 + 1)))]
       refine TO.un rfl dc rfl un_not (TO.assign rfl dc rfl (TO.nil (TX.next (TC.condT rfl (TC.ret (TX.blockRet (TX.thenRet (TX.blockRet (TX.thenRet (TX.blockRet ?_))))))))))
       exact TX.finX (ds := []) acc3 ((⟨p7, p8⟩ : Gfold_pair), (p9.r : Int)) rr5 hx5 (.inl rfl) Splits.nil Try.results66 (Splits.of [0] kr rfl)
   ·
    rintro ⟨p10, acc4, rr4⟩ ⟨h, hx4⟩
    rw [hj1] at h
    show TC _ _ _ _ _ ([]) _ _ [(0, .func (.yield l) #[] #[]), (2, .pointer (some ⟨b1, 0, none⟩)), (3, .bool base4), (6, .pointer (some ⟨b2, 0, none⟩))] [I acc4, cells b1 [.int .i32 p10, .int .i32 p8] 73, obj b2 (.stringIter str_37a80f8f (posAt str_37a80f8f (m4 + 1)))]
    refine TC.region (TO.move rfl dc rfl (TO.un rfl dc rfl un_not (TO.assign rfl dc rfl (TO.nil (TX.blockNormal ?_)))))
    subst hag1
    exact TX.againD (n1, p10, p8, !base4, m4 + 1, acc4, rr4) ⟨h, hx4⟩ (Nat.lt_succ_self _) rfl (Sbs.cons rfl (Sbs.cons rfl (Sbs.cons rfl (Sbs.cons rfl (Sbs.nil))))) (Splits.of [0, 1, 2] kr rfl)
  ·
   have h := condF hb1 h
   refine TO.nextEnd (k := 2) (m := m4) rfl dc rfl rfl (Nat.le_of_not_lt (of_decide_eq_false hb1)) (TO.extract rfl dc rfl rfl (TO.nil (TX.next (TC.seq (TC.condF rfl (TC.exit (TX.thenExit (TX.thenExit (TX.blockHere ?_)))))))))
   cases h
   exact TX.finY (ds := []) (.inr rfl) Splits.nil Try.results66 (congrArg I (hx3.trans (List.append_nil _))) (Splits.of [0] kr rfl)
end Go.Proofs.Ytlamcpgnmeileaa
namespace Go.Proofs.Ytlamcpgnmeileaa
open Go.RowKit Go.Lib
set_option linter.unusedVariables false
set_option linter.unusedSimpArgs false
def fold_tables_s1 (x1 : Gfold_pair × Int) (ag1 : (List (Gfold_pair × Int)) → (List (Int × Gfold_pair)) → Option ((List (Gfold_pair × Int)) × (List (Int × Gfold_pair)))) (join4 : List (Gfold_pair × Int)) (split4 : List (Int × Gfold_pair)) : Option ((List (Gfold_pair × Int)) × (List (Int × Gfold_pair))) := ag1 (putM x1.1 x1.2 join4) (putM x1.2 x1.1 split4)
def fold_tables_v  : Option ((List (Gfold_pair × Int)) × (List (Int × Gfold_pair))) := joinK (fun (j1 : (List (Gfold_pair × Int)) → (List (Int × Gfold_pair)) → Option ((List (Gfold_pair × Int)) × (List (Int × Gfold_pair)))) => andThen (fold_pairs_v) fun (its1 : (List (Gfold_pair × Int))) => joinK (fun (d1 : (List (Gfold_pair × Int)) → (List (Int × Gfold_pair)) → Option ((List (Gfold_pair × Int)) × (List (Int × Gfold_pair)))) => rangeG d1 (fold_tables_s1) its1 ([] : List (Gfold_pair × Int)) ([] : List (Int × Gfold_pair))
) (fun (join4 : List (Gfold_pair × Int)) (split4 : List (Int × Gfold_pair)) => j1 join4 split4
)
) (fun (join1 : List (Gfold_pair × Int)) (split1 : List (Int × Gfold_pair)) => some (join1, split1)
)
set_option maxRecDepth 100000 in
set_option maxHeartbeats 4000000 in
theorem fold_tables_fn  {r : ((List (Gfold_pair × Int)) × (List (Int × Gfold_pair)))} (h : fold_tables_v = some r) : Fn Try.prog 40 [] [] (fun b : Nat × Nat => .tuple #[.map (some b.1), .map (some b.2)]) (fun b => [mapA (fun p : Gfold_pair => Value.agg #[.int .i32 p.e0, .int .i32 p.e1]) (fun n : Int => Value.int .i32 n) b.1 r.1, mapA (fun n : Int => Value.int .i32 n) (fun p : Gfold_pair => Value.agg #[.int .i32 p.e0, .int .i32 p.e1]) b.2 r.2]) := by
 unfold fold_tables_v at h
 refine Fn.intro Try.func40 rfl Try.ntmps40 (by simp) ?_
 intro w0 K
 refine TC.star0 ?_
 show TC _ _ _ _ _ _ _ _ _ [star ((([] : List Nat) : List Nat).map mark)]
 obtain ⟨j1, hj1, h⟩ := joinE h
 refine TC.cutN (β := (List (Gfold_pair × Int)) × (List (Int × Gfold_pair)) × Nat × Nat × Nat × Nat × (List Nat)) 2 rfl (fun b => j1 b.1 b.2.1 = some r) (fun b => marksOf b.2.2.2.2.2.2) (fun b => [(2, .pointer (some ⟨b.2.2.1, 0, none⟩)), (3, .pointer (some ⟨b.2.2.2.2.1, 0, none⟩))]) (fun b => [cells b.2.2.1 [.map (some b.2.2.2.1)] 66, mapA (fun p : Gfold_pair => Value.agg #[.int .i32 p.e0, .int .i32 p.e1]) (fun n : Int => Value.int .i32 n) b.2.2.2.1 b.1, cells b.2.2.2.2.1 [.map (some b.2.2.2.2.2.1)] 67, mapA (fun n : Int => Value.int .i32 n) (fun p : Gfold_pair => Value.agg #[.int .i32 p.e0, .int .i32 p.e1]) b.2.2.2.2.2.1 b.2.1, star ((b.2.2.2.2.2.2 : List Nat).map mark)]) (fun cut => ?_) ?_
 ·
  refine TC.seq (TC.region (TO.assign rfl dc rfl (TO.assign rfl dc rfl (TO.nil (TX.next (TC.seq (TC.region ?_)))))))
  refine TO.makeMap (fun p : Gfold_pair => Value.agg #[.int .i32 p.e0, .int .i32 p.e1]) (fun n : Int => Value.int .i32 n) rfl dc (fun b5 => ?_)
  refine TO.makeMap (fun n : Int => Value.int .i32 n) (fun p : Gfold_pair => Value.agg #[.int .i32 p.e0, .int .i32 p.e1]) rfl dc (fun b6 => ?_)
  show TO _ _ _ _ _ _ _ _ _ _ [star ((([] : List Nat) : List Nat).map mark), mapA (fun p : Gfold_pair => Value.agg #[.int .i32 p.e0, .int .i32 p.e1]) (fun n : Int => Value.int .i32 n) b5 ([] : List (Gfold_pair × Int)), mapA (fun n : Int => Value.int .i32 n) (fun p : Gfold_pair => Value.agg #[.int .i32 p.e0, .int .i32 p.e1]) b6 ([] : List (Int × Gfold_pair))]
  refine TO.alloc zr_66 rfl dc (fun b7 => ?_)
  refine TO.alloc zr_67 rfl dc (fun b8 => ?_)
  show TO _ _ _ _ _ _ _ _ _ _ [star ((([] : List Nat) : List Nat).map mark), mapA (fun p : Gfold_pair => Value.agg #[.int .i32 p.e0, .int .i32 p.e1]) (fun n : Int => Value.int .i32 n) b5 ([] : List (Gfold_pair × Int)), mapA (fun n : Int => Value.int .i32 n) (fun p : Gfold_pair => Value.agg #[.int .i32 p.e0, .int .i32 p.e1]) b6 ([] : List (Int × Gfold_pair)), cells b7 [.map none] 66, cells b8 [.map none] 67]
  refine TO.store (k := 3) (l' := [.map (some b5)]) sz_66 rfl rfl rfl rfl rfl (fun _ _ => rfl) rfl ?_
  refine TO.store (k := 4) (l' := [.map (some b6)]) sz_67 rfl rfl rfl rfl rfl (fun _ _ => rfl) rfl ?_
  show TO _ _ _ _ _ _ _ _ _ _ [star ((([] : List Nat) : List Nat).map mark), mapA (fun p : Gfold_pair => Value.agg #[.int .i32 p.e0, .int .i32 p.e1]) (fun n : Int => Value.int .i32 n) b5 ([] : List (Gfold_pair × Int)), mapA (fun n : Int => Value.int .i32 n) (fun p : Gfold_pair => Value.agg #[.int .i32 p.e0, .int .i32 p.e1]) b6 ([] : List (Int × Gfold_pair)), cells b7 [.map (some b5)] 66, cells b8 [.map (some b6)] 67]
  refine TO.nil (TX.next (cut (TC.block ?_)))
  obtain ⟨its1, hq1, h⟩ := andE h
  obtain ⟨d1, hd1, h⟩ := joinE h
  refine TC.range (α := Gfold_pair × Int) (β := (List (Gfold_pair × Int)) × (List (Int × Gfold_pair))) (γ := Unit) (δ := Nat) (ps := [8, 9]) Ro.nil rfl en_66 (fold_pairs_itr hq1) (fun pre b => ∀ post, its1 = pre ++ post → rangeG d1 (fold_tables_s1) post b.1 b.2 = some r) (fun pre b => [cells b7 [.map (some b5)] 66, mapA (fun p : Gfold_pair => Value.agg #[.int .i32 p.e0, .int .i32 p.e1]) (fun n : Int => Value.int .i32 n) b5 b.1, cells b8 [.map (some b6)] 67, mapA (fun n : Int => Value.int .i32 n) (fun p : Gfold_pair => Value.agg #[.int .i32 p.e0, .int .i32 p.e1]) b6 b.2]) (fun c pre g => False) (fun c pre g => []) (fun pre x b j => [(0, .map none), (1, .map none), (2, .pointer (some ⟨b7, 0, none⟩)), (3, .pointer (some ⟨b8, 0, none⟩)), (4, .pointer (some ⟨j, 0, none⟩)), (5, .int .i32 x.2)]) (fun pre x b j => [cells b7 [.map (some b5)] 66, mapA (fun p : Gfold_pair => Value.agg #[.int .i32 p.e0, .int .i32 p.e1]) (fun n : Int => Value.int .i32 n) b5 b.1, cells b8 [.map (some b6)] 67, mapA (fun n : Int => Value.int .i32 n) (fun p : Gfold_pair => Value.agg #[.int .i32 p.e0, .int .i32 p.e1]) b6 b.2, cells j [.int .i32 x.1.e0, .int .i32 x.1.e1] 73]) (([] : List (Gfold_pair × Int)), ([] : List (Int × Gfold_pair))) (fun post e => by rw [List.nil_append] at e; subst e; exact h) (Splits.of [3, 1, 4, 2] kr rfl) trivial (fun _ => rfl) dc ?_ ?_ ?_ ?_
  ·
   rintro lp rc pre x1 post ⟨join4, split4⟩ w1 K1 hxs1 hext hro hinv
   refine TC.seq (TC.region ?_)
   refine TO.alloc zr_73 rfl dc (fun b9 => ?_)
   refine TO.stores (k := 4) (vs := [.int .i32 x1.1.e0, .int .i32 x1.1.e1]) (l' := [.int .i32 x1.1.e0, .int .i32 x1.1.e1]) sz_73 rfl rfl rfl rfl rfl (show _ ≤ _ by simp) rfl rfl ?_
   show TO _ _ _ _ _ _ _ _ _ _ [cells b7 [.map (some b5)] 66, mapA (fun p : Gfold_pair => Value.agg #[.int .i32 p.e0, .int .i32 p.e1]) (fun n : Int => Value.int .i32 n) b5 join4, cells b8 [.map (some b6)] 67, mapA (fun n : Int => Value.int .i32 n) (fun p : Gfold_pair => Value.agg #[.int .i32 p.e0, .int .i32 p.e1]) b6 split4, cells b9 [.int .i32 x1.1.e0, .int .i32 x1.1.e1] 73]
   refine TO.nil (TX.next (TC.region (TO.assign rfl dc rfl (TO.nil ?_))))
   exact fun a w ha hw => ⟨b9, (Sbs.cons rfl (Sbs.cons rfl (Sbs.cons rfl (Sbs.cons rfl (Sbs.cons rfl (Sbs.cons rfl (Sbs.nil))))))) _ _ _ ha, hw.weaken (Splits.of [0, 1, 2, 3, 4] kr rfl)⟩
  ·
   rintro lp rc pre x1 post1 ⟨join4, split4⟩ jb1 w1 K1 hxs1 hext hro hinv
   have h := hinv (x1 :: post1) hxs1
   obtain ⟨ag1, hag1⟩ : ∃ ag, ag = rangeG d1 (fold_tables_s1) post1 := ⟨_, rfl⟩
   have h : fold_tables_s1 x1 ag1 join4 split4 = some r := by rw [hag1]; exact h
   unfold fold_tables_s1 at h
   show TC _ _ _ _ _ _ _ _ [(0, .map none), (1, .map none), (2, .pointer (some ⟨b7, 0, none⟩)), (3, .pointer (some ⟨b8, 0, none⟩)), (4, .pointer (some ⟨jb1, 0, none⟩)), (5, .int .i32 x1.2)] [cells b7 [.map (some b5)] 66, mapA (fun p : Gfold_pair => Value.agg #[.int .i32 p.e0, .int .i32 p.e1]) (fun n : Int => Value.int .i32 n) b5 join4, cells b8 [.map (some b6)] 67, mapA (fun n : Int => Value.int .i32 n) (fun p : Gfold_pair => Value.agg #[.int .i32 p.e0, .int .i32 p.e1]) b6 split4, cells jb1 [.int .i32 x1.1.e0, .int .i32 x1.1.e1] 73]
   refine TC.block ?_
   refine TC.drawB (β := Unit) 7 6 _ [(0, 10, .map (some b5)), (1, 11, .agg #[.int .i32 x1.1.e0, .int .i32 x1.1.e1]), (2, 12, .map (some b6)), (3, 13, .int .i32 x1.2), (4, 14, .int .i32 x1.2), (5, 15, .agg #[.int .i32 x1.1.e0, .int .i32 x1.1.e1])] (fun _b => []) (fun _b => [cells b7 [.map (some b5)] 66, mapA (fun p : Gfold_pair => Value.agg #[.int .i32 p.e0, .int .i32 p.e1]) (fun n : Int => Value.int .i32 n) b5 (putM x1.1 x1.2 join4), cells b8 [.map (some b6)] 67, mapA (fun n : Int => Value.int .i32 n) (fun p : Gfold_pair => Value.agg #[.int .i32 p.e0, .int .i32 p.e1]) b6 split4, cells jb1 [.int .i32 x1.1.e0, .int .i32 x1.1.e1] 73]) mixed kr kr rfl dc dc (by rfl) kr kr (DrawPreX.cons ?_ (DrawPreX.cons ?_ (DrawPreX.cons ?_ (DrawPreX.cons ?_ (DrawPreX.cons ?_ (DrawPreX.cons ?_ (DrawPreX.here DrawPreX.nil))))))) (fun _b => (DrawPreX.cons ?_ (DrawPreX.cons ?_ (DrawPreX.cons ?_ (DrawPreX.cons ?_ (DrawPreX.cons ?_ (DrawPreX.cons ?_ (DrawPreX.here DrawPreX.nil)))))))) ?_ ?_
   ·
    intro D hn hd hcl hu hi
    refine TO.load (k := 0) sc_66 rfl dc (dl_old (by rfl) rfl) rfl rfl ?_
    exact TX.quiet 0 hu hi rfl
   ·
    intro D hn hd hcl hu hi
    refine TO.loads (k := 4) (cs := [.int .i32 x1.1.e0, .int .i32 x1.1.e1]) rw_73 rfl dc (dl_old (by rfl) rfl) rfl rfl rfl ?_
    exact TX.quiet 1 hu hi rfl
   ·
    intro D hn hd hcl hu hi
    refine TO.load (k := 2) sc_67 rfl dc (dl_old (by rfl) rfl) rfl rfl ?_
    exact TX.quiet 2 hu hi rfl
   ·
    intro D hn hd hcl hu hi
    refine TO.move rfl dc (dl_old (by rfl) rfl) ?_
    exact TX.quiet 3 hu hi rfl
   ·
    intro D hn hd hcl hu hi
    refine TO.move rfl dc (dl_old (by rfl) rfl) ?_
    exact TX.quiet 4 hu hi rfl
   ·
    intro D hn hd hcl hu hi
    refine TO.loads (k := 4) (cs := [.int .i32 x1.1.e0, .int .i32 x1.1.e1]) rw_73 rfl dc (dl_old (by rfl) rfl) rfl rfl rfl ?_
    exact TX.quiet 5 hu hi rfl
   ·
    intro D hn hd hcl hu hi
    refine TO.load (k := 0) sc_66 rfl dc (dl_old (by rfl) rfl) rfl rfl ?_
    exact TX.quiet 0 hu hi rfl
   ·
    intro D hn hd hcl hu hi
    refine TO.loads (k := 4) (cs := [.int .i32 x1.1.e0, .int .i32 x1.1.e1]) rw_73 rfl dc (dl_old (by rfl) rfl) rfl rfl rfl ?_
    exact TX.quiet 1 hu hi rfl
   ·
    intro D hn hd hcl hu hi
    refine TO.load (k := 2) sc_67 rfl dc (dl_old (by rfl) rfl) rfl rfl ?_
    exact TX.quiet 2 hu hi rfl
   ·
    intro D hn hd hcl hu hi
    refine TO.move rfl dc (dl_old (by rfl) rfl) ?_
    exact TX.quiet 3 hu hi rfl
   ·
    intro D hn hd hcl hu hi
    refine TO.move rfl dc (dl_old (by rfl) rfl) ?_
    exact TX.quiet 4 hu hi rfl
   ·
    intro D hn hd hcl hu hi
    refine TO.loads (k := 4) (cs := [.int .i32 x1.1.e0, .int .i32 x1.1.e1]) rw_73 rfl dc (dl_old (by rfl) rfl) rfl rfl rfl ?_
    exact TX.quiet 5 hu hi rfl
   ·
    intro D hn hd hcl
    refine TO.mapUpdate (k := 1) (ek := (fun p : Gfold_pair => Value.agg #[.int .i32 p.e0, .int .i32 p.e1])) (ev' := (fun n : Int => Value.int .i32 n)) (kk := x1.1) (vv := x1.2) (KeyOk.arr2 (f0 := fun p : Gfold_pair => p.e0) (f1 := fun p : Gfold_pair => p.e1) (fun a b h1 h2 => by cases a; cases b; simp_all) Try.underlying73 Try.underlying21 sz_21) Try.underlying66 rfl (dl_lookup (m := 0) kr rfl (hd 0 dc)) (dl_lookup (m := 1) kr rfl (hd 1 dc)) (dl_lookup (m := 4) kr rfl (hd 4 dc)) rfl ?_
    exact fun a w ha hw => ⟨(), ha, hw⟩
   intro _b
   show TO _ _ _ _ _ _ _ _ _ _ [cells b7 [.map (some b5)] 66, mapA (fun p : Gfold_pair => Value.agg #[.int .i32 p.e0, .int .i32 p.e1]) (fun n : Int => Value.int .i32 n) b5 (putM x1.1 x1.2 join4), cells b8 [.map (some b6)] 67, mapA (fun n : Int => Value.int .i32 n) (fun p : Gfold_pair => Value.agg #[.int .i32 p.e0, .int .i32 p.e1]) b6 split4, cells jb1 [.int .i32 x1.1.e0, .int .i32 x1.1.e1] 73]
   refine TO.mapUpdate (k := 3) (ek := (fun n : Int => Value.int .i32 n)) (ev' := (fun p : Gfold_pair => Value.agg #[.int .i32 p.e0, .int .i32 p.e1])) (kk := x1.2) (vv := x1.1) (KeyOk.int Try.underlying21) Try.underlying67 rfl rfl rfl rfl rfl ?_
   refine TO.nil (TX.blockNormal ?_)
   exact TX.round (putM x1.1 x1.2 join4, putM x1.2 x1.1 split4) (fun post2 e2 => by have e9 := snoc_post hxs1 e2; subst e9; subst hag1; exact h) (Splits.of [0, 1, 2, 3] kr rfl)
  ·
   rintro dm1 ⟨join4, split4⟩ hinv
   have h : d1 join4 split4 = some r := hinv [] (List.append_nil _).symm
   rw [hd1] at h
   show TX _ _ _ _ _ _ _ [star ((([] : List Nat) : List Nat).map mark), emp, emp, emp, emp, cells b7 [.map (some b5)] 66, mapA (fun p : Gfold_pair => Value.agg #[.int .i32 p.e0, .int .i32 p.e1]) (fun n : Int => Value.int .i32 n) b5 join4, cells b8 [.map (some b6)] 67, mapA (fun n : Int => Value.int .i32 n) (fun p : Gfold_pair => Value.agg #[.int .i32 p.e0, .int .i32 p.e1]) b6 split4, mark dm1]
   refine TX.starCons (k := 9) (j := 0) rfl rfl dc ?_
   show TX _ _ _ _ _ _ _ [star ((dm1 :: ([] : List Nat) : List Nat).map mark), emp, emp, emp, emp, cells b7 [.map (some b5)] 66, mapA (fun p : Gfold_pair => Value.agg #[.int .i32 p.e0, .int .i32 p.e1]) (fun n : Int => Value.int .i32 n) b5 join4, cells b8 [.map (some b6)] 67, mapA (fun n : Int => Value.int .i32 n) (fun p : Gfold_pair => Value.agg #[.int .i32 p.e0, .int .i32 p.e1]) b6 split4, emp]
   refine TX.blockNormal ?_
   exact TX.meetD (join4, split4, b7, b5, b8, b6, dm1 :: ([] : List Nat)) h rfl (Sbs.cons rfl (Sbs.cons rfl (Sbs.nil))) (Splits.of [5, 6, 7, 8, 0] kr rfl)
  ·
   rintro dm1 c pre x1 post g hxs hX
   exact (show False from hX).elim
 ·
  rintro ⟨join1, split1, b1, b2, b3, b4, ds1⟩ h
  rw [hj1] at h
  show TC _ _ _ _ _ (marksOf ds1) _ _ [(2, .pointer (some ⟨b1, 0, none⟩)), (3, .pointer (some ⟨b3, 0, none⟩))] [cells b1 [.map (some b2)] 66, mapA (fun p : Gfold_pair => Value.agg #[.int .i32 p.e0, .int .i32 p.e1]) (fun n : Int => Value.int .i32 n) b2 join1, cells b3 [.map (some b4)] 67, mapA (fun n : Int => Value.int .i32 n) (fun p : Gfold_pair => Value.agg #[.int .i32 p.e0, .int .i32 p.e1]) b4 split1, star ((ds1 : List Nat).map mark)]
  refine TC.seq ?_
  refine TC.drawN 3 [(0, 16, .map (some b2)), (1, 17, .map (some b4)), (2, 0, .map (some b2))] mixed kr kr dc (by rfl) kr kr (DrawPre.cons ?_ (DrawPre.cons ?_ (DrawPre.cons ?_ DrawPre.nil))) ?_
  ·
   intro D hn hd hcl hu hi
   refine TO.load (k := 0) sc_66 rfl dc (dl_old (by rfl) rfl) rfl rfl ?_
   exact TX.quiet 0 hu hi rfl
  ·
   intro D hn hd hcl hu hi
   refine TO.load (k := 2) sc_67 rfl dc (dl_old (by rfl) rfl) rfl rfl ?_
   exact TX.quiet 1 hu hi rfl
  ·
   intro D hn hd hcl hu hi
   refine TO.assign rfl dc (dl_lookup (m := 0) hu rfl (hd 0 dc)) ?_
   exact TX.quiet 2 hu hi rfl
  refine TO.assign rfl dc rfl (TO.nil (TX.next (TC.ret ?_)))
  cases h
  exact TX.finM (rs := [.tmp 0, .tmp 1]) ds1 (b2, b4) (.inl rfl) (Splits.open0 (k := 4) rfl) Try.results40 (.cons (.tmp rfl) (.cons (.tmp rfl) .nil)) rfl (Splits.of [1, 3] kr rfl)
end Go.Proofs.Ytlamcpgnmeileaa
namespace Go.Proofs.Ytlamcpgnmeileaa
open Go.RowKit Go.Lib
set_option linter.unusedVariables false
set_option linter.unusedSimpArgs false
/-- base, mark, joined. -/
def tab : List (Int × Int × Int) := [(65, 768, 192), (69, 768, 200), (73, 768, 204), (79, 768, 210), (85, 768, 217), (97, 768, 224), (101, 768, 232), (105, 768, 236), (111, 768, 242), (117, 768, 249), (1045, 768, 1024), (1048, 768, 1037), (1077, 768, 1104), (1080, 768, 1117), (65, 769, 193), (69, 769, 201), (73, 769, 205), (79, 769, 211), (85, 769, 218), (89, 769, 221), (97, 769, 225), (101, 769, 233), (105, 769, 237), (111, 769, 243), (117, 769, 250), (121, 769, 253), (67, 769, 262), (76, 769, 313), (78, 769, 323), (82, 769, 340), (83, 769, 346), (90, 769, 377), (99, 769, 263), (108, 769, 314), (110, 769, 324), (114, 769, 341), (115, 769, 347), (122, 769, 378), (913, 769, 902), (917, 769, 904), (919, 769, 905), (921, 769, 906), (927, 769, 908), (933, 769, 910), (937, 769, 911), (945, 769, 940), (949, 769, 941), (951, 769, 942), (953, 769, 943), (959, 769, 972), (965, 769, 973), (969, 769, 974), (1043, 769, 1027), (1050, 769, 1036), (1075, 769, 1107), (1082, 769, 1116), (970, 769, 912), (971, 769, 944), (65, 770, 194), (69, 770, 202), (73, 770, 206), (79, 770, 212), (85, 770, 219), (97, 770, 226), (101, 770, 234), (105, 770, 238), (111, 770, 244), (117, 770, 251), (67, 770, 264), (71, 770, 284), (72, 770, 292), (74, 770, 308), (83, 770, 348), (87, 770, 372), (89, 770, 374), (99, 770, 265), (103, 770, 285), (104, 770, 293), (106, 770, 309), (115, 770, 349), (119, 770, 373), (121, 770, 375), (65, 771, 195), (78, 771, 209), (79, 771, 213), (97, 771, 227), (110, 771, 241), (111, 771, 245), (73, 771, 296), (85, 771, 360), (105, 771, 297), (117, 771, 361), (65, 772, 256), (69, 772, 274), (73, 772, 298), (79, 772, 332), (85, 772, 362), (97, 772, 257), (101, 772, 275), (105, 772, 299), (111, 772, 333), (117, 772, 363), (65, 774, 258), (69, 774, 276), (71, 774, 286), (73, 774, 300), (79, 774, 334), (85, 774, 364), (97, 774, 259), (101, 774, 277), (103, 774, 287), (105, 774, 301), (111, 774, 335), (117, 774, 365), (1048, 774, 1049), (1059, 774, 1038), (1080, 774, 1081), (1091, 774, 1118), (67, 775, 266), (69, 775, 278), (71, 775, 288), (73, 775, 304), (90, 775, 379), (99, 775, 267), (101, 775, 279), (103, 775, 289), (122, 775, 380), (65, 776, 196), (69, 776, 203), (73, 776, 207), (79, 776, 214), (85, 776, 220), (97, 776, 228), (101, 776, 235), (105, 776, 239), (111, 776, 246), (117, 776, 252), (121, 776, 255), (89, 776, 376), (1045, 776, 1025), (1030, 776, 1031), (1077, 776, 1105), (1110, 776, 1111), (921, 776, 938), (933, 776, 939), (953, 776, 970), (965, 776, 971), (65, 778, 197), (85, 778, 366), (97, 778, 229), (117, 778, 367), (79, 779, 336), (85, 779, 368), (111, 779, 337), (117, 779, 369), (67, 780, 268), (68, 780, 270), (69, 780, 282), (76, 780, 317), (78, 780, 327), (82, 780, 344), (83, 780, 352), (84, 780, 356), (90, 780, 381), (99, 780, 269), (100, 780, 271), (101, 780, 283), (108, 780, 318), (110, 780, 328), (114, 780, 345), (115, 780, 353), (116, 780, 357), (122, 780, 382), (67, 807, 199), (71, 807, 290), (75, 807, 310), (76, 807, 315), (78, 807, 325), (82, 807, 342), (83, 807, 350), (84, 807, 354), (99, 807, 231), (103, 807, 291), (107, 807, 311), (108, 807, 316), (110, 807, 326), (114, 807, 343), (115, 807, 351), (116, 807, 355), (65, 808, 260), (69, 808, 280), (73, 808, 302), (85, 808, 370), (97, 808, 261), (101, 808, 281), (105, 808, 303), (117, 808, 371)]
def tabP : List (Gfold_pair × Int) := tab.map fun t => (⟨t.1, t.2.1⟩, t.2.2)
def tabS : List (Int × Gfold_pair) := tab.map fun t => (t.2.2, ⟨t.1, t.2.1⟩)
set_option maxRecDepth 100000 in
theorem tables_v : fold_tables_v = some (tabP, tabS) := by decide +kernel
end Go.Proofs.Ytlamcpgnmeileaa
namespace Go.Proofs.Ytlamcpgnmeileaa
open Go.RowKit Go.Lib
set_option linter.unusedVariables false
set_option linter.unusedSimpArgs false
/-- The i-th byte of a text from a place on, as a number. -/
def byI (l : List UInt8) (i : Nat) : Int := ((l.getD i 0).toNat : Int)
def cand (l : List UInt8) : Nat → Int
  | 1 => byI l 0
  | 2 => (byI l 0 - 192) * 64 + byI l 1 - 128
  | 3 => ((byI l 0 - 224) * 64 + byI l 1 - 128) * 64 + byI l 2 - 128
  | 4 => (((byI l 0 - 240) * 64 + byI l 1 - 128) * 64 + byI l 2 - 128) * 64 + byI l 3 - 128
  | _ => 0
def acc (s : ByteArray) (a n : Nat) : Prop := vr (cand (s.data.toList.drop a) n) ∧ wd (cand (s.data.toList.drop a) n) = n ∧ Utf8.encode (cand (s.data.toList.drop a) n) = cutB s a ((a : Int) + n)
theorem cutB_list (s : ByteArray) (a n : Nat) : (cutB s a ((a : Int) + n)).data.toList = (s.data.toList.drop a).take n := by
  unfold cutB
  rw [extract_data]
  simp only [Int.toNat_natCast, show ((a : Int) + (n : Int)).toNat = a + n by omega]
  rw [show a + n - a = n by omega]
/-- A piece, as the reference has it. -/
def pcG (p : Pc) : Gapi_Piece := ⟨p.i, p.w, p.r, p.broken⟩
end Go.Proofs.Ytlamcpgnmeileaa
namespace Go.Proofs.Ytlamcpgnmeileaa
open Go.RowKit Go.Lib
set_option linter.unusedVariables false
set_option linter.unusedSimpArgs false
def mrk (r : Int) : Bool := decide (768 ≤ r ∧ r ≤ 879)
theorem letter_rng (r : Int) (h : letter r = true) : 0 ≤ r ∧ r < 1120 ∧ ¬ (768 ≤ r ∧ r ≤ 879) := by
  unfold letter at h
  rw [Bool.or_eq_true, great_iff, small_iff] at h
  unfold greatP smallP at h
  refine ⟨?_, ?_, ?_⟩ <;> omega
theorem kind1 (r : Int) : ((kind r : Int) == 1) = letter r := by
  cases h : letter r with
  | true =>
    have := letter_rng r h
    have e : kind r = 1 := by unfold kind kindP; rw [if_neg (by omega), if_pos h]
    rw [e]; rfl
  | false =>
    rw [beq_eq_false_iff_ne]
    unfold kind kindP
    rw [h]
    simp only [Bool.false_eq_true, if_false]
    (repeat' split) <;> omega
theorem kind2 (r : Int) : ((kind r : Int) == 2) = mrk r := by
  unfold mrk
  by_cases h : 768 ≤ r ∧ r ≤ 879
  · rw [decide_eq_true h, beq_iff_eq]
    have hl : letter r = false := by
      cases h' : letter r with
      | false => rfl
      | true => exact absurd h (letter_rng r h').2.2
    unfold kind kindP
    rw [if_neg (by omega), hl, if_neg (by simp), if_pos h]
  · rw [decide_eq_false h, beq_eq_false_iff_ne]
    unfold kind kindP
    (repeat' split) <;> omega
theorem letter_v (u : Gfold_unit) (h : I32 u.base) : fold_unit_letter_v u = some (letter u.base) := by
  unfold fold_unit_letter_v
  by_cases h0 : 0 ≤ u.base
  · exact condTI (decide_eq_true h0) (grdI h (congrArg some (kind1 _)))
  · refine condFI (decide_eq_false h0) (congrArg some ?_)
    cases h' : letter u.base with
    | false => rfl
    | true => exact absurd (letter_rng _ h').1 h0
def lows : List (Int × Int) := [(790, 793), (796, 800), (803, 819), (825, 828), (837, 841), (845, 846), (851, 854), (857, 858)]
def lowR (r : Int) : Bool := lows.any fun p => decide (p.1 ≤ r) && decide (r ≤ p.2)
theorem low_v (r : Int) : fold_Low_v r = some (lowR r) := by
  have h : r < 790 ∨ (790 ≤ r ∧ r ≤ 793) ∨ (793 < r ∧ r < 796) ∨ (796 ≤ r ∧ r ≤ 800) ∨ (800 < r ∧ r < 803) ∨ (803 ≤ r ∧ r ≤ 819) ∨ (819 < r ∧ r < 825) ∨ (825 ≤ r ∧ r ≤ 828) ∨ (828 < r ∧ r < 837) ∨ (837 ≤ r ∧ r ≤ 841) ∨ (841 < r ∧ r < 845) ∨ (845 ≤ r ∧ r ≤ 846) ∨ (846 < r ∧ r < 851) ∨ (851 ≤ r ∧ r ≤ 854) ∨ (854 < r ∧ r < 857) ∨ (857 ≤ r ∧ r ≤ 858) ∨ 858 < r := by omega
  unfold fold_Low_v
  simp only [joinK, bcond, lowR, lows, List.any_cons, List.any_nil, Bool.or_false]
  rcases h with h | h | h | h | h | h | h | h | h | h | h | h | h | h | h | h | h <;> simp (disch := omega) only [decide_eq_true, decide_eq_false, cond_true, cond_false, Bool.and_true, Bool.and_false, Bool.true_and, Bool.false_and, Bool.true_or, Bool.false_or, Bool.or_true, Bool.or_false]
end Go.Proofs.Ytlamcpgnmeileaa
namespace Go.Proofs.Ytlamcpgnmeileaa
open Go.RowKit Go.Lib
set_option linter.unusedVariables false
set_option linter.unusedSimpArgs false
section
variable {κ ν : Type} [DecidableEq κ]
theorem getM_mem {k : κ} {v : ν} : ∀ {L : List (κ × ν)}, getM k L = some v → (k, v) ∈ L
  | [], h => by cases h
  | p :: L, h => by
    unfold getM at h
    split at h
    · rename_i e; cases h; rw [e]; exact List.mem_cons_self ..
    · exact List.mem_cons_of_mem _ (getM_mem h)
end
/-- One step of the parting of a rune. -/
def spStep (rcall : Int → Option (List Int)) (r : Int) : Option (List Int) :=
  match getM r tabS with
  | none => some [r]
  | some p => andThen (rcall p.e0) fun l => grd (l.length + 1 ≤ 2147483648) <| some (l ++ [p.e1])
theorem psplit_step (rcall : (List (Int × Gfold_pair)) → Int → Option (List Int)) (r : Int) : fold_parted_b rcall tabS r = spStep (rcall tabS) r := by
  unfold fold_parted_b spStep
  cases getM r tabS with
  | none => exact condTI rfl rfl
  | some p => exact condFI rfl rfl
def spF : Nat → Int → Option (List Int)
  | 0, _ => none
  | n + 1, r => spStep (spF n) r
theorem psplit_F : ∀ (n : Nat) (r : Int), loopG (fun _ _ => none) fold_parted_b n tabS r = spF n r
  | 0, r => rfl
  | n + 1, r => by
    rw [loopI, psplit_step]
    show spStep _ r = spStep _ r
    congr 1; funext x; exact psplit_F n x
/-- The parts of a rune. -/
def parts (r : Int) : List Int :=
  match getM r tabS with
  | none => [r]
  | some p => (match getM p.e0 tabS with
    | none => [p.e0]
    | some q => [q.e0, q.e1]) ++ [p.e1]
def deep : Bool := tabS.all fun p => match getM p.2.e0 tabS with | none => true | some q => decide (getM q.e0 tabS = none)
set_option maxRecDepth 100000 in
theorem deep_ok : deep = true := by decide +kernel
theorem spF_parts (n : Nat) (r : Int) : spF (n + 3) r = some (parts r) := by
  show spStep (spF (n + 2)) r = _
  unfold spStep parts
  cases h : getM r tabS with
  | none => rfl
  | some p =>
    have hd := List.all_eq_true.1 deep_ok _ (getM_mem h)
    simp only at hd
    refine thenI (a := match getM p.e0 tabS with | none => [p.e0] | some q => [q.e0, q.e1]) ?_ (grdI (by cases getM p.e0 tabS <;> simp) rfl)
    show spStep (spF (n + 1)) p.e0 = _
    unfold spStep
    cases h2 : getM p.e0 tabS with
    | none => rfl
    | some q =>
      rw [h2] at hd
      simp only [decide_eq_true_eq] at hd
      refine thenI (a := [q.e0]) ?_ (grdI (by simp) rfl)
      show spStep (spF n) q.e0 = _
      unfold spStep
      rw [hd]
theorem parted_v (r : Int) : fold_parted_v tabS r = some (parts r) := by
  unfold fold_parted_v
  rw [psplit_F]
  obtain ⟨n, hn, _⟩ := fuel_eq 3 (by omega)
  rw [hn]; exact spF_parts n r
end Go.Proofs.Ytlamcpgnmeileaa
namespace Go.Proofs.Ytlamcpgnmeileaa
open Go.RowKit Go.Lib
set_option linter.unusedVariables false
set_option linter.unusedSimpArgs false
def joined (b m : Int) : Option Int := getM (⟨b, m⟩ : Gfold_pair) tabP
/-! ### Items -/
def itG (s : ByteArray) (p : Pc) : Gref04_Item := ⟨if p.broken then -1 else (p.r : Int), s.extract p.i (p.i + p.w), p.i⟩
def itemsP (s : ByteArray) : List Gref04_Item := (pcs s.data.toList).map (itG s)
theorem pcs_fit {s : ByteArray} {p : Pc} (hp : p ∈ pcs s.data.toList) : p.i + p.w ≤ s.size := by
  obtain ⟨g1, g2, hok⟩ := pcs_pos s.data.toList p hp
  have hlen : s.data.toList.length = s.size := by rw [Array.length_toList]; rfl
  omega
theorem pcs_count_le (s : ByteArray) : (pcs s.data.toList).length ≤ s.size := by
  have := runesOf_len s; unfold runesOf at this; simpa using this
end Go.Proofs.Ytlamcpgnmeileaa
namespace Go.Proofs.Ytlamcpgnmeileaa
open Go.RowKit Go.Lib
set_option linter.unusedVariables false
set_option linter.unusedSimpArgs false
abbrev Itm := Gref04_Item
def isL (x : Itm) : Bool := letter x.Rune
def isM (x : Itm) : Bool := mrk x.Rune
def isLo (x : Itm) : Bool := lowR x.Rune
theorem mrk_not_letter {r : Int} (h : mrk r = true) : letter r = false := by
  cases e : letter r with
  | false => rfl
  | true => have := letter_rng r e; unfold mrk at h; simp at h; omega
/-! ### The parts of letters -/
def shape (r : Int) : Bool := match parts r with
  | [] => false
  | b :: ms => letter b && decide (getM b tabS = none) && ms.all mrk && decide ((b :: ms).length ≤ 3)
set_option maxRecDepth 100000 in
theorem shapes : (tabS.all fun p => shape p.1) = true := by decide +kernel
set_option maxRecDepth 100000 in
theorem tab_rng : (tabS.all fun p => decide (0 ≤ p.1 ∧ p.1 ≤ 2000 ∧ 0 ≤ p.2.e0 ∧ p.2.e0 ≤ 2000 ∧ 0 ≤ p.2.e1 ∧ p.2.e1 ≤ 2000) && letter p.1) = true := by decide +kernel
theorem parts_shape {r : Int} (h : letter r = true) : ∃ b ms, parts r = b :: ms ∧ letter b = true ∧ getM b tabS = none ∧ (∀ m ∈ ms, mrk m = true) ∧ ms.length ≤ 2 := by
  cases e : getM r tabS with
  | none => exact ⟨r, [], by unfold parts; rw [e], h, e, by simp, by simp⟩
  | some p =>
    have h1 := List.all_eq_true.1 shapes _ (getM_mem e)
    unfold shape at h1
    simp only at h1
    cases hp : parts r with
    | nil => rw [hp] at h1; cases h1
    | cons b ms =>
      rw [hp] at h1
      simp only [Bool.and_eq_true, decide_eq_true_eq, List.all_eq_true, List.length_cons] at h1
      exact ⟨b, ms, rfl, h1.1.1.1, h1.1.1.2, h1.1.2, by omega⟩
theorem parts_len (r : Int) : (parts r).length ≤ 3 ∧ 1 ≤ (parts r).length := by
  unfold parts
  (repeat' split) <;> simp
theorem tabS_rng {k : Int} {p : Gfold_pair} (h : getM k tabS = some p) : (0 ≤ p.e0 ∧ p.e0 ≤ 2000) ∧ (0 ≤ p.e1 ∧ p.e1 ≤ 2000) ∧ letter k = true := by
  have := List.all_eq_true.1 tab_rng _ (getM_mem h)
  simp only [Bool.and_eq_true, decide_eq_true_eq] at this
  obtain ⟨⟨h1, h2, h3, h4, h5, h6⟩, h7⟩ := this
  exact ⟨⟨h3, h4⟩, ⟨h5, h6⟩, h7⟩
theorem parts_i32 {r : Int} (h : I32 r) : ∀ y ∈ parts r, I32 y := by
  intro y hy
  unfold parts at hy
  split at hy
  · simp at hy; subst hy; exact h
  · rename_i p hp
    obtain ⟨h1, h2, _⟩ := tabS_rng hp
    split at hy
    · simp at hy; rcases hy with rfl | rfl <;> exact ⟨by omega, by omega⟩
    · rename_i q hq
      obtain ⟨h3, h4, _⟩ := tabS_rng hq
      simp at hy; rcases hy with rfl | rfl | rfl <;> exact ⟨by omega, by omega⟩
/-! ### Clusters -/
def clF : Option (Itm × List Itm) → List Itm → List (Itm × List Itm)
  | none, [] => []
  | some c, [] => [c]
  | none, x :: xs => clF (some (x, [])) xs
  | some c, x :: xs => if isL c.1 && isM x then clF (some (c.1, c.2 ++ [x])) xs else c :: clF (some (x, [])) xs
def cl (xs : List Itm) : List (Itm × List Itm) := clF none xs
theorem clF_letter (x : Itm) (h : isL x = true) : ∀ (xs ms : List Itm), clF (some (x, ms)) xs = (x, ms ++ xs.takeWhile isM) :: cl (xs.dropWhile isM)
  | [], ms => by simp [clF, cl]
  | y :: xs, ms => by
    unfold clF
    cases hm : isM y with
    | true => rw [h, List.takeWhile_cons, List.dropWhile_cons, hm]; simp only [Bool.and_self, if_true]; rw [clF_letter x h xs]; simp
    | false => rw [List.takeWhile_cons, List.dropWhile_cons, hm]; simp [cl, clF]
theorem clF_other (x : Itm) (h : isL x = false) (xs : List Itm) : clF (some (x, [])) xs = (x, []) :: cl xs := by
  cases xs with
  | nil => rfl
  | cons y xs => unfold clF; rw [h]; simp [cl, clF]
theorem cl_nil : cl [] = [] := rfl
theorem cl_letter {x : Itm} (h : isL x = true) (xs : List Itm) : cl (x :: xs) = (x, xs.takeWhile isM) :: cl (xs.dropWhile isM) := by
  show clF (some (x, [])) xs = _
  rw [clF_letter x h]; rfl
theorem cl_other {x : Itm} (h : isL x = false) (xs : List Itm) : cl (x :: xs) = (x, []) :: cl xs := clF_other x h xs
def loI (ms : List Itm) : List Itm := ms.filter isLo
def hiI (ms : List Itm) : List Itm := ms.filter fun x => !isLo x
def ordC (c : Itm × List Itm) : List Itm := c.1 :: (loI c.2 ++ hiI c.2)
def ordI (xs : List Itm) : List Itm := (cl xs).flatMap ordC
theorem lohi_len (ms : List Itm) : (loI ms ++ hiI ms).length = ms.length := by
  unfold loI hiI
  induction ms with
  | nil => rfl
  | cons x ms ih =>
    rw [List.filter_cons, List.filter_cons]
    rw [List.length_append] at ih ⊢
    cases isLo x <;> simp <;> omega
/-- What a letter is taken apart into. -/
def apI (x : Itm) : List Itm := if isL x then (parts x.Rune).map fun r => ⟨r, Utf8.encode r, x.At⟩ else [x]
def apL (l : List Itm) : List Itm := l.flatMap apI
theorem apI_len (x : Itm) : (apI x).length ≤ 3 := by
  unfold apI
  split
  · simp; exact (parts_len _).1
  · simp
theorem apL_len (l : List Itm) : (apL l).length ≤ 3 * l.length := by
  unfold apL
  induction l with
  | nil => simp
  | cons x l ih => rw [List.flatMap_cons, List.length_append, List.length_cons]; have := apI_len x; omega
theorem ordI_letter {x : Itm} (h : isL x = true) (xs : List Itm) : ordI (x :: xs) = x :: ((loI (xs.takeWhile isM) ++ hiI (xs.takeWhile isM)) ++ ordI (xs.dropWhile isM)) := by
  unfold ordI; rw [cl_letter h]; simp [ordC]
theorem ordI_other {x : Itm} (h : isL x = false) (xs : List Itm) : ordI (x :: xs) = x :: ordI xs := by
  unfold ordI; rw [cl_other h]; simp [ordC, loI, hiI]
end Go.Proofs.Ytlamcpgnmeileaa
namespace Go.Proofs.Ytlamcpgnmeileaa
open Go.RowKit Go.Lib
set_option linter.unusedVariables false
set_option linter.unusedSimpArgs false
def runes_Width_v (r1 : Int) : Option Int := joinK (fun (j1 : Option Int) => bcond ((r1 : Int) != 65533) ( bcond (decide (Utf8.encode r1 = (⟨#[239, 191, 189]⟩ : ByteArray))) ( some 0
) ( j1
)
) ( j1
)
) ( some ((Utf8.encode r1).size : Int)
)
set_option maxRecDepth 100000 in
set_option maxHeartbeats 4000000 in
theorem runes_Width_fn {r1 : Int} {r : Int} (h : runes_Width_v r1 = some r) : FnP Try.prog 81 [.int .i32 r1] (.int .i64 r) := by
 unfold runes_Width_v at h
 refine FnP.intro Try.func81 rfl Try.ntmps81 (by simp) ?_
 intro w0 K
 obtain ⟨j1, hj1, h⟩ := joinE h
 refine TC.cutN (β := Unit) 1 rfl (fun b => j1 = some r) (fun b => []) (fun b => [(0, .int .i32 r1)]) (fun b => []) (fun cut => ?_) ?_
 ·
  refine TC.seq (TC.region (TO.assign rfl dc rfl (TO.nil (TX.next (cut (TC.seq (TC.region (TO.move rfl dc rfl (TO.bin rfl dc rfl rfl bin_neq (TO.move rfl dc rfl ?_))))))))))
  refine TO.split (s := 5) rfl (fun hb1 => ?_) (fun hb1 => ?_)
  ·
   have h := condT hb1 h
   refine TO.move rfl dc rfl (TO.conv rfl dc rfl (conv_rune Try.underlying21 Try.underlying9) (TO.bin rfl dc rfl rfl bin_seql (TO.pick (b := true) rfl dc rfl rfl (TO.nil (TX.next ?_)))))
   refine TC.condB rfl (fun hb2 => ?_) (fun hb2 => ?_)
   ·
    have h := condT hb2 h
    refine TC.seq (TC.region (TO.assign rfl dc rfl (TO.nil (TX.next (TC.ret (TX.thenRet ?_))))))
    cases h
    exact TX.fin (rs := [.tmp 2]) () (.inl rfl) Try.results81 (.cons (.tmp rfl) .nil) rfl Splits.nil
   ·
    have h := condF hb2 h
    refine TC.skip ?_
    exact TX.meetD () h rfl (Sbs.cons rfl (Sbs.nil)) Splits.nil
  ·
   have h := condF hb1 h
   refine TO.skip rfl dc (TO.skip rfl dc (TO.skip rfl dc (TO.pick (b := false) rfl dc rfl rfl (TO.nil (TX.next (TC.condF rfl (TC.skip ?_)))))))
   exact TX.meetD () h rfl (Sbs.cons rfl (Sbs.nil)) Splits.nil
 ·
  rintro _ h
  rw [hj1] at h
  show TC _ _ _ _ _ ([]) _ _ [(0, .int .i32 r1)] []
  refine TC.seq (TC.region (TO.move rfl dc rfl (TO.conv rfl dc rfl (conv_rune Try.underlying21 Try.underlying9) (TO.lenStr rfl dc rfl Try.underlying9 (TO.assign rfl dc rfl (TO.nil (TX.next (TC.ret ?_))))))))
  cases h
  exact TX.fin (rs := [.tmp 2]) () (.inl rfl) Try.results81 (.cons (.tmp rfl) .nil) rfl Splits.nil
def runes_read_s1 (s1 : ByteArray) (at1 : Int) (j1 : Option Gapi_Piece) (ag1 : Option Gapi_Piece) : Option Gapi_Piece := bcond (decide (0 < (pcs (cutB s1 at1 (s1.size : Int)).data.toList).length)) ( andThen ((pcs (cutB s1 at1 (s1.size : Int)).data.toList)[0]?) fun (p1 : Pc) => joinK (fun (j2 : Int → Option Gapi_Piece) => andThen (runes_Width_v (p1.r : Int)) fun (r1 : Int) => bcond (((p1.r : Int) : Int) == 65533) ( grd (I64 ((s1.size : Int) - at1)) <| bcond (decide ((((s1.size : Int) - at1) : Int) < 3)) ( some (⟨at1, 1, 65533, true⟩ : Gapi_Piece)
) ( grd (I64 (at1 + 3)) <| grd (0 ≤ (at1 : Int) ∧ (at1 : Int) ≤ (at1 + 3) ∧ (at1 + 3 : Int) ≤ (s1.size : Int)) <| bcond (!decide (cutB s1 at1 (at1 + 3) = (⟨#[239, 191, 189]⟩ : ByteArray))) ( some (⟨at1, 1, 65533, true⟩ : Gapi_Piece)
) ( j2 r1
)
)
) ( j2 r1
)
) (fun (n2 : Int) => some (⟨at1, n2, (p1.r : Int), false⟩ : Gapi_Piece)
)
) ( j1
)
def runes_read_v (s1 : ByteArray) (at1 : Int) : Option Gapi_Piece := joinK (fun (j1 : Option Gapi_Piece) => grd (0 ≤ (at1 : Int) ∧ (at1 : Int) ≤ (s1.size : Int) ∧ ((s1.size : Int) : Int) ≤ (s1.size : Int)) <| loopG none (runes_read_s1 s1 at1 j1) fuel
) ( some (⟨0, 0, 0, false⟩ : Gapi_Piece)
)
set_option maxRecDepth 100000 in
set_option maxHeartbeats 4000000 in
theorem runes_read_fn {s1 : ByteArray} {at1 : Int} {r : Gapi_Piece} (h : runes_read_v s1 at1 = some r) : FnP Try.prog 59 [.string s1, .int .i64 at1] (.agg #[.int .i64 r.At, .int .i64 r.Width, .int .i32 r.Rune, .bool r.Broken]) := by
 unfold runes_read_v at h
 refine FnP.intro Try.func59 rfl Try.ntmps59 (by simp) ?_
 intro w0 K
 obtain ⟨j1, hj1, h⟩ := joinE h
 refine TC.cutN (β := Nat) 1 rfl (fun b => j1 = some r) (fun b => []) (fun b => [(4, .pointer (some ⟨b, 0, none⟩))]) (fun b => [cells b [.int .i64 0, .int .i64 0, .int .i32 0, .bool false] 55]) (fun cut => ?_) ?_
 ·
  refine TC.seq (TC.region ?_)
  refine TO.alloc zr_55 rfl dc (fun b2 => ?_)
  refine TO.nil (TX.next (cut (TC.seq (TC.region (TO.move rfl dc rfl (TO.move rfl dc rfl ?_))))))
  obtain ⟨hg1, h⟩ := grdE h
  refine TO.slice rfl dc rfl rfl rfl (slice_stringI (i := at1) (j := (s1.size : Int)) Try.underlying9 (.inr rfl) (.inl ⟨rfl, rfl⟩) hg1) ?_
  refine TO.rangeStr Try.underlying9 rfl dc rfl (fun b3 => ?_)
  show TO _ _ _ _ _ _ _ _ _ _ [cells b2 [.int .i64 0, .int .i64 0, .int .i32 0, .bool false] 55, obj b3 (.stringIter (cutB s1 at1 (s1.size : Int)) (posAt (cutB s1 at1 (s1.size : Int)) 0))]
  refine TO.nil (TX.next (TC.block ?_))
  refine TC.loopD (β := Nat) (fun b => loopG none (runes_read_s1 s1 at1 j1) b = some r) (fun b => []) (fun b => [(0, .string s1), (1, .int .i64 at1), (4, .pointer (some ⟨b2, 0, none⟩)), (11, .pointer (some ⟨b3, 0, none⟩))]) (fun b => [cells b2 [.int .i64 0, .int .i64 0, .int .i32 0, .bool false] 55, obj b3 (.stringIter (cutB s1 at1 (s1.size : Int)) (posAt (cutB s1 at1 (s1.size : Int)) 0))]) (fun b => b) fuel h rfl (Sbs.cons rfl (Sbs.cons rfl (Sbs.cons rfl (Sbs.cons rfl (Sbs.nil))))) (Splits.of [0, 1] kr rfl) ?_
  rintro n1 h
  cases n1 with
  | zero => exact noneE h
  | succ n1 =>
   obtain ⟨ag1, hag1⟩ : ∃ ag, ag = loopG none (runes_read_s1 s1 at1 j1) n1 := ⟨_, rfl⟩
   have h : runes_read_s1 s1 at1 j1 ag1 = some r := by rw [hag1]; exact h
   unfold runes_read_s1 at h
   show TC _ _ _ _ _ ([]) _ _ [(0, .string s1), (1, .int .i64 at1), (4, .pointer (some ⟨b2, 0, none⟩)), (11, .pointer (some ⟨b3, 0, none⟩))] [cells b2 [.int .i64 0, .int .i64 0, .int .i32 0, .bool false] 55, obj b3 (.stringIter (cutB s1 at1 (s1.size : Int)) (posAt (cutB s1 at1 (s1.size : Int)) 0))]
   refine TC.seq (TC.region ?_)
   refine TO.bySplit (b := decide (0 < (pcs (cutB s1 at1 (s1.size : Int)).data.toList).length)) (fun hb1 => ?_) (fun hb1 => ?_)
   ·
    have h := condT hb1 h
    obtain ⟨p1, hq1, h⟩ := andE h
    refine TO.nextStr (k := 1) (m := 0) (p := p1) rfl dc rfl rfl hq1 (TO.extract rfl dc rfl rfl (TO.nil (TX.next (TC.seq (TC.condT rfl (TC.skip (TX.next (TC.block ?_))))))))
    obtain ⟨j2, hj2, h⟩ := joinE h
    refine TC.cutN (β := Int) 2 rfl (fun b => j2 b = some r) (fun b => []) (fun b => [(1, .int .i64 at1), (4, .pointer (some ⟨b2, 0, none⟩)), (6, .int .i32 (p1.r : Int)), (7, .int .i64 b)]) (fun b => [cells b2 [.int .i64 0, .int .i64 0, .int .i32 0, .bool false] 55]) (fun cut => ?_) ?_
    ·
     refine TC.seq (TC.region (TO.extract rfl dc rfl rfl (TO.assign rfl dc rfl (TO.nil (TX.next (TC.seq (TC.region (TO.move rfl dc rfl ?_))))))))
     obtain ⟨r1, hq2, h⟩ := andE h
     refine TO.callP (v := .int .i64 r1) (vs := [.int .i32 (p1.r : Int)]) rfl dc rfl rfl rfl en_81 (runes_Width_fn hq2) (TO.assign rfl dc rfl (TO.nil (TX.next (cut (TC.seq (TC.region (TO.move rfl dc rfl (TO.bin rfl dc rfl rfl bin_eql (TO.move rfl dc rfl ?_)))))))))
     refine TO.split (s := 19) rfl (fun hb2 => ?_) (fun hb2 => ?_)
     ·
      have h := condT hb2 h
      refine TO.move rfl dc rfl (TO.lenStr rfl dc rfl Try.underlying9 (TO.move rfl dc rfl ?_))
      obtain ⟨hg2, h⟩ := grdE h
      refine TO.bin rfl dc rfl rfl (bin_sub (r := (s1.size : Int) - at1) (IntWalk.i64_in _ hg2)) (TO.bin rfl dc rfl rfl bin_lss (TO.move rfl dc rfl ?_))
      refine TO.split (s := 25) rfl (fun hb3 => ?_) (fun hb3 => ?_)
      ·
       have h := condT hb3 h
       refine TO.skip rfl dc (TO.skip rfl dc (TO.skip rfl dc (TO.skip rfl dc (TO.skip rfl dc (TO.skip rfl dc (TO.pick (b := true) rfl dc rfl rfl (TO.pick (b := true) rfl dc rfl rfl (TO.nil (TX.next (TC.condT rfl (TC.seq (TC.region (TO.move rfl dc rfl ?_)))))))))))))
       refine TO.build (v := .agg #[.int .i64 at1, .int .i64 1, .int .i32 65533, .bool true]) (ps := [(0, .tmp 34), (1, .const (.int .i64 1)), (2, .const (.int .i32 65533)), (3, .const (.bool true))]) rfl dc rfl (fun _ => by kernel_rfl) ?_
       refine TO.stores (k := 0) (vs := [.int .i64 at1, .int .i64 1, .int .i32 65533, .bool true]) (l' := [.int .i64 at1, .int .i64 1, .int .i32 65533, .bool true]) sz_55 rfl rfl rfl rfl rfl (show _ ≤ _ by simp) rfl rfl ?_
       show TO _ _ _ _ _ _ _ _ _ _ [cells b2 [.int .i64 at1, .int .i64 1, .int .i32 65533, .bool true] 55, obj b3 (.stringIter (cutB s1 at1 (s1.size : Int)) (posAt (cutB s1 at1 (s1.size : Int)) (0 + 1)))]
       refine TO.nil (TX.next (TC.ret (TX.thenRet (TX.blockRet (TX.thenRet (TX.blockRet (TX.thenRet ?_)))))))
       cases h
       exact TX.fin (rs := [.cell 4 55]) () (.inl rfl) Try.results59 (.cons (.cells rw_55 (k := 0) rfl rfl rfl) .nil) rfl Splits.nil
      ·
       have h := condF hb3 h
       refine TO.move rfl dc rfl (TO.move rfl dc rfl (TO.move rfl dc rfl ?_))
       obtain ⟨hg3, h⟩ := grdE h
       refine TO.bin rfl dc rfl rfl (bin_add (r := at1 + 3) (IntWalk.i64_in _ hg3)) ?_
       obtain ⟨hg4, h⟩ := grdE h
       refine TO.slice rfl dc rfl rfl rfl (slice_stringI (i := at1) (j := at1 + 3) Try.underlying9 (.inr rfl) (.inr rfl) hg4) (TO.bin rfl dc rfl rfl bin_sneq (TO.pick (b := false) rfl dc rfl rfl (TO.pick (b := true) rfl dc rfl rfl (TO.nil (TX.next ?_)))))
       refine TC.condB rfl (fun hb4 => ?_) (fun hb4 => ?_)
       ·
        have h := condT hb4 h
        refine TC.seq (TC.region (TO.move rfl dc rfl ?_))
        refine TO.build (v := .agg #[.int .i64 at1, .int .i64 1, .int .i32 65533, .bool true]) (ps := [(0, .tmp 34), (1, .const (.int .i64 1)), (2, .const (.int .i32 65533)), (3, .const (.bool true))]) rfl dc rfl (fun _ => by kernel_rfl) ?_
        refine TO.stores (k := 0) (vs := [.int .i64 at1, .int .i64 1, .int .i32 65533, .bool true]) (l' := [.int .i64 at1, .int .i64 1, .int .i32 65533, .bool true]) sz_55 rfl rfl rfl rfl rfl (show _ ≤ _ by simp) rfl rfl ?_
        show TO _ _ _ _ _ _ _ _ _ _ [cells b2 [.int .i64 at1, .int .i64 1, .int .i32 65533, .bool true] 55, obj b3 (.stringIter (cutB s1 at1 (s1.size : Int)) (posAt (cutB s1 at1 (s1.size : Int)) (0 + 1)))]
        refine TO.nil (TX.next (TC.ret (TX.thenRet (TX.blockRet (TX.thenRet (TX.blockRet (TX.thenRet ?_)))))))
        cases h
        exact TX.fin (rs := [.cell 4 55]) () (.inl rfl) Try.results59 (.cons (.cells rw_55 (k := 0) rfl rfl rfl) .nil) rfl Splits.nil
       ·
        have h := condF hb4 h
        refine TC.skip ?_
        exact TX.meetD r1 h rfl (Sbs.cons rfl (Sbs.cons rfl (Sbs.cons rfl (Sbs.cons rfl (Sbs.nil))))) (Splits.of [0] kr rfl)
     ·
      have h := condF hb2 h
      refine TO.skip rfl dc (TO.skip rfl dc (TO.skip rfl dc (TO.skip rfl dc (TO.skip rfl dc (TO.skip rfl dc (TO.skip rfl dc (TO.skip rfl dc (TO.skip rfl dc (TO.skip rfl dc (TO.skip rfl dc (TO.skip rfl dc (TO.skip rfl dc (TO.pick (b := false) rfl dc rfl rfl ?_)))))))))))))
      refine TO.nil (TX.next (TC.condF rfl (TC.skip ?_)))
      exact TX.meetD r1 h rfl (Sbs.cons rfl (Sbs.cons rfl (Sbs.cons rfl (Sbs.cons rfl (Sbs.nil))))) (Splits.of [0] kr rfl)
    ·
     rintro n2 h
     rw [hj2] at h
     show TC _ _ _ _ _ ([]) _ _ [(1, .int .i64 at1), (4, .pointer (some ⟨b2, 0, none⟩)), (6, .int .i32 (p1.r : Int)), (7, .int .i64 n2)] [cells b2 [.int .i64 0, .int .i64 0, .int .i32 0, .bool false] 55]
     refine TC.seq (TC.region (TO.move rfl dc rfl (TO.move rfl dc rfl (TO.move rfl dc rfl ?_))))
     refine TO.build (v := .agg #[.int .i64 at1, .int .i64 n2, .int .i32 (p1.r : Int), .bool false]) (ps := [(0, .tmp 36), (1, .tmp 37), (2, .tmp 38)]) rfl dc rfl (fun _ => by kernel_rfl) ?_
     refine TO.stores (k := 0) (vs := [.int .i64 at1, .int .i64 n2, .int .i32 (p1.r : Int), .bool false]) (l' := [.int .i64 at1, .int .i64 n2, .int .i32 (p1.r : Int), .bool false]) sz_55 rfl rfl rfl rfl rfl (show _ ≤ _ by simp) rfl rfl (TO.nil (TX.next (TC.ret (TX.blockRet (TX.thenRet (TX.blockRet (TX.thenRet ?_)))))))
     cases h
     exact TX.fin (rs := [.cell 4 55]) () (.inl rfl) Try.results59 (.cons (.cells rw_55 (k := 0) rfl rfl rfl) .nil) rfl Splits.nil
   ·
    have h := condF hb1 h
    refine TO.nextEnd (k := 1) (m := 0) rfl dc rfl rfl (Nat.le_of_not_lt (of_decide_eq_false hb1)) (TO.extract rfl dc rfl rfl (TO.nil (TX.next (TC.seq (TC.condF rfl (TC.exit (TX.thenExit (TX.thenExit (TX.blockHere ?_)))))))))
    exact TX.meetD b2 h rfl (Sbs.cons rfl (Sbs.nil)) (Splits.of [0] kr rfl)
 ·
  rintro b1 h
  rw [hj1] at h
  show TC _ _ _ _ _ ([]) _ _ [(4, .pointer (some ⟨b1, 0, none⟩))] [cells b1 [.int .i64 0, .int .i64 0, .int .i32 0, .bool false] 55]
  refine TC.seq (TC.region ?_)
  refine TO.build (v := .agg #[.int .i64 0, .int .i64 0, .int .i32 0, .bool false]) (ps := []) rfl dc rfl (fun _ => by kernel_rfl) ?_
  refine TO.stores (k := 0) (vs := [.int .i64 0, .int .i64 0, .int .i32 0, .bool false]) (l' := [.int .i64 0, .int .i64 0, .int .i32 0, .bool false]) sz_55 rfl rfl rfl rfl rfl (show _ ≤ _ by simp) rfl rfl (TO.nil (TX.next (TC.ret ?_)))
  cases h
  exact TX.fin (rs := [.cell 4 55]) () (.inl rfl) Try.results59 (.cons (.cells rw_55 (k := 0) rfl rfl rfl) .nil) rfl Splits.nil
def runes_Pieces_1_s1 (c0 : ByteArray) (ag1 : Nat → Option (List Gapi_Piece)) (m3 : Nat) : Option (List Gapi_Piece) := bcond (decide (m3 < (pcs c0.data.toList).length)) ( andThen ((pcs c0.data.toList)[m3]?) fun (p1 : Pc) => andThen (runes_read_v c0 (p1.i : Int)) fun (r1 : Gapi_Piece) => consO r1 <| ag1 (m3 + 1)
) ( some []
)
def runes_Pieces_1_v (c0 : ByteArray) : Option (List Gapi_Piece) := loopG (fun _ => none) (runes_Pieces_1_s1 c0) fuel 0
set_option maxRecDepth 100000 in
set_option maxHeartbeats 4000000 in
theorem runes_Pieces_1_itr {b_c0 : Nat} {c0 : ByteArray} {xs : (List Gapi_Piece)} (h : runes_Pieces_1_v c0 = some xs) : Itr Try.prog 73 [.pointer (some ⟨b_c0, 0, none⟩)] (fun q : Gapi_Piece => [.agg #[.int .i64 q.At, .int .i64 q.Width, .int .i32 q.Rune, .bool q.Broken]]) xs [(b_c0, .cells #[.string c0] 9 (0, 0))] := by
 unfold runes_Pieces_1_v at h
 refine Itr.intro Try.func73 rfl Try.ntmps73 (by simp) ?_
 intro l w0 K I X hRo hy
 obtain ⟨r0, hx0⟩ : ∃ r, xs = [] ++ r := ⟨xs, rfl⟩
 have hr0 : xs = r0 := hx0
 rw [hr0] at h
 refine TC.seq (TC.region (TO.loadRo (i := 0) hRo sc_9 rfl dc rfl rfl rfl ?_))
 refine TO.rangeStr Try.underlying9 rfl dc rfl (fun b1 => ?_)
 refine TO.nil (TX.next (TC.block ?_))
 refine TC.loopD (β := Nat × Nat × (List Gapi_Piece) × (List Gapi_Piece)) (fun b => loopG (fun _ => none) (runes_Pieces_1_s1 c0) b.1 b.2.1 = some b.2.2.2 ∧ xs = b.2.2.1 ++ b.2.2.2) (fun b => []) (fun b => [(0, .func (.yield l) #[] #[]), (1, .pointer (some ⟨b_c0, 0, none⟩)), (5, .pointer (some ⟨b1, 0, none⟩))]) (fun b => [I b.2.2.1, obj b1 (.stringIter c0 (posAt c0 b.2.1))]) (fun b => b.1) (fuel, 0, ([] : List Gapi_Piece), r0) ⟨h, hx0⟩ rfl (Sbs.cons rfl (Sbs.cons rfl (Sbs.cons rfl (Sbs.nil)))) (Splits.of [0, 1] kr rfl) ?_
 rintro ⟨n1, m3, acc3, rr3⟩ ⟨h, hx3⟩
 cases n1 with
 | zero => exact noneE h
 | succ n1 =>
  obtain ⟨ag1, hag1⟩ : ∃ ag, ag = loopG (fun _ => none) (runes_Pieces_1_s1 c0) n1 := ⟨_, rfl⟩
  have h : runes_Pieces_1_s1 c0 ag1 m3 = some rr3 := by rw [hag1]; exact h
  unfold runes_Pieces_1_s1 at h
  show TC _ _ _ _ _ ([]) _ _ [(0, .func (.yield l) #[] #[]), (1, .pointer (some ⟨b_c0, 0, none⟩)), (5, .pointer (some ⟨b1, 0, none⟩))] [I acc3, obj b1 (.stringIter c0 (posAt c0 m3))]
  refine TC.seq (TC.region ?_)
  refine TO.bySplit (b := decide (m3 < (pcs c0.data.toList).length)) (fun hb1 => ?_) (fun hb1 => ?_)
  ·
   have h := condT hb1 h
   obtain ⟨p1, hq1, h⟩ := andE h
   refine TO.nextStr (k := 1) (m := m3) (p := p1) rfl dc rfl rfl hq1 (TO.extract rfl dc rfl rfl (TO.nil (TX.next (TC.seq (TC.condT rfl (TC.skip (TX.next (TC.block (TC.seq (TC.region (TO.extract rfl dc rfl rfl (TO.assign rfl dc rfl (TO.nil ?_)))))))))))))
   refine TX.next (TC.seq (TC.region (TO.move rfl dc rfl (TO.loadRo (i := 0) hRo sc_9 rfl dc rfl rfl rfl (TO.move rfl dc rfl ?_)))))
   obtain ⟨r1, hq2, h⟩ := andE h
   refine TO.callP (v := .agg #[.int .i64 r1.At, .int .i64 r1.Width, .int .i32 r1.Rune, .bool r1.Broken]) (vs := [.string c0, .int .i64 (p1.i : Int)]) rfl dc rfl rfl rfl en_59 (runes_read_fn hq2) ?_
   obtain ⟨rr4, hr1, h⟩ := consE h
   have hx4 : xs = acc3 ++ r1 :: rr4 := by rw [hx3, hr1]
   refine TO.yield hy rfl dc rfl hx4 rfl (k := 0) rfl ?_ ?_
   ·
    have hx5 : xs = (acc3 ++ [r1]) ++ rr4 := by rw [hx4]; simp
    show TO _ _ _ _ _ _ _ _ _ _ [I (acc3 ++ [r1]), obj b1 (.stringIter c0 (posAt c0 (m3 + 1)))]
    refine TO.un rfl dc rfl un_not (TO.nil (TX.next (TC.condF rfl (TC.skip (TX.blockNormal ?_)))))
    subst hag1
    exact TX.againD (n1, m3 + 1, acc3 ++ [r1], rr4) ⟨h, hx5⟩ (Nat.lt_succ_self _) rfl (Sbs.cons rfl (Sbs.cons rfl (Sbs.cons rfl (Sbs.nil)))) (Splits.of [0, 1] kr rfl)
   ·
    show TO _ _ _ _ _ _ _ _ _ _ [X (acc3 ++ [r1]), obj b1 (.stringIter c0 (posAt c0 (m3 + 1)))]
    refine TO.un rfl dc rfl un_not (TO.nil (TX.next (TC.condT rfl (TC.ret (TX.blockRet (TX.thenRet (TX.blockRet ?_)))))))
    exact TX.finX (ds := []) acc3 r1 rr4 hx4 (.inl rfl) Splits.nil Try.results73 (Splits.of [0] kr rfl)
  ·
   have h := condF hb1 h
   refine TO.nextEnd (k := 1) (m := m3) rfl dc rfl rfl (Nat.le_of_not_lt (of_decide_eq_false hb1)) (TO.extract rfl dc rfl rfl (TO.nil (TX.next (TC.seq (TC.condF rfl (TC.exit (TX.thenExit (TX.thenExit (TX.blockHere ?_)))))))))
   cases h
   exact TX.finY (ds := []) (.inr rfl) Splits.nil Try.results73 (congrArg I (hx3.trans (List.append_nil _))) (Splits.of [0] kr rfl)
def runes_Pieces_v (s1 : ByteArray) : Option ByteArray := some s1
set_option maxRecDepth 100000 in
set_option maxHeartbeats 4000000 in
theorem runes_Pieces_fn {s1 : ByteArray} {r : ByteArray} (h : runes_Pieces_v s1 = some r) : Fn Try.prog 49 [.string s1] [] (fun v0 : Nat => .func (.func 73) #[] #[.pointer (some ⟨v0, 0, none⟩)]) (fun v0 => [cells v0 [.string r] 9]) := by
 unfold runes_Pieces_v at h
 refine Fn.intro Try.func49 rfl Try.ntmps49 (by simp) ?_
 intro w0 K
 refine TC.seq (TC.region ?_)
 refine TO.box rfl dc rfl (fun b1 => ?_)
 refine TO.assign rfl dc rfl (TO.nil (TX.next (TC.seq (TC.region (TO.makeFunc (x1 := []) (x2 := [.tmp 1]) rfl dc rfl rfl (TO.assign rfl dc rfl (TO.nil (TX.next (TC.ret ?_)))))))))
 cases h
 exact TX.fin (rs := [.tmp 2]) b1 (.inl rfl) Try.results49 (.cons (.tmp rfl) .nil) rfl (Splits.of [0] kr rfl)
end Go.Proofs.Ytlamcpgnmeileaa
namespace Go.Proofs.Ytlamcpgnmeileaa
open Go.RowKit Go.Lib
set_option linter.unusedVariables false
set_option linter.unusedSimpArgs false
theorem encNeLost (r : Int) (hv : 0 ≤ r ∧ (r < 55296 ∨ (57343 < r ∧ r ≤ 1114111))) (hr : ¬ r = 65533) : ¬ Utf8.encode r = ⟨#[239, 191, 189]⟩ := by
  intro h
  obtain ⟨n, rfl⟩ := Int.eq_ofNat_of_zero_le hv.1
  have h1 : encodeRune ((n : Nat) : Int) = [239, 191, 189] := by rw [← encode_list, h]
  have h2 := dec_enc n (by omega) []
  have h3 := dec_enc 65533 (by omega) []
  rw [h1] at h2
  rw [enc_lost] at h3
  rw [h2] at h3
  have := (Prod.mk.inj h3).1
  omega
theorem rwidthV (r : Int) (hv : vr r) : runes_Width_v r = some ((Utf8.encode r).size : Int) := by
  unfold runes_Width_v
  refine joinI ?_
  by_cases h : r = 65533
  · exact condFI (bne_eq_false_iff_eq.2 h) rfl
  · exact condTI (bne_iff_ne.2 h) (condFI (decide_eq_false (encNeLost r (by unfold vr at hv; omega) h)) rfl)
theorem readV (s : ByteArray) (a : Nat) (ha : a < s.size) (hsz : s.size ≤ 9223372036854775000) : runes_read_v s (a : Int) = some (pcG ⟨a, (decodeL (s.data.toList.drop a)).2, (decodeL (s.data.toList.drop a)).1⟩) := by
  unfold runes_read_v
  obtain ⟨F, hF, _⟩ := fuel_eq 1 (by omega)
  rw [hF]
  refine joinI (grdI ⟨by omega, by omega, by omega⟩ ?_)
  rw [loopI]
  generalize loopG _ _ F = ag
  unfold runes_read_s1
  have hne : s.data.toList.drop a ≠ [] := by
    intro h; have := congrArg List.length h; simp at this; omega
  have hok := decOk _ hne
  have hlen : (s.data.toList.drop a).length = s.size - a := by simp
  have hle := hok.le
  have e : (cutB s (a : Int) (s.size : Int)).data.toList = s.data.toList.drop a := by unfold cutB; exact ext_end s a
  have hp : pcs (cutB s (a : Int) (s.size : Int)).data.toList = ⟨0, (decodeL (s.data.toList.drop a)).2, (decodeL (s.data.toList.drop a)).1⟩ :: pcsFrom (0 + (decodeL (s.data.toList.drop a)).2) ((s.data.toList.drop a).drop (decodeL (s.data.toList.drop a)).2) := by
    rw [e]; unfold pcs; rw [pcsFrom_cons _ _ hne]
  have hvr : vr ((decodeL (s.data.toList.drop a)).1 : Int) := by have := hok.valid; unfold vr; omega
  refine condTI (decide_eq_true (by rw [hp]; simp)) (thenI (by rw [hp]; rfl) (joinI (thenI (rwidthV _ hvr) ?_)))
  simp only
  unfold pcG Pc.broken
  have hw := hok.width
  have hl3 := hok.lost_ok
  have hl1 := hok.lost_bad
  generalize decodeL (s.data.toList.drop a) = d at *
  rcases d with ⟨r, w⟩
  simp only at *
  by_cases hr : r = 65533
  · subst hr
    refine condTI (by decide) (grdI ⟨by omega, by omega⟩ ?_)
    by_cases h3 : (s.size : Int) - a < 3
    · refine condTI (decide_eq_true h3) ?_
      have hw1 : w = 1 := by
        by_cases hw1 : w = 1
        · exact hw1
        · have := (hl3 rfl hw1).2; omega
      subst hw1; rfl
    · have e3 := cutB_list s a 3
      refine condFI (decide_eq_false h3) (grdI ⟨by omega, by omega⟩ (grdI ⟨by omega, by omega, by omega⟩ ?_))
      by_cases hw1 : w = 1
      · refine condTI ?_ (by subst hw1; rfl)
        rw [decide_eq_false]
        · rfl
        · intro h
          exact hl1 rfl hw1 (by rw [← e3]; exact congrArg (fun b : ByteArray => b.data.toList) h)
      · obtain ⟨h4, h5⟩ := hl3 rfl hw1
        refine condFI ?_ ?_
        · rw [decide_eq_true]
          · rfl
          · apply ByteArray.ext; apply Array.toList_inj.1; rw [show ((a : Int) + 3) = (a : Int) + (3 : Nat) from rfl, e3, h4]
        · rw [encode_size, hw (by omega)]
          subst h5; rfl
  · refine condFI (by rw [beq_eq_false_iff_ne]; omega) ?_
    rw [encode_size, hw (by omega)]
    have : (r == 65533 && w == 1) = false := by simp [hr]
    rw [this]
theorem piecesI (s : ByteArray) (hs : s.size ≤ 2147483648) : runes_Pieces_1_v s = some ((pcs s.data.toList).map pcG) := by
  unfold runes_Pieces_1_v
  have hc : (pcs s.data.toList).length ≤ s.size := by have := runesOf_len s; unfold runesOf at this; simpa using this
  have key : ∀ (n k : Nat), k ≤ (pcs s.data.toList).length → (pcs s.data.toList).length - k < n → loopG (fun _ => none) (runes_Pieces_1_s1 s) n k = some (((pcs s.data.toList).drop k).map pcG) := by
    intro n
    induction n with
    | zero => intro k _ h; omega
    | succ n ih =>
      intro k hk hn
      rw [loopI]
      generalize loopG (fun _ => none) (runes_Pieces_1_s1 s) n = ag at ih ⊢
      unfold runes_Pieces_1_s1
      by_cases h : k < (pcs s.data.toList).length
      · have hx : (pcs s.data.toList)[k]? = some (pcs s.data.toList)[k] := List.getElem?_eq_getElem h
        have hm := List.mem_of_getElem? hx
        generalize (pcs s.data.toList)[k] = p at hx hm
        obtain ⟨g1, g2, hok⟩ := pcs_pos s.data.toList p hm
        have hlen : s.data.toList.length = s.size := by rw [Array.length_toList]; rfl
        have hw := hok.pos
        have hr : runes_read_v s (p.i : Int) = some (pcG p) := by
          have := readV s p.i (by omega) (by omega)
          rw [this]
          have he := hok.eq
          rw [he]
        refine condTI (decide_eq_true h) (thenI hx (thenI hr ?_))
        rw [ih (k + 1) (by omega) (by omega)]
        have hd : (pcs s.data.toList).drop k = p :: (pcs s.data.toList).drop (k + 1) := by
          obtain ⟨hlt, he⟩ := List.getElem?_eq_some_iff.1 hx
          rw [← he]; exact List.drop_eq_getElem_cons hlt
        rw [hd]; rfl
      · have : k = (pcs s.data.toList).length := by omega
        subst this
        exact condFI (decide_eq_false (by omega)) (by rw [List.drop_length]; rfl)
  have := key fuel 0 (Nat.zero_le _) (by unfold fuel; omega)
  simpa using this
end Go.Proofs.Ytlamcpgnmeileaa
