/-
  Texts laid together: Zn, Mp, Tab, Lt, LfA, Pcs, Vs, PcW, Cls, ClsW, ClsW2, SeqW, RefPcs, Runs, C0, Tok, Word, WordA, WordB. Nothing is assumed.
-/
import Derived.Test.YtlamcpgnmeileaaWordLetters1
import Derived.LoopNIn
import Derived.MapKept
import Derived.Test.YtlamcpgnmeileaaProg
import Derived.Shelf.Abstract
namespace Go.Proofs.Ytlamcpgnmeileaa
open Go.RowKit Go.Lib
set_option linter.unusedVariables false
set_option linter.unusedSimpArgs false
/-- Decided. -/
theorem dc {p : Prop} [Decidable p] (h : decide p = true := by rfl) : p := of_decide_eq_true h
/-- The same by computation. -/
theorem kr {α : Sort _} {a b : α} (h : a = b := by as_aux_lemma => kernel_rfl) : a = b := h
/-- What an iterator yields first, and then. -/
def consO {α : Type} (x : α) (o : Option (List α)) : Option (List α) := o.map (x :: ·)
theorem consE {α : Type} {x : α} {o : Option (List α)} {r : List α} (h : consO x o = some r) : ∃ r', r = x :: r' ∧ o = some r' := by
  obtain ⟨r', h1, h2⟩ := Option.map_eq_some_iff.1 h
  exact ⟨r', h2.symm, h1⟩
theorem strCells_of {l : List Int} (h : ∀ x ∈ l, U8 x) : l.map (fun x => Value.int .u8 x) = strCells (bytesOf l) := by
  have e := ints_bytesOf h
  conv => lhs; rw [← e]
  simp [ints, strCells]
section
variable {F : Fence} {P : Program} {w0 : World} {K : Nat → Prop} {N : Nat} {dfs : List Deferred} {ops : Array Oper} {Q : Exit → Act → World → Prop} {rest : List Oper} {c : Code} {ex : Exit} {σ : List (Nat × Value)} {L L' As R : List Asn} {A B : Asn} {k : Nat} {β : Type}
theorem TO.weakenL (hs : Splits L L' R) (h : TO F P w0 K N dfs ops Q rest σ L') : TO F P w0 K N dfs ops Q rest σ L := fun a w ha hw => h a w ha (hw.weaken hs)
theorem TC.weakenL (hs : Splits L L' R) (h : TC F P w0 K N dfs Q c σ L') : TC F P w0 K N dfs Q c σ L := fun a w ha hw => h a w ha (hw.weaken hs)
theorem TX.weakenL (hs : Splits L L' R) (h : TX w0 K N dfs Q ex σ L') : TX w0 K N dfs Q ex σ L := fun a w ha hw => h a w ha (hw.weaken hs)
theorem TX.ent (hk : L[k]? = some A) (he : Ent A B) (h : TX w0 K N dfs Q ex σ (L.set k B)) : TX w0 K N dfs Q ex σ L := fun a w ha hw => h a w ha (hw.ent hk he)
/-- A loop of at most m rounds, round by round. -/
def TR (F : Fence) (P : Program) (w0 : World) (K : Nat → Prop) (N : Nat) (dfs : List Deferred) (Q : Exit → Act → World → Prop) (c : Code) (m : Nat) (σ : List (Nat × Value)) (L : List Asn) : Prop :=
  ∀ a w, At N dfs σ a → Holds w0 K L w → Code.roundsIn F 0 P c Q m a w
theorem TR.succ {m : Nat} (h : TC F P w0 K N dfs (Exit.then (Code.roundsIn F 0 P c Q m) Q) c σ L) : TR F P w0 K N dfs Q c (m + 1) σ L := fun a w ha hw => h a w ha hw
/-- The entry k and others become one, at k. -/
theorem Holds.fold1 {w : World} (h : Holds w0 K L w) (hk : L[k]? = some A) (hs : Splits (L.set k emp) As R) (hR : R[k]? = some emp) (hE : ∀ C w, sepL (A :: As) C w → B.P C w) : Holds w0 K (R.set k B) w := by
  obtain ⟨C, hL, hx⟩ := h
  obtain ⟨C1, C2, h1, h2, h3, h4⟩ := sepL.take hk hL
  obtain ⟨D1, D2, g1, g2, g3, g4⟩ := hs C2 w h2
  have hset : R.set k emp = R := by
    obtain ⟨hl, he⟩ := List.getElem?_eq_some_iff.1 hR
    rw [← he]; exact List.set_getElem_self hl
  refine ⟨C, sepL.put (C1 := fun i => C1 i ∨ D1 i) (C2 := D2) (List.getElem?_eq_some_iff.1 hR).1 (hE _ _ ⟨C1, D1, h1, g1, fun i a b => h3 i a ((g4 i).2 (.inl b)), fun i => Iff.rfl⟩) (by rw [hset]; exact g2) (fun i a b => ?_) (fun i => ?_), hx⟩
  · rcases a with a | a
    · exact h3 i a ((g4 i).2 (.inr b))
    · exact g3 i a b
  · rw [h4, g4, or_assoc]
/-- The entry k becomes another and some more, behind. -/
theorem Holds.unfold1 {w : World} {I : β → Prop} {Bf : β → Asn} {Bs : β → List Asn} (h : Holds w0 K L w) (hk : L[k]? = some A) (hE : ∀ C w, A.P C w → ∃ b, I b ∧ sepL (Bf b :: Bs b) C w) : ∃ b, I b ∧ Holds w0 K (L.set k (Bf b) ++ Bs b) w := by
  obtain ⟨C, hL, hx⟩ := h
  obtain ⟨C1, C2, h1, h2, h3, h4⟩ := sepL.take hk hL
  obtain ⟨b, hI, D1, D2, g1, g2, g3, g4⟩ := hE _ _ h1
  refine ⟨b, hI, C, sepL.append' (C1 := fun i => D1 i ∨ C2 i) (C2 := D2) (sepL.put (C1 := D1) (C2 := C2) (List.getElem?_eq_some_iff.1 hk).1 g1 h2 (fun i a b => h3 i ((g4 i).2 (.inl a)) b) (fun i => Iff.rfl)) g2 (fun i a b => ?_) (fun i => ?_), hx⟩
  · rcases a with a | a
    · exact g3 i a b
    · exact h3 i ((g4 i).2 (.inr b)) a
  · rw [h4, g4]
    constructor
    · rintro ((a | a) | a)
      · exact .inl (.inl a)
      · exact .inr a
      · exact .inl (.inr a)
    · rintro ((a | a) | a)
      · exact .inl (.inl a)
      · exact .inr a
      · exact .inl (.inr a)
theorem TO.fold1 (hk : L[k]? = some A) (hs : Splits (L.set k emp) As R) (hR : R[k]? = some emp) (hE : ∀ C w, sepL (A :: As) C w → B.P C w) (h : TO F P w0 K N dfs ops Q rest σ (R.set k B)) : TO F P w0 K N dfs ops Q rest σ L := fun a w ha hw => h a w ha (hw.fold1 hk hs hR hE)
theorem TC.fold1 (hk : L[k]? = some A) (hs : Splits (L.set k emp) As R) (hR : R[k]? = some emp) (hE : ∀ C w, sepL (A :: As) C w → B.P C w) (h : TC F P w0 K N dfs Q c σ (R.set k B)) : TC F P w0 K N dfs Q c σ L := fun a w ha hw => h a w ha (hw.fold1 hk hs hR hE)
theorem TX.fold1 (hk : L[k]? = some A) (hs : Splits (L.set k emp) As R) (hR : R[k]? = some emp) (hE : ∀ C w, sepL (A :: As) C w → B.P C w) (h : TX w0 K N dfs Q ex σ (R.set k B)) : TX w0 K N dfs Q ex σ L := fun a w ha hw => h a w ha (hw.fold1 hk hs hR hE)
theorem TO.unfold1 {I : β → Prop} {Bf : β → Asn} {Bs : β → List Asn} (hk : L[k]? = some A) (hE : ∀ C w, A.P C w → ∃ b, I b ∧ sepL (Bf b :: Bs b) C w) (h : ∀ b, I b → TO F P w0 K N dfs ops Q rest σ (L.set k (Bf b) ++ Bs b)) : TO F P w0 K N dfs ops Q rest σ L := fun a w ha hw => by
  obtain ⟨b, hI, hb⟩ := hw.unfold1 hk hE; exact h b hI a w ha hb
theorem TC.unfold1 {I : β → Prop} {Bf : β → Asn} {Bs : β → List Asn} (hk : L[k]? = some A) (hE : ∀ C w, A.P C w → ∃ b, I b ∧ sepL (Bf b :: Bs b) C w) (h : ∀ b, I b → TC F P w0 K N dfs Q c σ (L.set k (Bf b) ++ Bs b)) : TC F P w0 K N dfs Q c σ L := fun a w ha hw => by
  obtain ⟨b, hI, hb⟩ := hw.unfold1 hk hE; exact h b hI a w ha hb
theorem TX.unfold1 {I : β → Prop} {Bf : β → Asn} {Bs : β → List Asn} (hk : L[k]? = some A) (hE : ∀ C w, A.P C w → ∃ b, I b ∧ sepL (Bf b :: Bs b) C w) (h : ∀ b, I b → TX w0 K N dfs Q ex σ (L.set k (Bf b) ++ Bs b)) : TX w0 K N dfs Q ex σ L := fun a w ha hw => by
  obtain ⟨b, hI, hb⟩ := hw.unfold1 hk hE; exact h b hI a w ha hb
end
section
variable {F : Fence} {P : Program} {w0 : World} {K : Nat → Prop} {N : Nat} {dfs : List Deferred} {ops : Array Oper} {Q : Exit → Act → World → Prop} {rest : List Oper} {c : Code} {ex : Exit} {σ : List (Nat × Value)} {L As R : List Asn} {k : Nat}
  {α η : Type} {enc : α × η → List Value} {nest : α × η → List Asn} {e : TypeId} {size : Nat} {v : Value} {xs : List α} {zs zs' : List (α × η)} {z z' : α × η} {i : Nat} {x x' : α} {h h' : η}
/-- What the records zs own. -/
def own (nest : α × η → List Asn) (zs : List (α × η)) : Asn := star (zs.flatMap nest)
theorem openE (C : Nat → Prop) (w : World) (h : (vecN enc nest e size v xs).P C w) : ∃ zs : List (α × η), zs.map Prod.fst = xs ∧ sepL (vec enc e size v zs :: [own nest zs]) C w := by
  obtain ⟨⟨zs, hz⟩, h⟩ := h; exact ⟨zs, hz, h⟩
theorem closeE (hz : zs.map Prod.fst = xs) (C : Nat → Prop) (w : World) (h : sepL (vec enc e size v zs :: [own nest zs]) C w) : (vecN enc nest e size v xs).P C w := ⟨⟨zs, hz⟩, h⟩
theorem pullE (hz : zs[i]? = some z) (C : Nat → Prop) (w : World) (h : (own nest zs).P C w) : ∃ _u : Unit, True ∧ sepL (own nest (zs.eraseIdx i) :: nest z) C w := by
  obtain ⟨C1, C2, h1, h2, h3, h4⟩ := (sepL.pull hz).1 h
  exact ⟨(), trivial, C2, C1, h2, h1, fun k a b => h3 k b a, fun k => by rw [h4]; exact Or.comm⟩
theorem pushE (hz : zs'[i]? = some z) (he : zs'.eraseIdx i = zs.eraseIdx i) (C : Nat → Prop) (w : World) (h : sepL (own nest (zs.eraseIdx i) :: nest z) C w) : (own nest zs').P C w := by
  obtain ⟨C1, C2, h1, h2, h3, h4⟩ := h
  exact (sepL.pull hz).2 ⟨C2, C1, h2, by rw [he]; exact h1, fun k a b => h3 k b a, fun k => by rw [h4]; exact Or.comm⟩
theorem ownApp (C : Nat → Prop) (w : World) (h : sepL (own nest zs :: nest z) C w) : (own nest (zs ++ [z])).P C w := by
  obtain ⟨C1, C2, h1, h2, h3, h4⟩ := h
  show sepL ((zs ++ [z]).flatMap nest) C w
  rw [List.flatMap_append, List.flatMap_cons, List.flatMap_nil, List.append_nil]
  exact sepL.append' h1 h2 h3 h4
theorem getO_z {i : Int} (hz : zs.map Prod.fst = xs) (hq : getO xs i = some x) : ∃ h, getO zs i = some (x, h) := by
  subst hz
  unfold getO at hq ⊢
  split at hq
  · rename_i h0
    rw [if_pos h0]
    rw [List.getElem?_map] at hq
    obtain ⟨z, h1, h2⟩ := Option.map_eq_some_iff.1 hq
    exact ⟨z.2, by rw [h1, ← h2]⟩
  · cases hq
theorem zlen (hz : zs.map Prod.fst = xs) : zs.length = xs.length := by rw [← hz, List.length_map]
theorem zset (hz : zs.map Prod.fst = xs) : (zs.set i (x', h)).map Prod.fst = xs.set i x' := by rw [List.map_set, hz]
theorem zapp (hz : zs.map Prod.fst = xs) : (zs ++ [(x, h)]).map Prod.fst = xs ++ [x] := by rw [List.map_append, hz]; rfl
theorem set_get (hz : zs[i]? = some z) : (zs.set i z')[i]? = some z' := by
  have := (List.getElem?_eq_some_iff.1 hz).1; simp [this]
theorem set_erase : (zs.set i z').eraseIdx i = zs.eraseIdx i := List.eraseIdx_set_eq
variable {d : Nat} {ty : TypeId} {pos : String} {aft : Array Edge} {g : Option (Nat × Bool)} {o : Operand}
theorem TO.lenVwZ [WideF F] {tt te : TypeId} {Ls : List (α × η)} {vv : Value} {j : Nat} (hz : zs.map Prod.fst = xs) (hV : Vw vv Ls size j v zs) (hg : gd ops σ g = some true) (hd : d < N) (hx : ev σ o = some v) (ht : P.underlying tt = some (.slice te))
    (h : TO F P w0 K N dfs ops Q rest ((d, .int .i64 (xs.length : Int)) :: σ) L) : TO F P w0 K N dfs ops Q (⟨some d, .call { callee := .builtin .len, args := #[o], argTypes := #[tt] }, ty, pos, aft, g⟩ :: rest) σ L :=
  TO.lenVw hV hg hd hx ht (by rw [zlen hz]; exact h)
theorem TC.nameHd {ε : Type} {enc1 : ε → List Value} {ys : List ε} (hk : L[k]? = some (vec enc1 e size v ys)) (hh : ∀ hd : Hd, v = hd.v → TC F P w0 K N dfs Q c σ L) : TC F P w0 K N dfs Q c σ L := fun a w ha hw => by
  obtain ⟨C, hv, _⟩ := hw.focus hk
  obtain ⟨q, cc, he⟩ := Vec.len hv
  exact hh ⟨q, ys.length, cc⟩ he a w ha hw
theorem TC.newByt (h : TC F P w0 K N dfs Q c σ (L ++ [byt e (.slice none 0 0) ⟨#[]⟩])) : TC F P w0 K N dfs Q c σ L := fun a w ha hw =>
  h a w ha (hw.grow (C' := fun _ => False) (Ext.refl _ _) (sepL.one (A := byt e (.slice none 0 0) ⟨#[]⟩) Byt.nil))
theorem TX.newN (hh : TX w0 K N dfs Q ex σ (L ++ [vecN enc nest e size (.slice none 0 0) ([] : List α)])) : TX w0 K N dfs Q ex σ L := fun a w ha hw =>
  hh a w ha (hw.grow (C' := fun _ => False) (Ext.refl _ _) (by obtain ⟨_, _, h⟩ := Entl.nilN (enc := enc) (nest := nest) (e := e) (size := size) (fun _ => False) w (fun _ h => h); exact h))
theorem TC.newN (hh : TC F P w0 K N dfs Q c σ (L ++ [vecN enc nest e size (.slice none 0 0) ([] : List α)])) : TC F P w0 K N dfs Q c σ L := fun a w ha hw =>
  hh a w ha (hw.grow (C' := fun _ => False) (Ext.refl _ _) (by obtain ⟨_, _, h⟩ := Entl.nilN (enc := enc) (nest := nest) (e := e) (size := size) (fun _ => False) w (fun _ h => h); exact h))
theorem TO.newN (hh : TO F P w0 K N dfs ops Q rest σ (L ++ [vecN enc nest e size (.slice none 0 0) ([] : List α)])) : TO F P w0 K N dfs ops Q rest σ L := fun a w ha hw =>
  hh a w ha (hw.grow (C' := fun _ => False) (Ext.refl _ _) (by obtain ⟨_, _, h⟩ := Entl.nilN (enc := enc) (nest := nest) (e := e) (size := size) (fun _ => False) w (fun _ h => h); exact h))
theorem flat_setE {ε : Type} {enc1 : ε → List Value} {q1 q2 : ε} (he : enc1 q1 = enc1 q2) : ∀ (ys : List ε) (i : Nat), (ys.set i q1).flatMap enc1 = (ys.set i q2).flatMap enc1
  | [], i => rfl
  | y :: ys, 0 => by simp [he]
  | y :: ys, i + 1 => by simp [flat_setE he ys i]
/-- What is not to be seen in the cells may differ. -/
theorem vec_setE {ε : Type} {enc1 : ε → List Value} {ys zs : List ε} {q1 q2 : ε} (hz : zs = ys.set i q1) (hlen : ∀ x, (enc1 x).length = size) (he : enc1 q1 = enc1 q2) : Ent (vec enc1 e size v zs) (vec enc1 e size v (ys.set i q2)) := by
  subst hz
  rintro C w ⟨h1, h3⟩
  refine ⟨?_, h3⟩
  have hf := flat_setE he ys i
  have hl : (ys.set i q1).length = (ys.set i q2).length := by simp
  unfold Rw at h1 ⊢
  rw [← hf, ← hl]; exact h1
/-- A slice of one record that was a box is a box again. -/
theorem boxE {b : Nat} {ε : Type} {enc1 : ε → List Value} {y : ε} (hlen : ∀ x, (enc1 x).length = size) : Ent (vec enc1 e size (.slice (some ⟨b, 0, none⟩) 1 1) [y]) (cells b (enc1 y) e) := by
  intro C w h
  obtain ⟨_, _, h'⟩ := Entl.fromVec (enc1 := enc1) (e := e) (size := size) (b := b) (y := y) hlen C w (sepL.one1.2 h)
  exact sepL.one1.1 h'
end
end Go.Proofs.Ytlamcpgnmeileaa
namespace Go.Proofs.Ytlamcpgnmeileaa
open Go.RowKit Go.Lib Go.MapKept
set_option linter.unusedVariables false
set_option linter.unusedSimpArgs false
/-- A map in plain Lean: the last that is put is found. -/
def getM {κ ν : Type} [DecidableEq κ] (k : κ) : List (κ × ν) → Option ν
  | [] => none
  | p :: l => if k = p.1 then some p.2 else getM k l
def putM {κ ν : Type} [DecidableEq κ] (k : κ) (v : ν) : List (κ × ν) → List (κ × ν)
  | [] => [(k, v)]
  | p :: l => if k = p.1 then (k, v) :: l else p :: putM k v l
def idxM {κ : Type} [DecidableEq κ] (k : κ) : List κ → Nat → Option Nat
  | [], _ => none
  | p :: l, i => if k = p then some i else idxM k l (i + 1)
/-- What is asked of keys. -/
structure KeyOk (P : Program) (kt : TypeId) {κ : Type} [DecidableEq κ] (ek : κ → Value) : Prop where
  check : ∀ em k (w : World), (Instr.checkKey em 10000 kt (ek k)).run P w = .ok () w
  find : ∀ (es : List MapEntry) (ks : List κ) k (w : World), es.map (·.key) = ks.map ek → (Instr.findKey kt (ek k) es).run P w = .ok ((idxM k ks 0).map fun i => (i, ((es[i]?).map (·.val)).getD default)) w
  same : ∀ k, Instr.sameBits 10000 (ek k) (ek k) = true
theorem idxM_succ {κ : Type} [DecidableEq κ] (k : κ) : ∀ (l : List κ) (i : Nat), idxM k l (i + 1) = (idxM k l i).map (· + 1)
  | [], i => rfl
  | p :: l, i => by unfold idxM; split <;> simp [idxM_succ k l (i + 1)]
theorem find_cons {κ : Type} [DecidableEq κ] (k p : κ) (e : MapEntry) (es : List MapEntry) (ks : List κ) (n : Nat) :
    ((idxM k (p :: ks) 0).map fun i => (i + n, (((e :: es)[i]?).map (·.val)).getD default)) = if k = p then some (n, e.val) else (idxM k ks 0).map fun i => (i + (n + 1), ((es[i]?).map (·.val)).getD default) := by
  have e : idxM k (p :: ks) 0 = if k = p then some 0 else idxM k ks (0 + 1) := rfl
  rw [e]
  split
  · simp
  · rw [idxM_succ, Option.map_map]; congr 1; funext i; simp [Nat.add_assoc, Nat.add_comm 1 n]
theorem KeyOk.int {P : Program} {kt : TypeId} {kd : IntKind} (h : P.underlying kt = some (.int kd)) : KeyOk P kt (fun n : Int => Value.int kd n) where
  check := fun em k w => run_checkKey h (show IsKey (.int kd) (.int kd k) by simp [IsKey]) em 9999
  find := fun es ks k w hk => run_findKey h (by
    have : ∀ (es : List MapEntry) (ks : List Int) (n : Nat), es.map (·.key) = ks.map (fun n : Int => Value.int kd n) → Instr.findNow (.int kd) (.int kd k) es n = some ((idxM k ks 0).map fun i => (i + n, ((es[i]?).map (·.val)).getD default)) := by
      intro es
      induction es with
      | nil => intro ks n h; cases ks with
        | nil => rfl
        | cons _ _ => simp at h
      | cons e es ih => intro ks n h; cases ks with
        | nil => simp at h
        | cons p ks =>
          simp only [List.map_cons, List.cons.injEq] at h
          rw [find_cons]
          have hs : Instr.sameNow (.int kd) (.int kd k) e.key = some (k == p) := by rw [h.1]; simp [Instr.sameNow]
          unfold Instr.findNow
          rw [hs]
          by_cases hp : k = p
          · subst hp; simp
          · have : (k == p) = false := by simpa using hp
            rw [this, if_neg hp]; exact ih ks (n + 1) h.2
    exact this es ks 0 hk)
  same := fun k => by simp [Instr.sameBits]
/-- A pair of numbers as an array. -/
theorem part_int0 {P : Program} {t : TypeId} {kd : IntKind} {xs : Array Value} {j : Nat} {v : Value} {w : World} (h : P.underlying t = some (.int kd)) (hv : xs[j]? = some v) : (part t xs j).run P w = .ok v w := by
  simp [part, Sem.run_bind, run_underlying h, hv, isAgg]
theorem run_equal_arr2 {P : Program} {t e : TypeId} {kd : IntKind} (ht : P.underlying t = some (.array 2 e)) (he : P.underlying e = some (.int kd)) (hs : SizeOk P e 1) {a b a' b' : Int} (w : World) :
    (Op.equalIn 10000 t (.agg #[.int kd a, .int kd b]) (.agg #[.int kd a', .int kd b'])).run P w = .ok (a == a' && b == b') w := by
  obtain ⟨i, hi, hsz⟩ := hs.some
  have h1 : ∀ (d : Nat) (x y : Int), (Op.equalIn (d + 1) e (.int kd x) (.int kd y)).run P w = .ok (x == y) w := fun d x y => run_equalIn_int w d e kd kd x y he
  have p1 : ∀ (x y : Int), (part e #[.int kd x, .int kd y] 0).run P w = .ok (.int kd x) w := fun x y => part_int0 he rfl
  have p2 : ∀ (x y : Int), (part e #[.int kd x, .int kd y] 1).run P w = .ok (.int kd y) w := fun x y => part_int0 he rfl
  have hc : P.cellsOf e = 1 := by simp [Program.cellsOf, hi, hsz]
  have key : ∀ d : Nat, (Op.equalIn (d + 1 + 1) t (.agg #[.int kd a, .int kd b]) (.agg #[.int kd a', .int kd b'])).run P w = .ok (a == a' && b == b') w := fun d => by
    unfold Op.equalIn
    simp only [Sem.run_bind, run_underlying ht, Result.andThen_ok, run_sizeOf w hi]
    simp only [Std.Legacy.Range.forIn_eq_forIn_range', Std.Legacy.Range.size, Nat.sub_zero, Nat.add_one_sub_one, Nat.div_one, hsz, List.range'_succ, List.range'_zero, List.forIn_cons, List.forIn_nil, Sem.run_bind, Result.andThen_ok, Nat.zero_mul, Nat.zero_add, Nat.one_mul, p1, p2, h1, Nat.mul_one]
    cases h : (a == a') <;> cases h2 : (b == b') <;> simp [Sem.run_bind, p1, p2, h1, h, h2, hc]
  exact key 9998
theorem KeyOk.arr2 {P : Program} {kt e : TypeId} {kd : IntKind} {κ : Type} [DecidableEq κ] {f0 f1 : κ → Int} (hinj : ∀ a b : κ, f0 a = f0 b → f1 a = f1 b → a = b)
    (ht : P.underlying kt = some (.array 2 e)) (he : P.underlying e = some (.int kd)) (hs : SizeOk P e 1) : KeyOk P kt (fun p : κ => Value.agg #[.int kd (f0 p), .int kd (f1 p)]) where
  check := fun em k w => by
    obtain ⟨i, hi, hsz⟩ := hs.some
    have hc : P.cellsOf e = 1 := by simp [Program.cellsOf, hi, hsz]
    have h1 : ∀ (n : Nat) (x : Int), (Instr.checkKey em (n + 1) e (.int kd x)).run P w = .ok () w := fun n x => run_checkKey he (show IsKey (.int kd) (.int kd x) by simp [IsKey]) em n
    have p1 : ∀ (x y : Int), (part e #[.int kd x, .int kd y] 0).run P w = .ok (.int kd x) w := fun x y => part_int0 he rfl
    have p2 : ∀ (x y : Int), (part e #[.int kd x, .int kd y] 1).run P w = .ok (.int kd y) w := fun x y => part_int0 he rfl
    have key : ∀ n : Nat, (Instr.checkKey em (n + 1 + 1) kt (.agg #[.int kd (f0 k), .int kd (f1 k)])).run P w = .ok () w := fun n => by
      unfold Instr.checkKey
      simp only [Sem.run_bind, run_underlying ht, Result.andThen_ok]
      simp only [Std.Legacy.Range.forIn_eq_forIn_range', Std.Legacy.Range.size, Nat.sub_zero, Nat.add_one_sub_one, Nat.div_one, List.range'_succ, List.range'_zero, List.forIn_cons, List.forIn_nil, Sem.run_bind, run_sizeOf w hi, hsz, Result.andThen_ok, Nat.zero_mul, Nat.zero_add, Nat.one_mul, p1, p2, h1, Nat.mul_one]
      simp [Sem.run_bind, run_sizeOf w hi, hsz, p1, p2, h1, hc]
    exact key 9998
  find := fun es ks k w hk => by
    have hA : ∀ (es : List MapEntry) (ks : List κ) (n : Nat), es.map (·.key) = ks.map (fun p : κ => Value.agg #[.int kd (f0 p), .int kd (f1 p)]) → (Instr.findAsking kt (.agg #[.int kd (f0 k), .int kd (f1 k)]) es n).run P w = .ok ((idxM k ks 0).map fun i => (i + n, ((es[i]?).map (·.val)).getD default)) w := by
      intro es
      induction es with
      | nil => intro ks n h; cases ks with
        | nil => rfl
        | cons _ _ => simp at h
      | cons e' es ih => intro ks n h; cases ks with
        | nil => simp at h
        | cons p ks =>
          simp only [List.map_cons, List.cons.injEq] at h
          rw [find_cons]
          unfold Instr.findAsking
          rw [h.1]
          have he2 : (Op.equal kt (.agg #[.int kd (f0 k), .int kd (f1 k)]) (.agg #[.int kd (f0 p), .int kd (f1 p)])).run P w = .ok (f0 k == f0 p && f1 k == f1 p) w := run_equal_arr2 ht he hs w
          simp only [Sem.run_bind, he2, Result.andThen_ok]
          by_cases hp : k = p
          · subst hp; simp
          · have : (f0 k == f0 p && f1 k == f1 p) = false := by
              cases h' : (f0 k == f0 p && f1 k == f1 p) with
              | false => rfl
              | true => simp at h'; exact absurd (hinj _ _ h'.1 h'.2) hp
            rw [this, if_neg hp]; exact ih ks (n + 1) h.2
    have hA := hA es ks 0 hk
    unfold Instr.findKey
    simp only [Sem.run_bind, run_underlying ht, Result.andThen_ok]
    cases es with
    | nil => cases ks with
      | nil => rfl
      | cons _ _ => simp at hk
    | cons e' es => cases ks with
      | nil => simp at hk
      | cons p ks =>
        simp only [List.map_cons, List.cons.injEq] at hk
        have : Instr.findNow (.array 2 e) (.agg #[.int kd (f0 k), .int kd (f1 k)]) (e' :: es) 0 = none := by
          unfold Instr.findNow; rw [hk.1]; rfl
        rw [this]; exact hA
  same := fun k => by simp [Instr.sameBits]
/-- The map b holds L. -/
def mapA {κ ν : Type} (ek : κ → Value) (ev : ν → Value) (b : Nat) (L : List (κ × ν)) : Asn :=
  exA fun z : {z : Array MapEntry × Nat // z.1.toList.map (fun e => (e.key, e.val)) = L.map (fun p => (ek p.1, ev p.2))} => obj b (.map z.1.1 z.1.2)
theorem getM_idx {κ ν : Type} [DecidableEq κ] (k : κ) : ∀ (L : List (κ × ν)), ((idxM k (L.map Prod.fst) 0).bind fun i => (L[i]?).map Prod.snd) = getM k L
  | [] => rfl
  | p :: L => by
    have e : idxM k ((p :: L).map Prod.fst) 0 = if k = p.1 then some 0 else idxM k (L.map Prod.fst) (0 + 1) := rfl
    rw [e]; unfold getM
    split
    · simp
    · rw [idxM_succ, ← getM_idx k L]; cases idxM k (L.map Prod.fst) 0 <;> simp
theorem idxM_lt {κ : Type} [DecidableEq κ] (k : κ) : ∀ (L : List κ) (i n : Nat), idxM k L i = some n → i ≤ n ∧ n < i + L.length ∧ L[n - i]? = some k
  | [], i, n, h => by cases h
  | p :: L, i, n, h => by
    unfold idxM at h
    split at h
    · rename_i hp; cases h; subst hp; simp
    · obtain ⟨h1, h2, h3⟩ := idxM_lt k L (i + 1) n h
      refine ⟨by omega, by simp; omega, ?_⟩
      rw [show n - i = (n - (i + 1)) + 1 by omega]; simpa using h3
theorem putM_idx {κ ν : Type} [DecidableEq κ] (k : κ) (v : ν) : ∀ (L : List (κ × ν)), putM k v L = match idxM k (L.map Prod.fst) 0 with | some i => L.set i (k, v) | none => L ++ [(k, v)]
  | [] => rfl
  | p :: L => by
    have e : idxM k ((p :: L).map Prod.fst) 0 = if k = p.1 then some 0 else idxM k (L.map Prod.fst) (0 + 1) := rfl
    rw [e]; unfold putM
    by_cases h : k = p.1
    · rw [if_pos h, if_pos h]; rfl
    · rw [if_neg h, if_neg h, idxM_succ, putM_idx k v L]; cases idxM k (L.map Prod.fst) 0 <;> rfl
section
variable {F : Fence} {P : Program} {w0 : World} {K : Nat → Prop} {N : Nat} {dfs : List Deferred} {ops : Array Oper} {Q : Exit → Act → World → Prop} {rest : List Oper} {σ : List (Nat × Value)} {L : List Asn}
  {d : Nat} {ty : TypeId} {pos : String} {aft : Array Edge} {g : Option (Nat × Bool)} {x y z : Operand} {k b : Nat} {κ ν : Type} [DecidableEq κ] {ek : κ → Value} {ev' : ν → Value} {mt kt et : TypeId} {M : List (κ × ν)}
omit [DecidableEq κ] in
theorem TO.makeMap [WideF F] (ek : κ → Value) (ev' : ν → Value) (hg : gd ops σ g = some true) (hd : d < N)
    (h : ∀ b, TO F P w0 K N dfs ops Q rest ((d, .map (some b)) :: σ) (L ++ [mapA ek ev' b []])) : TO F P w0 K N dfs ops Q (⟨some d, .makeMap mt none, ty, pos, aft, g⟩ :: rest) σ L :=
  TO.step hg (by simp) fun a w ha hw => ⟨.map (some w.heap.size), w.alloc (.map #[] 0), by simp [execOp, Instr.makeMap, Sem.run_bind], h _ _ _ (ha.put hd _) (by
    have h1 := hw.alloc (.map #[] 0)
    have h2 := h1.ent (k := L.length) (A := obj w.heap.size (.map #[] 0)) (B := mapA ek ev' w.heap.size []) (by simp) (fun C w' hp => ⟨⟨(#[], 0), rfl⟩, hp⟩)
    simpa using h2)⟩
theorem TO.mapUpdate [WideF F] {kk : κ} {vv : ν} (hK : KeyOk P kt ek) (ht : P.underlying mt = some (.map kt et)) (hg : gd ops σ g = some true) (hx : ev σ x = some (.map (some b))) (hy : ev σ y = some (ek kk)) (hz : ev σ z = some (ev' vv))
    (hk : L[k]? = some (mapA ek ev' b M)) (h : TO F P w0 K N dfs ops Q rest σ (L.set k (mapA ek ev' b (putM kk vv M)))) : TO F P w0 K N dfs ops Q (⟨none, .mapUpdate mt x y z, ty, pos, aft, g⟩ :: rest) σ L :=
  TO.stepSkip hg (by simp) fun a w ha hw => by
    obtain ⟨C1, ⟨⟨⟨es, clock⟩, hes⟩, hC, hb⟩, hset⟩ := hw.focus hk
    have hb : w.heap[b]? = some (.map es clock) := hb
    have hes : es.toList.map (fun e => (e.key, e.val)) = M.map (fun p => (ek p.1, ev' p.2)) := hes
    have hkeys : es.toList.map (·.key) = (M.map Prod.fst).map ek := by
      have := congrArg (List.map Prod.fst) hes
      simpa [List.map_map, Function.comp_def] using this
    have hfind := hK.find es.toList (M.map Prod.fst) kk w hkeys
    have hput := putM_idx kk vv M
    have hlen : es.toList.length = M.length := by have := congrArg List.length hes; simpa using this
    have fin : ∀ o' : Obj, (∀ C' w', (∀ k, C' k ↔ k = b) → w'.heap[b]? = some o' → (mapA ek ev' b (putM kk vv M)).P C' w') → Holds w0 K (L.set k (mapA ek ev' b (putM kk vv M))) (w.putObj b o') := fun o' ho =>
      hset _ C1 _ ⟨(Fr.refl _ _).putObj (.inl ((hC b).2 rfl)) _, fun k hk => .inl hk⟩ (ho _ _ hC (World.putObj_heap_same (lt_of_some hb)))
    have ex := ha.ev hx; have ey := ha.ev hy; have ez := ha.ev hz
    cases hi : idxM kk (M.map Prod.fst) 0 with
    | none =>
      rw [hi] at hfind hput
      refine ⟨w.putObj b (.map (es.push { key := ek kk, val := ev' vv, born := clock }) (clock + 1)), ?_, h _ _ ha (fin _ fun C' w' h1 h2 => ⟨⟨(_, _), ?_⟩, h1, h2⟩)⟩
      · simp [execOp, ex, ey, ez, Instr.mapUpdate, run_underlying ht, Go.MapKept.run_getObj_map hb, hK.check, hfind, run_setObj_map _ hb, Sem.run_bind, World.putObj]
      · simp [hput, hes]
    | some i =>
      rw [hi] at hfind hput
      obtain ⟨_, h2, h3⟩ := idxM_lt kk _ _ _ hi
      simp at h2
      have h3 : (M.map Prod.fst)[i]? = some kk := by simpa using h3
      have hie : i < es.toList.length := by omega
      have hkey : (es[i]?).map (·.key) = some (ek kk) := by
        have := congrArg (fun l => l[i]?) hkeys
        simp only [List.getElem?_map] at this
        rw [show es[i]? = es.toList[i]? by simp, this]
        have h4 : M[i]?.map Prod.fst = some kk := by simpa using h3
        rw [h4]; rfl
      refine ⟨w.putObj b (.map (es.modify i fun e => { e with key := ek kk, val := ev' vv }) clock), ?_, h _ _ ha (fin _ fun C' w' h1 h2 => ⟨⟨(es.modify i fun e => { e with key := ek kk, val := ev' vv }, clock), ?_⟩, h1, h2⟩)⟩
      · have hst : (Instr.keyThatStays (ek kk) (ek kk)).run P w = .ok (ek kk) w := by simp [Instr.keyThatStays, hK.same]
        simp [execOp, ex, ey, ez, Instr.mapUpdate, run_underlying ht, Go.MapKept.run_getObj_map hb, hK.check, hfind, hkey, hst, run_setObj_map _ hb, Sem.run_bind, World.putObj]
      · show List.map (fun e => (e.key, e.val)) (es.modify i fun e => { e with key := ek kk, val := ev' vv }).toList = _
        rw [hput]
        apply List.ext_getElem?
        intro j
        have hj := congrArg (fun l => l[j]?) hes
        simp only [List.getElem?_map] at hj
        simp only [Array.toList_modify, List.getElem?_map, List.getElem?_modify, List.getElem?_set]
        by_cases hji : i = j
        · subst hji
          have h5 : es.toList[i]? = some es.toList[i] := List.getElem?_eq_getElem hie
          simp [h5, show i < M.length by omega] 
        · simp [hji]; simpa using hj
theorem TO.lookupOk [WideF F] {kk : κ} {z0 : ν} (hK : KeyOk P kt ek) (ht : P.underlying mt = some (.map kt et)) (hz0 : (P.info? et).bind (fun i => i.zero) = some (ev' z0)) (hg : gd ops σ g = some true) (hd : d < N) (hx : ev σ x = some (.map (some b))) (hy : ev σ y = some (ek kk))
    (hk : L[k]? = some (mapA ek ev' b M)) (h : TO F P w0 K N dfs ops Q rest ((d, .tuple #[ev' ((getM kk M).getD z0), .bool (getM kk M).isSome]) :: σ) L) : TO F P w0 K N dfs ops Q (⟨some d, .lookup mt x y true, ty, pos, aft, g⟩ :: rest) σ L :=
  TO.val hg hd (by simp) (fun a w ha hw => by
    obtain ⟨C1, ⟨⟨⟨es, clock⟩, hes⟩, hC, hb⟩, hset⟩ := hw.focus hk
    have hb : w.heap[b]? = some (.map es clock) := hb
    have hes : es.toList.map (fun e => (e.key, e.val)) = M.map (fun p => (ek p.1, ev' p.2)) := hes
    have hkeys : es.toList.map (·.key) = (M.map Prod.fst).map ek := by
      have := congrArg (List.map Prod.fst) hes
      simpa [List.map_map, Function.comp_def] using this
    have hfind := hK.find es.toList (M.map Prod.fst) kk w hkeys
    have ex := ha.ev hx; have ey := ha.ev hy
    have hzero : (zeroValue et).run P w = .ok (ev' z0) w := by
      cases hi : P.info? et with
      | none => rw [hi] at hz0; cases hz0
      | some i =>
        rw [hi] at hz0
        have hz1 : i.zero = some (ev' z0) := hz0
        simp [zeroValue, typeInfo, hi, hz1, Sem.run_bind]
    rw [← getM_idx kk M]
    cases hi : idxM kk (M.map Prod.fst) 0 with
    | none =>
      rw [hi] at hfind
      simp [execOp, ex, ey, Instr.lookup, run_underlying ht, Go.MapKept.run_getObj_map hb, hK.check, hfind, hzero, Sem.run_bind]
    | some i =>
      rw [hi] at hfind
      obtain ⟨_, h2, h3⟩ := idxM_lt kk _ _ _ hi
      simp at h2
      have hj := congrArg (fun l => (l[i]?).map Prod.snd) hes
      simp only [List.getElem?_map, Option.map_map, Function.comp_def] at hj
      have hM : M[i]? = some M[i] := List.getElem?_eq_getElem h2
      have hv : (es.toList[i]?).map (·.val) = some (ev' M[i].2) := by rw [hj, hM]; rfl
      have hv2 : (es[i]?).map (·.val) = some (ev' M[i].2) := by simpa using hv
      simp [execOp, ex, ey, Instr.lookup, run_underlying ht, Go.MapKept.run_getObj_map hb, hK.check, hfind, hv2, hM, Sem.run_bind]) h
end
end Go.Proofs.Ytlamcpgnmeileaa
namespace Go.Proofs.Ytlamcpgnmeileaa
open Go.RowKit Go.Lib Go.Shelf
theorem sc_3 : ScalarOk Try.prog 3 := ⟨_, Try.underlying3, rfl⟩
theorem sz_3 : SizeOk Try.prog 3 1 := by unfold SizeOk; as_aux_lemma => kernel_rfl
theorem zr_3 : ZeroOk Try.prog 3 [.int .i64 0] := by unfold ZeroOk; as_aux_lemma => kernel_rfl
theorem sc_4 : ScalarOk Try.prog 4 := ⟨_, Try.underlying4, rfl⟩
theorem sz_4 : SizeOk Try.prog 4 1 := by unfold SizeOk; as_aux_lemma => kernel_rfl
theorem zr_4 : ZeroOk Try.prog 4 [.bool false] := by unfold ZeroOk; as_aux_lemma => kernel_rfl
theorem sc_5 : ScalarOk Try.prog 5 := ⟨_, Try.underlying5, rfl⟩
theorem by_5 : ByteOk Try.prog 5 := ByteOk.mk' (by as_aux_lemma => kernel_rfl)
theorem sc_9 : ScalarOk Try.prog 9 := ⟨_, Try.underlying9, rfl⟩
theorem sc_21 : ScalarOk Try.prog 21 := ⟨_, Try.underlying21, rfl⟩
theorem sz_21 : SizeOk Try.prog 21 1 := by unfold SizeOk; as_aux_lemma => kernel_rfl
theorem el_21 : ElemOk Try.prog 21 1 := ElemOk.mk' (by as_aux_lemma => kernel_rfl)
theorem rw_26 : RowOk Try.prog 26 2 := ⟨_, Try.underlying26, rfl, by as_aux_lemma => kernel_rfl⟩
theorem fl_26_0 : FieldOk Try.prog 26 0 0 := ⟨_, _, Try.underlying26, rfl, rfl, by as_aux_lemma => kernel_rfl⟩
theorem fl_26_1 : FieldOk Try.prog 26 1 1 := ⟨_, _, Try.underlying26, rfl, rfl, by as_aux_lemma => kernel_rfl⟩
theorem sz_26 : SizeOk Try.prog 26 2 := by unfold SizeOk; as_aux_lemma => kernel_rfl
theorem zr_26 : ZeroOk Try.prog 26 [.int .i64 0, .int .i64 0] := by unfold ZeroOk; as_aux_lemma => kernel_rfl
theorem el_26 : ElemOk Try.prog 26 2 := ElemOk.mk' (by as_aux_lemma => kernel_rfl)
theorem sc_33 : ScalarOk Try.prog 33 := ⟨_, Try.underlying33, rfl⟩
theorem sz_33 : SizeOk Try.prog 33 1 := by unfold SizeOk; as_aux_lemma => kernel_rfl
theorem zr_33 : ZeroOk Try.prog 33 [.slice none 0 0] := by unfold ZeroOk; as_aux_lemma => kernel_rfl
theorem sc_37 : ScalarOk Try.prog 37 := ⟨_, Try.underlying37, rfl⟩
theorem sc_42 : ScalarOk Try.prog 42 := ⟨_, Try.underlying42, rfl⟩
theorem sz_42 : SizeOk Try.prog 42 1 := by unfold SizeOk; as_aux_lemma => kernel_rfl
theorem zr_42 : ZeroOk Try.prog 42 [.slice none 0 0] := by unfold ZeroOk; as_aux_lemma => kernel_rfl
theorem sc_44 : ScalarOk Try.prog 44 := ⟨_, Try.underlying44, rfl⟩
theorem sz_44 : SizeOk Try.prog 44 1 := by unfold SizeOk; as_aux_lemma => kernel_rfl
theorem rw_46 : RowOk Try.prog 46 5 := ⟨_, Try.underlying46, rfl, by as_aux_lemma => kernel_rfl⟩
theorem fl_46_1 : FieldOk Try.prog 46 1 1 := ⟨_, _, Try.underlying46, rfl, rfl, by as_aux_lemma => kernel_rfl⟩
theorem fl_46_2 : FieldOk Try.prog 46 2 2 := ⟨_, _, Try.underlying46, rfl, rfl, by as_aux_lemma => kernel_rfl⟩
theorem fl_46_3 : FieldOk Try.prog 46 3 3 := ⟨_, _, Try.underlying46, rfl, rfl, by as_aux_lemma => kernel_rfl⟩
theorem fl_46_4 : FieldOk Try.prog 46 4 4 := ⟨_, _, Try.underlying46, rfl, rfl, by as_aux_lemma => kernel_rfl⟩
theorem sz_46 : SizeOk Try.prog 46 5 := by unfold SizeOk; as_aux_lemma => kernel_rfl
theorem zr_46 : ZeroOk Try.prog 46 [.int .i64 0, .int .u8 0, .int .i32 0, .slice none 0 0, .slice none 0 0] := by unfold ZeroOk; as_aux_lemma => kernel_rfl
theorem el_46 : ElemOk Try.prog 46 5 := ElemOk.mk' (by as_aux_lemma => kernel_rfl)
theorem rw_55 : RowOk Try.prog 55 4 := ⟨_, Try.underlying55, rfl, by as_aux_lemma => kernel_rfl⟩
theorem fl_55_0 : FieldOk Try.prog 55 0 0 := ⟨_, _, Try.underlying55, rfl, rfl, by as_aux_lemma => kernel_rfl⟩
theorem fl_55_1 : FieldOk Try.prog 55 1 1 := ⟨_, _, Try.underlying55, rfl, rfl, by as_aux_lemma => kernel_rfl⟩
theorem fl_55_2 : FieldOk Try.prog 55 2 2 := ⟨_, _, Try.underlying55, rfl, rfl, by as_aux_lemma => kernel_rfl⟩
theorem fl_55_3 : FieldOk Try.prog 55 3 3 := ⟨_, _, Try.underlying55, rfl, rfl, by as_aux_lemma => kernel_rfl⟩
theorem sz_55 : SizeOk Try.prog 55 4 := by unfold SizeOk; as_aux_lemma => kernel_rfl
theorem zr_55 : ZeroOk Try.prog 55 [.int .i64 0, .int .i64 0, .int .i32 0, .bool false] := by unfold ZeroOk; as_aux_lemma => kernel_rfl
theorem sc_60 : ScalarOk Try.prog 60 := ⟨_, Try.underlying60, rfl⟩
theorem rw_65 : RowOk Try.prog 65 3 := ⟨_, Try.underlying65, rfl, by as_aux_lemma => kernel_rfl⟩
theorem fl_65_0 : FieldOk Try.prog 65 0 0 := ⟨_, _, Try.underlying65, rfl, rfl, by as_aux_lemma => kernel_rfl⟩
theorem fl_65_1 : FieldOk Try.prog 65 1 1 := ⟨_, _, Try.underlying65, rfl, rfl, by as_aux_lemma => kernel_rfl⟩
theorem sz_65 : SizeOk Try.prog 65 3 := by unfold SizeOk; as_aux_lemma => kernel_rfl
theorem zr_65 : ZeroOk Try.prog 65 [.int .i64 0, .int .i64 0, .int .i64 0] := by unfold ZeroOk; as_aux_lemma => kernel_rfl
theorem sc_66 : ScalarOk Try.prog 66 := ⟨_, Try.underlying66, rfl⟩
theorem sz_66 : SizeOk Try.prog 66 1 := by unfold SizeOk; as_aux_lemma => kernel_rfl
theorem zr_66 : ZeroOk Try.prog 66 [.map none] := by unfold ZeroOk; as_aux_lemma => kernel_rfl
theorem sc_67 : ScalarOk Try.prog 67 := ⟨_, Try.underlying67, rfl⟩
theorem sz_67 : SizeOk Try.prog 67 1 := by unfold SizeOk; as_aux_lemma => kernel_rfl
theorem zr_67 : ZeroOk Try.prog 67 [.map none] := by unfold ZeroOk; as_aux_lemma => kernel_rfl
theorem rw_73 : RowOk Try.prog 73 2 := ⟨_, Try.underlying73, rfl, by as_aux_lemma => kernel_rfl⟩
theorem sz_73 : SizeOk Try.prog 73 2 := by unfold SizeOk; as_aux_lemma => kernel_rfl
theorem zr_73 : ZeroOk Try.prog 73 [.int .i32 0, .int .i32 0] := by unfold ZeroOk; as_aux_lemma => kernel_rfl
theorem sc_88 : ScalarOk Try.prog 88 := ⟨_, Try.underlying88, rfl⟩
theorem rw_90 : RowOk Try.prog 90 5 := ⟨_, Try.underlying90, rfl, by as_aux_lemma => kernel_rfl⟩
theorem fl_90_0 : FieldOk Try.prog 90 0 0 := ⟨_, _, Try.underlying90, rfl, rfl, by as_aux_lemma => kernel_rfl⟩
theorem fl_90_1 : FieldOk Try.prog 90 1 1 := ⟨_, _, Try.underlying90, rfl, rfl, by as_aux_lemma => kernel_rfl⟩
theorem fl_90_2 : FieldOk Try.prog 90 2 2 := ⟨_, _, Try.underlying90, rfl, rfl, by as_aux_lemma => kernel_rfl⟩
theorem fl_90_3 : FieldOk Try.prog 90 3 4 := ⟨_, _, Try.underlying90, rfl, rfl, by as_aux_lemma => kernel_rfl⟩
theorem sz_90 : SizeOk Try.prog 90 5 := by unfold SizeOk; as_aux_lemma => kernel_rfl
theorem zr_90 : ZeroOk Try.prog 90 [.int .i64 0, .int .i32 0, .int .i64 0, .int .i64 0, .bool false] := by unfold ZeroOk; as_aux_lemma => kernel_rfl
theorem fl_92_0 : FieldOk Try.prog 92 0 0 := ⟨_, _, Try.underlying92, rfl, rfl, by as_aux_lemma => kernel_rfl⟩
theorem fl_92_1 : FieldOk Try.prog 92 1 1 := ⟨_, _, Try.underlying92, rfl, rfl, by as_aux_lemma => kernel_rfl⟩
theorem fl_92_2 : FieldOk Try.prog 92 2 4 := ⟨_, _, Try.underlying92, rfl, rfl, by as_aux_lemma => kernel_rfl⟩
theorem zr_92 : ZeroOk Try.prog 92 [.int .i64 0, .int .i64 0, .int .i64 0, .int .i64 0, .int .i64 0, .int .i32 0, .int .i64 0, .int .i64 0, .bool false] := by unfold ZeroOk; as_aux_lemma => kernel_rfl
theorem sc_115 : ScalarOk Try.prog 115 := ⟨_, Try.underlying115, rfl⟩
theorem en_10 : ∀ args w, (callFunc 10 args).run Try.prog w = .ok (.enter 10 args) w := enters_of Try.func10 (by as_aux_lemma => kernel_rfl) rfl
theorem en_13 : ∀ args w, (callFunc 13 args).run Try.prog w = .ok (.enter 13 args) w := enters_of Try.func13 (by as_aux_lemma => kernel_rfl) rfl
theorem en_14 : ∀ args w, (callFunc 14 args).run Try.prog w = .ok (.enter 14 args) w := enters_of Try.func14 (by as_aux_lemma => kernel_rfl) rfl
theorem en_15 : ∀ args w, (callFunc 15 args).run Try.prog w = .ok (.enter 15 args) w := enters_of Try.func15 (by as_aux_lemma => kernel_rfl) rfl
theorem en_16 : ∀ args w, (callFunc 16 args).run Try.prog w = .ok (.enter 16 args) w := enters_of Try.func16 (by as_aux_lemma => kernel_rfl) rfl
theorem en_17 : ∀ args w, (callFunc 17 args).run Try.prog w = .ok (.enter 17 args) w := enters_of Try.func17 (by as_aux_lemma => kernel_rfl) rfl
theorem en_24 : ∀ args w, (callFunc 24 args).run Try.prog w = .ok (.enter 24 args) w := enters_of Try.func24 (by as_aux_lemma => kernel_rfl) rfl
theorem en_25 : ∀ args w, (callFunc 25 args).run Try.prog w = .ok (.enter 25 args) w := enters_of Try.func25 (by as_aux_lemma => kernel_rfl) rfl
theorem en_26 : ∀ args w, (callFunc 26 args).run Try.prog w = .ok (.enter 26 args) w := enters_of Try.func26 (by as_aux_lemma => kernel_rfl) rfl
theorem en_32 : ∀ args w, (callFunc 32 args).run Try.prog w = .ok (.enter 32 args) w := enters_of Try.func32 (by as_aux_lemma => kernel_rfl) rfl
theorem en_33 : ∀ args w, (callFunc 33 args).run Try.prog w = .ok (.enter 33 args) w := enters_of Try.func33 (by as_aux_lemma => kernel_rfl) rfl
theorem en_34 : ∀ args w, (callFunc 34 args).run Try.prog w = .ok (.enter 34 args) w := enters_of Try.func34 (by as_aux_lemma => kernel_rfl) rfl
theorem en_35 : ∀ args w, (callFunc 35 args).run Try.prog w = .ok (.enter 35 args) w := enters_of Try.func35 (by as_aux_lemma => kernel_rfl) rfl
theorem en_40 : ∀ args w, (callFunc 40 args).run Try.prog w = .ok (.enter 40 args) w := enters_of Try.func40 (by as_aux_lemma => kernel_rfl) rfl
theorem en_42 : ∀ args w, (callFunc 42 args).run Try.prog w = .ok (.enter 42 args) w := enters_of Try.func42 (by as_aux_lemma => kernel_rfl) rfl
theorem en_49 : ∀ args w, (callFunc 49 args).run Try.prog w = .ok (.enter 49 args) w := enters_of Try.func49 (by as_aux_lemma => kernel_rfl) rfl
theorem en_50 : ∀ args w, (callFunc 50 args).run Try.prog w = .ok (.enter 50 args) w := enters_of Try.func50 (by as_aux_lemma => kernel_rfl) rfl
theorem en_51 : ∀ args w, (callFunc 51 args).run Try.prog w = .ok (.enter 51 args) w := enters_of Try.func51 (by as_aux_lemma => kernel_rfl) rfl
theorem en_52 : ∀ args w, (callFunc 52 args).run Try.prog w = .ok (.enter 52 args) w := enters_of Try.func52 (by as_aux_lemma => kernel_rfl) rfl
theorem en_59 : ∀ args w, (callFunc 59 args).run Try.prog w = .ok (.enter 59 args) w := enters_of Try.func59 (by as_aux_lemma => kernel_rfl) rfl
theorem en_60 : ∀ args w, (callFunc 60 args).run Try.prog w = .ok (.enter 60 args) w := enters_of Try.func60 (by as_aux_lemma => kernel_rfl) rfl
theorem en_61 : ∀ args w, (callFunc 61 args).run Try.prog w = .ok (.enter 61 args) w := enters_of Try.func61 (by as_aux_lemma => kernel_rfl) rfl
theorem en_62 : ∀ args w, (callFunc 62 args).run Try.prog w = .ok (.enter 62 args) w := enters_of Try.func62 (by as_aux_lemma => kernel_rfl) rfl
theorem en_63 : ∀ args w, (callFunc 63 args).run Try.prog w = .ok (.enter 63 args) w := enters_of Try.func63 (by as_aux_lemma => kernel_rfl) rfl
theorem en_64 : ∀ args w, (callFunc 64 args).run Try.prog w = .ok (.enter 64 args) w := enters_of Try.func64 (by as_aux_lemma => kernel_rfl) rfl
theorem en_66 : ∀ args w, (callFunc 66 args).run Try.prog w = .ok (.enter 66 args) w := enters_of Try.func66 (by as_aux_lemma => kernel_rfl) rfl
theorem en_68 : ∀ args w, (callFunc 68 args).run Try.prog w = .ok (.enter 68 args) w := enters_of Try.func68 (by as_aux_lemma => kernel_rfl) rfl
theorem en_73 : ∀ args w, (callFunc 73 args).run Try.prog w = .ok (.enter 73 args) w := enters_of Try.func73 (by as_aux_lemma => kernel_rfl) rfl
theorem en_74 : ∀ args w, (callFunc 74 args).run Try.prog w = .ok (.enter 74 args) w := enters_of Try.func74 (by as_aux_lemma => kernel_rfl) rfl
theorem en_81 : ∀ args w, (callFunc 81 args).run Try.prog w = .ok (.enter 81 args) w := enters_of Try.func81 (by as_aux_lemma => kernel_rfl) rfl
theorem en_82 : ∀ args w, (callFunc 82 args).run Try.prog w = .ok (.enter 82 args) w := enters_of Try.func82 (by as_aux_lemma => kernel_rfl) rfl
theorem en_83 : ∀ args w, (callFunc 83 args).run Try.prog w = .ok (.enter 83 args) w := enters_of Try.func83 (by as_aux_lemma => kernel_rfl) rfl
theorem en_84 : ∀ args w, (callFunc 84 args).run Try.prog w = .ok (.enter 84 args) w := enters_of Try.func84 (by as_aux_lemma => kernel_rfl) rfl
theorem en_85 : ∀ args w, (callFunc 85 args).run Try.prog w = .ok (.enter 85 args) w := enters_of Try.func85 (by as_aux_lemma => kernel_rfl) rfl
theorem mixed : Try.prog.follows .mixedOrders = true := by as_aux_lemma => kernel_rfl
end Go.Proofs.Ytlamcpgnmeileaa
namespace Go.Proofs.Ytlamcpgnmeileaa
open Go.RowKit Go.Lib
set_option linter.unusedSimpArgs false
@[ext] structure T_3_int where
  e0 : Int
  e1 : Int
  e2 : Int
def eq_T_3_int (a b : T_3_int) : Bool := (a.e0 == b.e0) && (a.e1 == b.e1) && (a.e2 == b.e2)
theorem eq_T_3_int_iff (a b : T_3_int) : eq_T_3_int a b = true ↔ a = b := by
  rcases a with ⟨a0, a1, a2⟩
  rcases b with ⟨b0, b1, b2⟩
  simp [eq_T_3_int, Bool.and_eq_true, and_assoc]
instance : DecidableEq T_3_int := fun a b => decidable_of_iff _ (eq_T_3_int_iff a b)
@[ext] structure Gapi_Span where
  From : Int
  To : Int
def enc_Gapi_Span (x : Gapi_Span) : List Value := [.int .i64 x.From, .int .i64 x.To]
theorem enc_Gapi_Span_len (x : Gapi_Span) : (enc_Gapi_Span x).length = 2 := rfl
theorem enc_Gapi_Span_one (x : Gapi_Span) : ∀ u ∈ enc_Gapi_Span x, u.oneCell' = true := by
  intro u hu
  simp only [enc_Gapi_Span, List.mem_cons, List.not_mem_nil, or_false] at hu
  rcases hu with rfl | rfl <;> rfl
def eq_Gapi_Span (a b : Gapi_Span) : Bool := (a.From == b.From) && (a.To == b.To)
theorem eq_Gapi_Span_iff (a b : Gapi_Span) : eq_Gapi_Span a b = true ↔ a = b := by
  rcases a with ⟨a0, a1⟩
  rcases b with ⟨b0, b1⟩
  simp [eq_Gapi_Span, Bool.and_eq_true, and_assoc]
instance : DecidableEq Gapi_Span := fun a b => decidable_of_iff _ (eq_Gapi_Span_iff a b)
@[ext] structure T_6_string where
  e0 : ByteArray
  e1 : ByteArray
  e2 : ByteArray
  e3 : ByteArray
  e4 : ByteArray
  e5 : ByteArray
def eq_T_6_string (a b : T_6_string) : Bool := decide (a.e0 = b.e0) && decide (a.e1 = b.e1) && decide (a.e2 = b.e2) && decide (a.e3 = b.e3) && decide (a.e4 = b.e4) && decide (a.e5 = b.e5)
theorem eq_T_6_string_iff (a b : T_6_string) : eq_T_6_string a b = true ↔ a = b := by
  rcases a with ⟨a0, a1, a2, a3, a4, a5⟩
  rcases b with ⟨b0, b1, b2, b3, b4, b5⟩
  simp [eq_T_6_string, Bool.and_eq_true, and_assoc]
instance : DecidableEq T_6_string := fun a b => decidable_of_iff _ (eq_T_6_string_iff a b)
@[ext] structure Gref04_Item where
  Rune : Int
  Text : ByteArray
  At : Int
def eq_Gref04_Item (a b : Gref04_Item) : Bool := (a.Rune == b.Rune) && decide (a.Text = b.Text) && (a.At == b.At)
theorem eq_Gref04_Item_iff (a b : Gref04_Item) : eq_Gref04_Item a b = true ↔ a = b := by
  rcases a with ⟨a0, a1, a2⟩
  rcases b with ⟨b0, b1, b2⟩
  simp [eq_Gref04_Item, Bool.and_eq_true, and_assoc]
instance : DecidableEq Gref04_Item := fun a b => decidable_of_iff _ (eq_Gref04_Item_iff a b)
@[ext] structure Gapi_Piece where
  At : Int
  Width : Int
  Rune : Int
  Broken : Bool
def eq_Gapi_Piece (a b : Gapi_Piece) : Bool := (a.At == b.At) && (a.Width == b.Width) && (a.Rune == b.Rune) && (a.Broken == b.Broken)
theorem eq_Gapi_Piece_iff (a b : Gapi_Piece) : eq_Gapi_Piece a b = true ↔ a = b := by
  rcases a with ⟨a0, a1, a2, a3⟩
  rcases b with ⟨b0, b1, b2, b3⟩
  simp [eq_Gapi_Piece, Bool.and_eq_true, and_assoc]
instance : DecidableEq Gapi_Piece := fun a b => decidable_of_iff _ (eq_Gapi_Piece_iff a b)
@[ext] structure Gapi_Token where
  Kind : Int
  Span_From : Int
  Span_To : Int
def eq_Gapi_Token (a b : Gapi_Token) : Bool := (a.Kind == b.Kind) && (a.Span_From == b.Span_From) && (a.Span_To == b.Span_To)
theorem eq_Gapi_Token_iff (a b : Gapi_Token) : eq_Gapi_Token a b = true ↔ a = b := by
  rcases a with ⟨a0, a1, a2⟩
  rcases b with ⟨b0, b1, b2⟩
  simp [eq_Gapi_Token, Bool.and_eq_true, and_assoc]
instance : DecidableEq Gapi_Token := fun a b => decidable_of_iff _ (eq_Gapi_Token_iff a b)
@[ext] structure T_2_int32 where
  e0 : Int
  e1 : Int
def eq_T_2_int32 (a b : T_2_int32) : Bool := (a.e0 == b.e0) && (a.e1 == b.e1)
theorem eq_T_2_int32_iff (a b : T_2_int32) : eq_T_2_int32 a b = true ↔ a = b := by
  rcases a with ⟨a0, a1⟩
  rcases b with ⟨b0, b1⟩
  simp [eq_T_2_int32, Bool.and_eq_true, and_assoc]
instance : DecidableEq T_2_int32 := fun a b => decidable_of_iff _ (eq_T_2_int32_iff a b)
@[ext] structure Gfold_pair where
  e0 : Int
  e1 : Int
def eq_Gfold_pair (a b : Gfold_pair) : Bool := (a.e0 == b.e0) && (a.e1 == b.e1)
theorem eq_Gfold_pair_iff (a b : Gfold_pair) : eq_Gfold_pair a b = true ↔ a = b := by
  rcases a with ⟨a0, a1⟩
  rcases b with ⟨b0, b1⟩
  simp [eq_Gfold_pair, Bool.and_eq_true, and_assoc]
instance : DecidableEq Gfold_pair := fun a b => decidable_of_iff _ (eq_Gfold_pair_iff a b)
@[ext] structure Gword_unit where
  kind : Int
  r : Int
  span_From : Int
  span_To : Int
  alone : Bool
def eq_Gword_unit (a b : Gword_unit) : Bool := (a.kind == b.kind) && (a.r == b.r) && (a.span_From == b.span_From) && (a.span_To == b.span_To) && (a.alone == b.alone)
theorem eq_Gword_unit_iff (a b : Gword_unit) : eq_Gword_unit a b = true ↔ a = b := by
  rcases a with ⟨a0, a1, a2, a3, a4⟩
  rcases b with ⟨b0, b1, b2, b3, b4⟩
  simp [eq_Gword_unit, Bool.and_eq_true, and_assoc]
instance : DecidableEq Gword_unit := fun a b => decidable_of_iff _ (eq_Gword_unit_iff a b)
@[ext] structure Gword_scanner where
  state : Int
  t_Kind : Int
  t_Span_From : Int
  t_Span_To : Int
  held_kind : Int
  held_r : Int
  held_span_From : Int
  held_span_To : Int
  held_alone : Bool
def eq_Gword_scanner (a b : Gword_scanner) : Bool := (a.state == b.state) && (a.t_Kind == b.t_Kind) && (a.t_Span_From == b.t_Span_From) && (a.t_Span_To == b.t_Span_To) && (a.held_kind == b.held_kind) && (a.held_r == b.held_r) && (a.held_span_From == b.held_span_From) && (a.held_span_To == b.held_span_To) && (a.held_alone == b.held_alone)
theorem eq_Gword_scanner_iff (a b : Gword_scanner) : eq_Gword_scanner a b = true ↔ a = b := by
  rcases a with ⟨a0, a1, a2, a3, a4, a5, a6, a7, a8⟩
  rcases b with ⟨b0, b1, b2, b3, b4, b5, b6, b7, b8⟩
  simp [eq_Gword_scanner, Bool.and_eq_true, and_assoc]
instance : DecidableEq Gword_scanner := fun a b => decidable_of_iff _ (eq_Gword_scanner_iff a b)
@[ext] structure T_3_string where
  e0 : ByteArray
  e1 : ByteArray
  e2 : ByteArray
def eq_T_3_string (a b : T_3_string) : Bool := decide (a.e0 = b.e0) && decide (a.e1 = b.e1) && decide (a.e2 = b.e2)
theorem eq_T_3_string_iff (a b : T_3_string) : eq_T_3_string a b = true ↔ a = b := by
  rcases a with ⟨a0, a1, a2⟩
  rcases b with ⟨b0, b1, b2⟩
  simp [eq_T_3_string, Bool.and_eq_true, and_assoc]
instance : DecidableEq T_3_string := fun a b => decidable_of_iff _ (eq_T_3_string_iff a b)
@[ext] structure T_8_2_int32 where
  e0_0 : Int
  e0_1 : Int
  e1_0 : Int
  e1_1 : Int
  e2_0 : Int
  e2_1 : Int
  e3_0 : Int
  e3_1 : Int
  e4_0 : Int
  e4_1 : Int
  e5_0 : Int
  e5_1 : Int
  e6_0 : Int
  e6_1 : Int
  e7_0 : Int
  e7_1 : Int
structure Gfold_unit where
  at_ : Int
  broken : Int
  base : Int
  low : List Int
  high : List Int
def encN_Gfold_unit (z : Gfold_unit × Hd × Hd) : List Value := [.int .i64 z.1.at_, .int .u8 z.1.broken, .int .i32 z.1.base, z.2.1.v, z.2.2.v]
def nest_Gfold_unit (z : Gfold_unit × Hd × Hd) : List Asn := [vec (encI (.i32)) 21 1 z.2.1.v z.1.low, vec (encI (.i32)) 21 1 z.2.2.v z.1.high]
theorem encN_Gfold_unit_len (z : Gfold_unit × Hd × Hd) : (encN_Gfold_unit z).length = 5 := rfl
theorem encN_Gfold_unit_one (z : Gfold_unit × Hd × Hd) : ∀ u ∈ encN_Gfold_unit z, u.oneCell' = true := by
  intro u hu
  simp only [encN_Gfold_unit, List.mem_cons, List.not_mem_nil, or_false] at hu
  rcases hu with rfl | rfl | rfl | rfl | rfl <;> rfl
end Go.Proofs.Ytlamcpgnmeileaa
namespace Go.Proofs.Ytlamcpgnmeileaa
open Go.RowKit Go.Lib
set_option linter.unusedVariables false
set_option linter.unusedSimpArgs false
end Go.Proofs.Ytlamcpgnmeileaa
namespace Go.Proofs.Ytlamcpgnmeileaa
open Go.RowKit Go.Lib

def Pc.sh (k : Nat) (p : Pc) : Pc := ⟨p.i + k, p.w, p.r⟩
/-- A piece in the midst: what stands there. -/
theorem pcsFrom_split : ∀ (P : List Pc) (i : Nat) (l : List UInt8) (x : Pc) (B : List Pc), pcsFrom i l = P ++ x :: B →
    ∃ n, x.i = i + n ∧ n + x.w ≤ l.length ∧ DecOk (l.drop n) x.r x.w ∧ pcsFrom (i + n) (l.drop n) = x :: B ∧ B = pcsFrom (x.i + x.w) (l.drop (n + x.w))
  | [], i, l, x, B, h => by
    by_cases hl : l = []
    · subst hl; simp [pcsFrom_nil] at h
    · have hok := decOk l hl
      have h' := h
      rw [pcsFrom_cons i l hl] at h
      simp only [List.nil_append, List.cons.injEq] at h
      obtain ⟨rfl, hB⟩ := h
      exact ⟨0, by simp, by simpa using hok.le, by simpa using hok, by simpa using h', by simpa using hB.symm⟩
  | p :: P, i, l, x, B, h => by
    by_cases hl : l = []
    · subst hl; simp [pcsFrom_nil] at h
    · have hle := dec_le l hl
      rw [pcsFrom_cons i l hl] at h
      simp only [List.cons_append, List.cons.injEq] at h
      obtain ⟨n, h1, h2, h3, h4, h5⟩ := pcsFrom_split P _ _ x B h.2
      refine ⟨(decodeL l).2 + n, by omega, by simp at h2; omega, by rw [← List.drop_drop]; exact h3, by rw [← List.drop_drop, ← Nat.add_assoc]; exact h4, ?_⟩
      rw [h5, List.drop_drop, Nat.add_assoc]
theorem pcs_split (l : List UInt8) (P : List Pc) (x : Pc) (B : List Pc) (h : pcs l = P ++ x :: B) :
    x.i + x.w ≤ l.length ∧ DecOk (l.drop x.i) x.r x.w ∧ pcsFrom x.i (l.drop x.i) = x :: B ∧ B = pcsFrom (x.i + x.w) (l.drop (x.i + x.w)) := by
  obtain ⟨n, h1, h2, h3, h4, h5⟩ := pcsFrom_split P 0 l x B h
  have : x.i = n := by omega
  subst this
  exact ⟨h2, h3, by simpa using h4, h5⟩
theorem pcs_pos (l : List UInt8) (x : Pc) (h : x ∈ pcs l) : 1 ≤ x.w ∧ x.i + x.w ≤ l.length ∧ DecOk (l.drop x.i) x.r x.w := by
  obtain ⟨P, B, hs⟩ := List.append_of_mem h
  obtain ⟨h1, h2, _⟩ := pcs_split l P x B hs
  exact ⟨h2.pos, h1, h2⟩

end Go.Proofs.Ytlamcpgnmeileaa
namespace Go.Proofs.Ytlamcpgnmeileaa
open Go.RowKit Go.Lib
set_option linter.unusedVariables false
set_option linter.unusedSimpArgs false

/-- Where the k-th piece begins. -/
def posAt (s : ByteArray) (k : Nat) : Nat := match (pcs s.data.toList)[k]? with
  | some p => p.i
  | none => s.size
theorem posAt_some {s : ByteArray} {k : Nat} {p : Pc} (h : (pcs s.data.toList)[k]? = some p) : posAt s k = p.i := by simp [posAt, h]
theorem posAt_zero (s : ByteArray) : posAt s 0 = 0 := by
  unfold posAt
  by_cases h : s.data.toList = []
  · have : s.size = 0 := by have := congrArg List.length h; simpa using this
    simp [h, pcs, pcsFrom_nil, this]
  · simp [pcs, pcsFrom_cons 0 _ h]
theorem posAt_next {s : ByteArray} {k : Nat} {p : Pc} (h : (pcs s.data.toList)[k]? = some p) : posAt s (k + 1) = p.i + p.w ∧ pcsFrom p.i (s.data.toList.drop p.i) = p :: (pcs s.data.toList).drop (k + 1) := by
  have hk : k < (pcs s.data.toList).length := (List.getElem?_eq_some_iff.1 h).1
  have he : pcs s.data.toList = (pcs s.data.toList).take k ++ p :: (pcs s.data.toList).drop (k + 1) := by
    have h1 := List.drop_eq_getElem_cons hk
    have h2 : (pcs s.data.toList)[k] = p := (List.getElem?_eq_some_iff.1 h).2
    rw [h2] at h1
    rw [← h1, List.take_append_drop]
  obtain ⟨q1, q2, q3, q4⟩ := pcs_split s.data.toList _ p _ he
  have hlen : s.data.toList.length = s.size := by rw [Array.length_toList]; rfl
  refine ⟨?_, q3⟩
  unfold posAt
  have hget : (pcs s.data.toList)[k + 1]? = ((pcs s.data.toList).drop (k + 1))[0]? := by simp
  rw [hget, q4]
  by_cases hd' : s.data.toList.drop (p.i + p.w) = []
  · rw [hd', pcsFrom_nil]
    have h5 := congrArg List.length hd'
    simp only [List.length_drop, List.length_nil, hlen] at h5
    obtain ⟨_, h6, _⟩ := pcs_pos s.data.toList p (List.mem_of_getElem? h)
    simp; omega
  · rw [pcsFrom_cons _ _ hd']; simp
section
variable {F : Fence} {P : Program} {w0 : World} {K : Nat → Prop} {N : Nat} {dfs : List Deferred} {ops : Array Oper} {Q : Exit → Act → World → Prop} {rest : List Oper} {σ : List (Nat × Value)} {L : List Asn}
  {d : Nat} {t : TypeId} {ty : TypeId} {pos : String} {aft : Array Edge} {g : Option (Nat × Bool)} {x : Operand} {k : Nat} {s : ByteArray}
theorem TO.rangeStr [WideF F] (ht : P.underlying t = some .string) (hg : gd ops σ g = some true) (hd : d < N) (hx : ev σ x = some (.string s))
    (h : ∀ b, TO F P w0 K N dfs ops Q rest ((d, .pointer (some ⟨b, 0, none⟩)) :: σ) (L ++ [obj b (.stringIter s (posAt s 0))])) : TO F P w0 K N dfs ops Q (⟨some d, .range t x, ty, pos, aft, g⟩ :: rest) σ L :=
  TO.step hg (by simp) fun a w ha hw => ⟨.pointer (some ⟨w.heap.size, 0, none⟩), w.alloc (.stringIter s 0), by simp [execOp, ha.ev hx, Instr.range, run_underlying ht, Sem.run_bind], h _ _ _ (ha.put hd _) (by rw [posAt_zero]; exact hw.alloc _)⟩
theorem TO.nextStr [WideF F] {it m : Nat} {p : Pc} (hg : gd ops σ g = some true) (hd : d < N) (hx : ev σ x = some (.pointer (some ⟨it, 0, none⟩))) (hk : L[k]? = some (obj it (.stringIter s (posAt s m)))) (hp : (pcs s.data.toList)[m]? = some p)
    (h : TO F P w0 K N dfs ops Q rest ((d, .tuple #[.bool true, .int .i64 p.i, .int .i32 p.r]) :: σ) (L.set k (obj it (.stringIter s (posAt s (m + 1)))))) : TO F P w0 K N dfs ops Q (⟨some d, .next x true, ty, pos, aft, g⟩ :: rest) σ L := by
  refine TO.step hg (by simp) fun a w ha hw => ?_
  have hit := hw.obj hk
  rw [posAt_some hp] at hit
  obtain ⟨h1, h2⟩ := posAt_next hp
  have hmem := List.mem_of_getElem? hp
  obtain ⟨g1, g2, _⟩ := pcs_pos s.data.toList p hmem
  have hlen : s.data.toList.length = s.size := by rw [Array.length_toList]; rfl
  obtain ⟨r, wd, W1, e1, e2, e3, e4, e5, e6, e7, e8⟩ := next_some P w it s p.i hit (by omega)
  rw [h2] at e6
  have hpe : p = ⟨p.i, wd, r⟩ := (List.cons.inj e6).1
  have hw' : p.w = wd := congrArg Pc.w hpe
  have hr : p.r = r := congrArg Pc.r hpe
  obtain ⟨C1, c1, c2⟩ := hw.focus hk
  refine ⟨.tuple #[.bool true, .int .i64 p.i, .int .i32 p.r], W1, by rw [hr]; simp [execOp, ha.ev hx, e1, Sem.run_bind], h _ _ (ha.put hd _) (c2 _ C1 W1 ⟨?_, fun j hj => .inl hj⟩ ⟨c1.1, by rw [h1, hw']; exact e3⟩)⟩
  exact e2.weaken (fun i _ hi => by subst hi; exact (c1.1 _).2 rfl)
theorem TO.nextEnd [WideF F] {it m : Nat} (hg : gd ops σ g = some true) (hd : d < N) (hx : ev σ x = some (.pointer (some ⟨it, 0, none⟩))) (hk : L[k]? = some (obj it (.stringIter s (posAt s m)))) (hm : (pcs s.data.toList).length ≤ m)
    (h : TO F P w0 K N dfs ops Q rest ((d, .tuple #[.bool false]) :: σ) L) : TO F P w0 K N dfs ops Q (⟨some d, .next x true, ty, pos, aft, g⟩ :: rest) σ L := by
  refine TO.step hg (by simp) fun a w ha hw => ?_
  have hit := hw.obj hk
  have e : posAt s m = s.size := by simp [posAt, List.getElem?_eq_none hm]
  rw [e] at hit
  exact ⟨_, w, by simp [execOp, ha.ev hx, (next_none P w it s s.size hit (by omega)).1, Sem.run_bind], h _ _ (ha.put hd _) hw⟩
end
end Go.Proofs.Ytlamcpgnmeileaa
namespace Go.Proofs.Ytlamcpgnmeileaa
open Go.RowKit Go.Lib Go.Shelf
attribute [local go_sem] Oper.semAt_some wide_fn wide_in_fn wide_depth
set_option linter.unusedVariables false

theorem ret_bool {a b : Bool} (h : a = b) : Ending.returned (.bool a) = .returned (.bool b) := by rw [h]
theorem ret_int {k : IntKind} {a b : Int} (h : a = b) : Ending.returned (.int k a) = .returned (.int k b) := by rw [h]

end Go.Proofs.Ytlamcpgnmeileaa
namespace Go.Proofs.Ytlamcpgnmeileaa
open Go.RowKit Go.Lib

def evenB (r : Int) : Bool := decide (r % 2 = 0)
def greatP (r : Int) : Prop :=
  (65 ≤ r ∧ r ≤ 90) ∨ (0xC0 ≤ r ∧ r ≤ 0xDE ∧ r ≠ 0xD7) ∨ (((0x100 ≤ r ∧ r ≤ 0x137) ∨ (0x14A ≤ r ∧ r ≤ 0x177)) ∧ r % 2 = 0) ∨ (0x139 ≤ r ∧ r ≤ 0x148 ∧ r % 2 = 1) ∨ r = 0x178 ∨
  (0x179 ≤ r ∧ r ≤ 0x17D ∧ r % 2 = 1) ∨ (0x386 ≤ r ∧ r ≤ 0x38F ∧ r ≠ 0x387 ∧ r ≠ 0x38B ∧ r ≠ 0x38D) ∨ (0x391 ≤ r ∧ r ≤ 0x3AB ∧ r ≠ 0x3A2) ∨ (0x400 ≤ r ∧ r ≤ 0x42F)
instance (r : Int) : Decidable (greatP r) := by unfold greatP; infer_instance
def great (r : Int) : Bool := decide (greatP r)
def smallP (r : Int) : Prop :=
  (97 ≤ r ∧ r ≤ 122) ∨ (0xDF ≤ r ∧ r ≤ 0xFF ∧ r ≠ 0xF7) ∨ (((0x100 ≤ r ∧ r ≤ 0x137) ∨ (0x14A ≤ r ∧ r ≤ 0x177)) ∧ r % 2 = 1) ∨ r = 0x138 ∨ r = 0x149 ∨ r = 0x17F ∨ r = 0x390 ∨
  (0x139 ≤ r ∧ r ≤ 0x148 ∧ r % 2 = 0) ∨ (0x17A ≤ r ∧ r ≤ 0x17E ∧ r % 2 = 0) ∨ (0x3AC ≤ r ∧ r ≤ 0x3CE) ∨ (0x430 ≤ r ∧ r ≤ 0x45F)
instance (r : Int) : Decidable (smallP r) := by unfold smallP; infer_instance
def small (r : Int) : Bool := decide (smallP r)
def letter (r : Int) : Bool := great r || small r
def lower (r : Int) : Int :=
  if !great r then r
  else if r = 0x130 then 0x69 else if r = 0x178 then 0xFF else if r = 0x386 then 0x3AC else if r = 0x38C then 0x3CC
  else if 0x388 ≤ r ∧ r ≤ 0x38A then r + 0x25 else if r = 0x38E ∨ r = 0x38F then r + 0x3F
  else if 0x400 ≤ r ∧ r ≤ 0x40F then r + 0x50 else if r < 0x100 ∨ 0x17F < r then r + 0x20 else r + 1
def back (r : Int) : Int :=
  if r = 0xFF then 0xFF - 0x178
  else if r < 0x100 ∨ (0x3B1 ≤ r ∧ r ≤ 0x3CB) ∨ (0x430 ≤ r ∧ r ≤ 0x44F) then 0x20
  else if r ≤ 0x17F then 1
  else if r = 0x3AC then 0x3AC - 0x386
  else if 0x3AD ≤ r ∧ r ≤ 0x3AF then 0x25
  else if r = 0x3CC then 0x40
  else if r = 0x3CD ∨ r = 0x3CE then 0x3F
  else 0x50
def kindP (r : Int) : Int :=
  if r < 0 ∨ (0xD800 ≤ r ∧ r ≤ 0xDFFF) ∨ 0x10FFFF < r then 0
  else if letter r then 1
  else if 0x300 ≤ r ∧ r ≤ 0x36F then 2
  else if 48 ≤ r ∧ r ≤ 57 then 3
  else if r = 10 ∨ r = 13 then 4
  else if r = 9 ∨ r = 32 ∨ r = 0xA0 ∨ r = 0x202F ∨ r = 0x205F ∨ r = 0x3000 then 5
  else if r = 45 ∨ (0x2010 ≤ r ∧ r ≤ 0x2015) then 6
  else if r = 34 ∨ r = 39 ∨ r = 0xAB ∨ r = 0xBB ∨ r = 0x2039 ∨ r = 0x203A then 7
  else if r = 33 ∨ r = 44 ∨ r = 46 ∨ r = 58 ∨ r = 59 ∨ r = 63 ∨ r = 0xA1 ∨ r = 0xB7 ∨ r = 0xBF ∨ r = 0x2026 then 8
  else if 0x2000 ≤ r ∧ r ≤ 0x200A then 5
  else if 0x2018 ≤ r ∧ r ≤ 0x201F then 7
  else if r < 0x20 ∨ (0x7F ≤ r ∧ r ≤ 0x9F) ∨ (0x200B ≤ r ∧ r ≤ 0x200F) ∨ r = 0xFEFF then 9
  else 10
def kind (r : Int) : Int := kindP r

theorem great_iff (r : Int) : great r = true ↔ greatP r := by simp [great]
theorem small_iff (r : Int) : small r = true ↔ smallP r := by simp [small]

end Go.Proofs.Ytlamcpgnmeileaa
namespace Go.Proofs.Ytlamcpgnmeileaa
open Go.RowKit Go.Lib Go.Shelf
set_option linter.unusedVariables false
set_option linter.unusedSimpArgs false

theorem and1 (r : Int) (h0 : -2147483648 ≤ r) (h1 : r ≤ 2147483647) : (bits BinOp.and IntKind.i32 r 1 == 0) = evenB r := by
  have hk : bits .and .i32 r 1 = r % 2 := by
    have h1 : (BitVec.ofInt 32 1).toNat = 2 ^ 1 - 1 := by decide
    have key : (BitVec.ofInt 32 r &&& BitVec.ofInt 32 1).toNat = (r % ((2 ^ 32 : Nat) : Int)).toNat % 2 ^ 1 := by
      rw [BitVec.toNat_and, BitVec.toNat_ofInt, h1, Nat.and_two_pow_sub_one_eq_mod]
    show IntKind.i32.wrap ((BitVec.ofInt 32 r &&& BitVec.ofInt 32 1).toNat : Nat) = r % 2
    rw [key, IntKind.wrap_i32]
    omega
  rw [hk, evenB, Bool.eq_iff_iff]
  simp
theorem even_any (r : Int) (w : World) (h0 : -2147483648 ≤ r) (h1 : r ≤ 2147483647) :
    Calls Try.prog 38 #[.int .i32 r] w fun e w' => e = .returned (.bool (evenB r)) ∧ w = w' := by
  go_enter Try.func38, Try.ntmps38
  go_wp2
  go_ret
  exact ⟨ret_bool (and1 r h0 h1), rfl⟩

set_option maxHeartbeats 1000000 in
theorem great_any (r : Int) (w : World) (h0 : -2147483648 ≤ r) (h1 : r ≤ 2147483647) :
    Calls Try.prog 17 #[.int .i32 r] w fun e w' => e = .returned (.bool (great r)) ∧ w = w' := by
  go_enter Try.func17, Try.ntmps17
  go_wp2_with (go_at_call 38; refine (even_any _ _ (by omega) (by omega)).mono ?_; rintro e w' ⟨rfl, rfl⟩)
  all_goals
    go_ret
    refine ⟨ret_bool ?_, rfl⟩
    (go_light; rw [Bool.eq_iff_iff]; (try simp only [great_iff, greatP, evenB, decide_eq_true_eq, bne_iff_ne, ne_eq, Bool.not_eq_true', decide_eq_false_iff_not, Bool.and_eq_true, Bool.or_eq_true, Bool.or_eq_false_iff, Bool.and_eq_false_iff, bne_eq_false_iff_eq, beq_iff_eq, beq_eq_false_iff_ne, Bool.false_eq_true, false_iff, true_iff, iff_true, iff_false, Bool.not_eq_false', Bool.not_true, Bool.not_false] at *); omega)

set_option maxHeartbeats 1000000 in
theorem small_any (r : Int) (w : World) (h0 : -2147483648 ≤ r) (h1 : r ≤ 2147483647) :
    Calls Try.prog 65 #[.int .i32 r] w fun e w' => e = .returned (.bool (small r)) ∧ w = w' := by
  go_enter Try.func65, Try.ntmps65
  go_wp2_with (go_at_call 38; refine (even_any _ _ (by omega) (by omega)).mono ?_; rintro e w' ⟨rfl, rfl⟩)
  all_goals
    go_ret
    refine ⟨ret_bool ?_, rfl⟩
    (go_light; rw [Bool.eq_iff_iff]; (try simp only [small_iff, smallP, evenB, decide_eq_true_eq, bne_iff_ne, ne_eq, Bool.not_eq_true', decide_eq_false_iff_not, Bool.and_eq_true, Bool.or_eq_true, Bool.or_eq_false_iff, Bool.and_eq_false_iff, bne_eq_false_iff_eq, beq_iff_eq, beq_eq_false_iff_ne, Bool.false_eq_true, false_iff, true_iff, iff_true, iff_false, Bool.not_eq_false', Bool.not_true, Bool.not_false] at *); omega)

theorem letter_any (r : Int) (w : World) (h0 : -2147483648 ≤ r) (h1 : r ≤ 2147483647) :
    Calls Try.prog 36 #[.int .i32 r] w fun e w' => e = .returned (.bool (letter r)) ∧ w = w' := by
  go_enter Try.func36, Try.ntmps36
  go_wp2_with (first | (go_at_call 17; refine (great_any _ _ (by omega) (by omega)).mono ?_; rintro e w' ⟨rfl, rfl⟩) | (go_at_call 65; refine (small_any _ _ (by omega) (by omega)).mono ?_; rintro e w' ⟨rfl, rfl⟩))
  all_goals
    go_ret
    refine ⟨ret_bool ?_, rfl⟩
    go_light
    simp_all [letter]

set_option maxHeartbeats 1000000 in
theorem lower_any (r : Int) (w : World) (h0 : -2147483648 ≤ r) (h1 : r ≤ 2147483647) :
    Calls Try.prog 52 #[.int .i32 r] w fun e w' => e = .returned (.int .i32 (lower r)) ∧ w = w' := by
  by_cases hg : great r = true
  · have hb : r ≤ 2000 ∧ 0 ≤ r := by rw [great_iff] at hg; unfold greatP at hg; omega
    have hb1 := hb.1; have hb2 := hb.2; clear hb
    go_enter Try.func52, Try.ntmps52
    go_wp2_with (go_at_call 17; refine (great_any _ _ (by omega) (by omega)).mono ?_; rintro e w' ⟨rfl, rfl⟩)
    all_goals
      go_ret
      refine ⟨ret_int ?_, rfl⟩
      go_light
      grind [lower]
  · go_enter Try.func52, Try.ntmps52
    go_wp2_with (go_at_call 17; refine (great_any _ _ (by omega) (by omega)).mono ?_; rintro e w' ⟨rfl, rfl⟩)
    all_goals
      go_ret
      refine ⟨ret_int ?_, rfl⟩
      go_light
      simp_all [lower]

theorem mark_any (r : Int) (w : World) (h0 : -2147483648 ≤ r) (h1 : r ≤ 2147483647) :
    Calls Try.prog 37 #[.int .i32 r] w fun e w' => e = .returned (.bool (decide (0x300 ≤ r ∧ r ≤ 0x36F))) ∧ w = w' := by
  go_enter Try.func37, Try.ntmps37
  go_wp2
  all_goals
    go_ret
    refine ⟨ret_bool ?_, rfl⟩
    (go_light; rw [Bool.eq_iff_iff]; simp only [decide_eq_true_eq, bne_iff_ne, ne_eq, Bool.not_eq_true', decide_eq_false_iff_not, Bool.and_eq_true, Bool.or_eq_true, Bool.or_eq_false_iff, Bool.and_eq_false_iff, bne_eq_false_iff_eq, beq_iff_eq, beq_eq_false_iff_ne, Bool.false_eq_true, false_iff, true_iff, iff_true, iff_false, Bool.not_eq_false', Bool.not_true, Bool.not_false] at *; omega)

end Go.Proofs.Ytlamcpgnmeileaa
namespace Go.Proofs.Ytlamcpgnmeileaa
open Go.RowKit Go.Lib Go.Shelf
set_option linter.unusedVariables false
set_option linter.unusedSimpArgs false

set_option maxHeartbeats 4000000 in
theorem kind_any (r : Int) (w : World) (h0 : -2147483648 ≤ r) (h1 : r ≤ 2147483647) :
    Calls Try.prog 16 #[.int .i32 r] w fun e w' => e = .returned (.int .i64 (kind r)) ∧ w = w' := by
  go_enter Try.func16, Try.ntmps16
  go_wp2_with (first | (go_at_call 36; refine (letter_any _ _ (by omega) (by omega)).mono ?_; rintro e w' ⟨rfl, rfl⟩) | (go_at_call 37; refine (mark_any _ _ (by omega) (by omega)).mono ?_; rintro e w' ⟨rfl, rfl⟩))
  all_goals
    go_ret
    refine ⟨ret_int ?_, rfl⟩
    go_light
    try simp only [decide_eq_true_eq, bne_iff_ne, ne_eq, Bool.not_eq_true', decide_eq_false_iff_not, Bool.and_eq_true, Bool.or_eq_true, Bool.or_eq_false_iff, Bool.and_eq_false_iff, bne_eq_false_iff_eq, beq_iff_eq, beq_eq_false_iff_ne, Bool.false_eq_true, false_iff, true_iff, iff_true, iff_false, Bool.not_eq_false', Bool.not_true, Bool.not_false] at *
    grind [kind, kindP]

/-- A piece's kind. -/
def kindOf (b : Bool) (r : Int) : Int := if b then 11 else kind r

theorem of_any (i wd r : Int) (b : Bool) (w : World) (h0 : -2147483648 ≤ r) (h1 : r ≤ 2147483647) :
    Calls Try.prog 68 #[.agg #[.int .i64 i, .int .i64 wd, .int .i32 r, .bool b]] w fun e w' => e = .returned (.int .i64 (kindOf b r)) ∧ Below w.heap.size w w' := by
  cases b
  · go_enter Try.func68, Try.ntmps68
    go_wp2_with (go_at_call 16; refine (kind_any _ _ (by omega) (by omega)).mono ?_; rintro e w' ⟨rfl, rfl⟩)
    go_ret
    exact ⟨ret_int (by simp [kindOf]), (Below.refl _ _).alloc (Nat.le_refl _) _⟩
  · go_enter Try.func68, Try.ntmps68
    go_wp2_with (go_at_call 16; refine (kind_any _ _ (by omega) (by omega)).mono ?_; rintro e w' ⟨rfl, rfl⟩)
    go_ret
    exact ⟨ret_int (by simp [kindOf]), (Below.refl _ _).alloc (Nat.le_refl _) _⟩


end Go.Proofs.Ytlamcpgnmeileaa
namespace Go.Proofs.Ytlamcpgnmeileaa
open Go.RowKit Go.Lib Go.Shelf
attribute [local go_sem] Oper.semAt_some wide_fn wide_in_fn wide_depth
set_option linter.unusedVariables false
set_option linter.unusedSimpArgs false

theorem pcsF_valid : ∀ (f i : Nat) (l : List UInt8), ∀ p ∈ pcsF f i l, p.r ≤ 1114111
  | 0, _, _, p, h => by simp [pcsF] at h
  | f + 1, i, l, p, h => by
    unfold pcsF at h
    split at h
    · simp at h
    · rcases List.mem_cons.1 h with rfl | h
      · exact dec_rune_le l
      · exact pcsF_valid f _ _ p h
theorem pcs_valid (l : List UInt8) : ∀ p ∈ pcs l, p.r ≤ 1114111 := pcsF_valid _ _ _
end Go.Proofs.Ytlamcpgnmeileaa
namespace Go.Proofs.Ytlamcpgnmeileaa
open Go.RowKit Go.Lib Go.Shelf
attribute [local go_sem] Oper.semAt_some
set_option linter.unusedVariables false
set_option linter.unusedSimpArgs false

end Go.Proofs.Ytlamcpgnmeileaa
namespace Go.Proofs.Ytlamcpgnmeileaa
open Go.RowKit Go.Lib

/-- A longest row of pieces of one kind. -/
structure Rn where
  f : Nat
  t : Nat
  k : Int
  deriving DecidableEq
def pk (p : Pc) : Int := kindOf p.broken p.r
end Go.Proofs.Ytlamcpgnmeileaa
namespace Go.Proofs.Ytlamcpgnmeileaa
open Go.RowKit Go.Lib
set_option linter.unusedVariables false

/-- A piece's cells. -/
def pcV (p : Pc) : List Value := [.int .i64 p.i, .int .i64 p.w, .int .i32 p.r, .bool p.broken]
def pcA (p : Pc) : List Value := [.agg (pcV p).toArray]
theorem of_p (i wd r : Int) (b : Bool) (h0 : -2147483648 ≤ r) (h1 : r ≤ 2147483647) : FnP Try.prog 68 [.agg #[.int .i64 i, .int .i64 wd, .int .i32 r, .bool b]] (.int .i64 (kindOf b r)) := fun w => of_any i wd r b w h0 h1
theorem Rw.vec {α : Type} {enc : α → List Value} {e : TypeId} {size : Nat} {v : Value} {L : List α} {w w' : World} (h : Rw enc w' w.heap.size e size v L) (hb : Below w.heap.size w w') :
    ∃ C', sepL [vec enc e size v L] C' w' ∧ Ext (fun _ => False) C' w w' := by
  refine ⟨fun k => v.ownBlock = some k, sepL.one ⟨Rw.base h (Nat.zero_le _), rfl⟩, (Fr.of_below hb).weaken (fun i hi h => by omega), fun k hk => .inr ?_⟩
  rcases h.shape with ⟨rfl, _⟩ | ⟨g, cap, rfl, h1, h2, _⟩
  · simp [Value.ownBlock] at hk
  · simp [Value.ownBlock] at hk; omega
end Go.Proofs.Ytlamcpgnmeileaa
namespace Go.Proofs.Ytlamcpgnmeileaa
open Go.RowKit Go.Lib

/-- A piece: its rune, its bytes. -/
structure Tok where
  r : Nat
  bs : List UInt8
  deriving DecidableEq
def Tok.broken (t : Tok) : Bool := t.r == 65533 && t.bs.length == 1
/-- A rune's own form. -/
def Tok.valid (t : Tok) : Prop := (t.r < 55296 ∨ (57343 < t.r ∧ t.r ≤ 1114111)) ∧ t.bs = encodeRune t.r
def flat (ts : List Tok) : List UInt8 := ts.flatMap Tok.bs
def toksF : Nat → List UInt8 → List Tok
  | 0, _ => []
  | f + 1, l => if l = [] then [] else ⟨(decodeL l).1, l.take (decodeL l).2⟩ :: toksF f (l.drop (decodeL l).2)
def toks (l : List UInt8) : List Tok := toksF l.length l

theorem flat_nil : flat [] = [] := rfl
theorem flat_cons (t : Tok) (ts : List Tok) : flat (t :: ts) = t.bs ++ flat ts := by simp [flat]
theorem flat_append (a b : List Tok) : flat (a ++ b) = flat a ++ flat b := by simp [flat]
theorem toksF_enough : ∀ (f g : Nat) (l : List UInt8), l.length ≤ f → l.length ≤ g → toksF f l = toksF g l := by
  intro f
  induction f with
  | zero =>
    intro g l h1 h2
    have : l = [] := List.eq_nil_of_length_eq_zero (by omega)
    subst this
    cases g <;> simp [toksF]
  | succ f ih =>
    intro g l h1 h2
    cases g with
    | zero =>
      have : l = [] := List.eq_nil_of_length_eq_zero (by omega)
      subst this
      simp [toksF]
    | succ g =>
      by_cases hl : l = []
      · simp [toksF, hl]
      · simp only [toksF, hl, if_false]
        have := dec_pos l
        have hlen : 0 < l.length := List.length_pos_iff.2 hl
        rw [ih g _ (by simp; omega) (by simp; omega)]
theorem toks_nil : toks [] = [] := by simp [toks, toksF]
theorem toks_cons (l : List UInt8) (h : l ≠ []) : toks l = ⟨(decodeL l).1, l.take (decodeL l).2⟩ :: toks (l.drop (decodeL l).2) := by
  have hlen : 0 < l.length := List.length_pos_iff.2 h
  unfold toks
  obtain ⟨n, hn⟩ : ∃ n, l.length = n + 1 := ⟨l.length - 1, by omega⟩
  rw [hn]
  simp only [toksF, h, if_false]
  have := dec_pos l
  rw [toksF_enough n (l.drop (decodeL l).2).length _ (by simp; omega) (Nat.le_refl _)]
/-- Induction over a text, piece by piece. -/
theorem dec_induction {P : List UInt8 → Prop} (h0 : P []) (h1 : ∀ l, l ≠ [] → P (l.drop (decodeL l).2) → P l) : ∀ l, P l := by
  have key : ∀ (n : Nat) (l : List UInt8), l.length ≤ n → P l := by
    intro n
    induction n with
    | zero => intro l hl; rw [List.eq_nil_of_length_eq_zero (by omega : l.length = 0)]; exact h0
    | succ n ih =>
      intro l hl
      by_cases hn : l = []
      · rw [hn]; exact h0
      · have := dec_pos l
        exact h1 l hn (ih _ (by simp; omega))
  exact fun l => key l.length l (Nat.le_refl _)
theorem flat_toks (l : List UInt8) : flat (toks l) = l := by
  induction l using dec_induction with
  | h0 => rw [toks_nil]; rfl
  | h1 l hn ih => rw [toks_cons l hn, flat_cons, ih]; exact List.take_append_drop _ _
/-- A piece of a text is a rune's form or a broken byte. -/
theorem tok_ok (l : List UInt8) (h : l ≠ []) : (⟨(decodeL l).1, l.take (decodeL l).2⟩ : Tok).valid ∨ (⟨(decodeL l).1, l.take (decodeL l).2⟩ : Tok).broken = true := by
  by_cases hb : (decodeL l).1 = 65533 ∧ (decodeL l).2 = 1
  · right
    have hlen : 0 < l.length := List.length_pos_iff.2 h
    simp [Tok.broken, hb.1, hb.2]; omega
  · left
    exact ⟨dec_valid l, (encode_decode l h hb).symm⟩
theorem toks_ok (l : List UInt8) : ∀ t ∈ toks l, t.valid ∨ t.broken = true := by
  induction l using dec_induction with
  | h0 => rw [toks_nil]; simp
  | h1 l hn ih =>
    rw [toks_cons l hn]
    intro t ht
    rcases List.mem_cons.1 ht with rfl | ht
    · exact tok_ok l hn
    · exact ih t ht
theorem valid_not_broken {t : Tok} (h : t.valid) : t.broken = false := by
  unfold Tok.broken
  by_cases hr : t.r = 65533
  · have := h.2; rw [hr, enc_lost] at this; simp [this]
  · simp [hr]
theorem bs_ne {t : Tok} (h : t.valid ∨ t.broken = true) : t.bs ≠ [] := by
  rcases h with h | h
  · rw [h.2]; intro e; have := (encodeRune_len (t.r : Int)).1; rw [e] at this; simp at this
  · intro e; unfold Tok.broken at h; rw [e] at h; simp at h

/-- A byte that may go on a form. -/
def contB (b : UInt8) : Bool := b.toNat / 64 == 2
/-- What can't go on a form that stands ahead of it. -/
def Stop : List UInt8 → Prop
  | [] => True
  | b :: _ => contB b = false
theorem decodeN_stop1 {n b0 b1 b2 b3 c1 c2 c3 m : Nat} (h1 : n ≤ 1 ∨ b1 / 64 ≠ 2) (h2 : m ≤ 1 ∨ c1 / 64 ≠ 2) : decodeN n b0 b1 b2 b3 = decodeN m b0 c1 c2 c3 := by
  unfold decodeN
  have e1 : ¬ (1 < n ∧ b1 / 64 = 2) := by omega
  have e2 : ¬ (1 < m ∧ c1 / 64 = 2) := by omega
  simp only [e1, e2, and_false, false_and, if_false]
theorem decodeN_stop2 {n b0 b1 b2 b3 c2 c3 m : Nat} (hn : 1 < n) (hm : 1 < m) (h1 : n ≤ 2 ∨ b2 / 64 ≠ 2) (h2 : m ≤ 2 ∨ c2 / 64 ≠ 2) : decodeN n b0 b1 b2 b3 = decodeN m b0 b1 c2 c3 := by
  unfold decodeN
  have e1 : ¬ (2 < n ∧ b2 / 64 = 2) := by omega
  have e2 : ¬ (2 < m ∧ c2 / 64 = 2) := by omega
  simp only [e1, e2, and_false, false_and, if_false, hn, hm, true_and]
theorem decodeN_stop3 {n b0 b1 b2 b3 c3 m : Nat} (hn : 2 < n) (hm : 2 < m) (h1 : n ≤ 3 ∨ b3 / 64 ≠ 2) (h2 : m ≤ 3 ∨ c3 / 64 ≠ 2) : decodeN n b0 b1 b2 b3 = decodeN m b0 b1 b2 c3 := by
  unfold decodeN
  have e1 : ¬ (3 < n ∧ b3 / 64 = 2) := by omega
  have e2 : ¬ (3 < m ∧ c3 / 64 = 2) := by omega
  have h1n : 1 < n := by omega
  have h1m : 1 < m := by omega
  simp only [e1, e2, and_false, if_false, hn, hm, h1n, h1m, true_and]
theorem decodeN_stop4 {n b0 b1 b2 b3 m : Nat} (hn : 3 < n) (hm : 3 < m) : decodeN n b0 b1 b2 b3 = decodeN m b0 b1 b2 b3 := by
  unfold decodeN
  have h1n : 1 < n := by omega
  have h1m : 1 < m := by omega
  have h2n : 2 < n := by omega
  have h2m : 2 < m := by omega
  simp only [hn, hm, h1n, h1m, h2n, h2m, true_and]
theorem stop_get {x : List UInt8} (h : Stop x) (n : Nat) : n + x.length ≤ n ∨ (x.getD 0 0).toNat / 64 ≠ 2 := by
  cases x with
  | nil => simp
  | cons b x => right; simpa [Stop, contB] using h
/-- What stands behind a stop does not matter. -/
theorem dec_stop (l x : List UInt8) (hl : l ≠ []) (hx : Stop x) : decodeL (l ++ x) = decodeL l := by
  rw [decodeL_N, decodeL_N]
  rcases l with _ | ⟨a, _ | ⟨b, _ | ⟨c, _ | ⟨d, l⟩⟩⟩⟩
  · exact absurd rfl hl
  · refine decodeN_stop1 ?_ (.inl (by simp))
    rcases stop_get hx 1 with h | h
    · left; simp only [List.length_append, List.length_cons, List.length_nil]; omega
    · right; simpa using h
  · refine decodeN_stop2 (by simp) (by simp) ?_ (.inl (by simp))
    rcases stop_get hx 2 with h | h
    · left; simp only [List.length_append, List.length_cons, List.length_nil]; omega
    · right; simpa using h
  · refine decodeN_stop3 (by simp) (by simp) ?_ (.inl (by simp))
    rcases stop_get hx 3 with h | h
    · left; simp only [List.length_append, List.length_cons, List.length_nil]; omega
    · right; simpa using h
  · exact decodeN_stop4 (by simp) (by simp)
theorem toks_append (l x : List UInt8) (hx : Stop x) : toks (l ++ x) = toks l ++ toks x := by
  induction l using dec_induction with
  | h0 => rw [toks_nil]; rfl
  | h1 l hn ih =>
    have hle := dec_le l hn
    have hne : l ++ x ≠ [] := by simp [hn]
    rw [toks_cons _ hne, toks_cons l hn, dec_stop l x hn hx, List.drop_append_of_le_length hle, ih, List.take_append_of_le_length hle]
    rfl

theorem encZ_shape (r : Nat) (hv : r < 55296 ∨ (57343 < r ∧ r ≤ 1114111)) :
    (r ≤ 127 ∧ encodeRuneZ r = [(r : Int)]) ∨ (128 ≤ r ∧ r ≤ 2047 ∧ encodeRuneZ r = [192 + (r : Int) / 64, 128 + (r : Int) % 64]) ∨
    (2048 ≤ r ∧ r ≤ 65535 ∧ encodeRuneZ r = [224 + (r : Int) / 4096, 128 + (r : Int) / 64 % 64, 128 + (r : Int) % 64]) ∨
    (65536 ≤ r ∧ r ≤ 1114111 ∧ encodeRuneZ r = [240 + (r : Int) / 262144, 128 + (r : Int) / 4096 % 64, 128 + (r : Int) / 64 % 64, 128 + (r : Int) % 64]) := by
  by_cases h1 : r ≤ 127
  · exact .inl ⟨h1, encodeRuneZ_one (by omega) (by omega)⟩
  · by_cases h2 : r ≤ 2047
    · exact .inr (.inl ⟨by omega, h2, encodeRuneZ_two (by omega) (by omega)⟩)
    · by_cases h3 : r ≤ 65535
      · exact .inr (.inr (.inl ⟨by omega, h3, encodeRuneZ_three (by omega)⟩))
      · exact .inr (.inr (.inr ⟨by omega, by omega, encodeRuneZ_four (by omega) (by omega)⟩))
theorem u8_toNat (z : Int) (_h0 : 0 ≤ z) (h1 : z < 256) : (z.toNat.toUInt8).toNat = z.toNat := by
  simp; omega
theorem dec_enc (r : Nat) (hv : r < 55296 ∨ (57343 < r ∧ r ≤ 1114111)) (x : List UInt8) : decodeL (encodeRune r ++ x) = (r, (encodeRune r).length) := by
  rw [decodeL_N]
  rcases encZ_shape r hv with ⟨h, e⟩ | ⟨h, h', e⟩ | ⟨h, h', e⟩ | ⟨h, h', e⟩
  · have hl : encodeRune r = [((r : Int).toNat.toUInt8)] := by simp only [encodeRune, e, List.map_cons, List.map_nil]
    rw [hl]
    simp only [List.cons_append, List.nil_append, List.getD_cons_zero, List.length_cons]
    rw [u8_toNat _ (by omega) (by omega)]
    unfold decodeN
    simp only [Int.toNat_natCast]
    rw [if_pos (by omega)]
    simp
  · have hl : encodeRune r = [((192 + (r : Int) / 64).toNat.toUInt8), ((128 + (r : Int) % 64).toNat.toUInt8)] := by simp only [encodeRune, e, List.map_cons, List.map_nil]
    rw [hl]
    simp only [List.cons_append, List.nil_append, List.getD_cons_zero, List.getD_cons_succ, List.length_cons]
    rw [u8_toNat _ (by omega) (by omega), u8_toNat _ (by omega) (by omega)]
    have a1 : (192 + (r : Int) / 64).toNat = 192 + r / 64 := by omega
    have a2 : (128 + (r : Int) % 64).toNat = 128 + r % 64 := by omega
    rw [a1, a2]
    unfold decodeN
    have c1 : ¬ 192 + r / 64 < 128 := by omega
    have c2 : (192 + r / 64) / 32 = 6 := by omega
    have c3 : (128 + r % 64) / 64 = 2 := by omega
    have c4 : (192 + r / 64) % 32 * 64 + (128 + r % 64) % 64 = r := by omega
    have c5 : 128 ≤ r := by omega
    rw [if_neg c1, if_pos ⟨c2, by omega, c3⟩, c4, if_pos c5]
    rfl
  · have hl : encodeRune r = [((224 + (r : Int) / 4096).toNat.toUInt8), ((128 + (r : Int) / 64 % 64).toNat.toUInt8), ((128 + (r : Int) % 64).toNat.toUInt8)] := by simp only [encodeRune, e, List.map_cons, List.map_nil]
    rw [hl]
    simp only [List.cons_append, List.nil_append, List.getD_cons_zero, List.getD_cons_succ, List.length_cons]
    rw [u8_toNat _ (by omega) (by omega), u8_toNat _ (by omega) (by omega), u8_toNat _ (by omega) (by omega)]
    have a1 : (224 + (r : Int) / 4096).toNat = 224 + r / 4096 := by omega
    have a2 : (128 + (r : Int) / 64 % 64).toNat = 128 + r / 64 % 64 := by omega
    have a3 : (128 + (r : Int) % 64).toNat = 128 + r % 64 := by omega
    rw [a1, a2, a3]
    unfold decodeN
    have c1 : ¬ 224 + r / 4096 < 128 := by omega
    have c2 : (224 + r / 4096) / 32 ≠ 6 := by omega
    have c2' : (224 + r / 4096) / 16 = 14 := by omega
    have c3 : (128 + r / 64 % 64) / 64 = 2 := by omega
    have c3' : (128 + r % 64) / 64 = 2 := by omega
    have c4 : (224 + r / 4096) % 16 * 4096 + (128 + r / 64 % 64) % 64 * 64 + (128 + r % 64) % 64 = r := by omega
    have c5 : 2048 ≤ r := by omega
    rw [if_neg c1, if_neg (fun h => c2 h.1), if_pos ⟨c2', ⟨by omega, c3⟩, ⟨by omega, c3'⟩⟩, c4, if_pos ⟨c5, by omega⟩]
    rfl
  · have hl : encodeRune r = [((240 + (r : Int) / 262144).toNat.toUInt8), ((128 + (r : Int) / 4096 % 64).toNat.toUInt8), ((128 + (r : Int) / 64 % 64).toNat.toUInt8), ((128 + (r : Int) % 64).toNat.toUInt8)] := by simp only [encodeRune, e, List.map_cons, List.map_nil]
    rw [hl]
    simp only [List.cons_append, List.nil_append, List.getD_cons_zero, List.getD_cons_succ, List.length_cons]
    rw [u8_toNat _ (by omega) (by omega), u8_toNat _ (by omega) (by omega), u8_toNat _ (by omega) (by omega), u8_toNat _ (by omega) (by omega)]
    have a1 : (240 + (r : Int) / 262144).toNat = 240 + r / 262144 := by omega
    have a2 : (128 + (r : Int) / 4096 % 64).toNat = 128 + r / 4096 % 64 := by omega
    have a2' : (128 + (r : Int) / 64 % 64).toNat = 128 + r / 64 % 64 := by omega
    have a3 : (128 + (r : Int) % 64).toNat = 128 + r % 64 := by omega
    rw [a1, a2, a2', a3]
    unfold decodeN
    have c1 : ¬ 240 + r / 262144 < 128 := by omega
    have c2 : (240 + r / 262144) / 32 ≠ 6 := by omega
    have c2' : (240 + r / 262144) / 16 ≠ 14 := by omega
    have c2'' : (240 + r / 262144) / 8 = 30 := by omega
    have c3 : (128 + r / 4096 % 64) / 64 = 2 := by omega
    have c3' : (128 + r / 64 % 64) / 64 = 2 := by omega
    have c3'' : (128 + r % 64) / 64 = 2 := by omega
    have c4 : (240 + r / 262144) % 8 * 262144 + (128 + r / 4096 % 64) % 64 * 4096 + (128 + r / 64 % 64) % 64 * 64 + (128 + r % 64) % 64 = r := by omega
    have c5 : 65536 ≤ r := by omega
    rw [if_neg c1, if_neg (fun h => c2 h.1), if_neg (fun h => c2' h.1), if_pos ⟨c2'', ⟨by omega, c3⟩, ⟨by omega, c3'⟩, ⟨by omega, c3''⟩⟩, c4, if_pos ⟨c5, by omega⟩]
    rfl
/-- A rune's form stops what stands ahead of it. -/
theorem stop_enc (r : Nat) (hv : r < 55296 ∨ (57343 < r ∧ r ≤ 1114111)) (x : List UInt8) : Stop (encodeRune r ++ x) := by
  rcases encZ_shape r hv with ⟨h, e⟩ | ⟨h, h', e⟩ | ⟨h, h', e⟩ | ⟨h, h', e⟩ <;>
  · simp only [encodeRune, e, List.map_cons, List.map_nil, List.cons_append, Stop, contB, beq_eq_false_iff_ne, ne_eq]
    rw [u8_toNat _ (by omega) (by omega)]
    omega
theorem toks_valid {t : Tok} (h : t.valid) (x : List UInt8) : toks (t.bs ++ x) = t :: toks x := by
  have hne : t.bs ++ x ≠ [] := by simp [bs_ne (.inl h)]
  rw [toks_cons _ hne]
  rw [h.2, dec_enc t.r h.1 x, ← h.2]
  simp
theorem toks_valids {vs : List Tok} (h : ∀ t ∈ vs, t.valid) (x : List UInt8) : toks (flat vs ++ x) = vs ++ toks x := by
  induction vs with
  | nil => rfl
  | cons t vs ih =>
    rw [flat_cons, List.append_assoc, toks_valid (h t (List.mem_cons_self ..)), ih (fun q hq => h q (List.mem_cons_of_mem _ hq))]
    rfl
theorem stop_valids {vs : List Tok} (hne : vs ≠ []) (h : ∀ t ∈ vs, t.valid) (x : List UInt8) : Stop (flat vs ++ x) := by
  cases vs with
  | nil => exact absurd rfl hne
  | cons t vs =>
    have := h t (List.mem_cons_self ..)
    rw [flat_cons, List.append_assoc, this.2]
    exact stop_enc t.r this.1 _

/-- The pieces are their own text's. -/
def Good (ts : List Tok) : Prop := toks (flat ts) = ts
theorem good_toks (l : List UInt8) : Good (toks l) := by unfold Good; rw [flat_toks]
theorem good_tail {t : Tok} {ts : List Tok} (h : Good (t :: ts)) : Good ts := by
  unfold Good at *
  by_cases hn : flat (t :: ts) = []
  · rw [hn, toks_nil] at h; cases h
  · rw [toks_cons _ hn] at h
    have h1 : (⟨(decodeL (flat (t :: ts))).1, (flat (t :: ts)).take (decodeL (flat (t :: ts))).2⟩ : Tok) = t := by injection h
    have h2 : toks ((flat (t :: ts)).drop (decodeL (flat (t :: ts))).2) = ts := by injection h
    have h3 : (flat (t :: ts)).take (decodeL (flat (t :: ts))).2 = t.bs := congrArg Tok.bs h1
    have h4 := List.take_append_drop (decodeL (flat (t :: ts))).2 (flat (t :: ts))
    rw [h3] at h4
    have h5 : (flat (t :: ts)).drop (decodeL (flat (t :: ts))).2 = flat ts := by
      rw [flat_cons] at h4 ⊢
      exact List.append_cancel_left h4
    rw [← h5]; exact h2
theorem good_drop {a ts : List Tok} (h : Good (a ++ ts)) : Good ts := by
  induction a with
  | nil => exact h
  | cons t a ih => exact ih (good_tail h)
theorem good_ok {ts : List Tok} (h : Good ts) : ∀ t ∈ ts, t.valid ∨ t.broken = true := by
  unfold Good at h; rw [← h]; exact toks_ok _

/-- Broken bytes stay, valid pieces become other valid ones. -/
inductive Sub : List Tok → List Tok → Prop
  | nil : Sub [] []
  | brk {b : Tok} {ts us : List Tok} : b.broken = true → Sub ts us → Sub (b :: ts) (b :: us)
  | val {gs vs ts us : List Tok} : gs ≠ [] → vs ≠ [] → (∀ t ∈ gs, t.valid) → (∀ t ∈ vs, t.valid) → Sub ts us → Sub (gs ++ ts) (vs ++ us)
theorem Sub.one {t : Tok} {vs ts us : List Tok} (ht : t.valid) (hn : vs ≠ []) (hv : ∀ t ∈ vs, t.valid) (h : Sub ts us) : Sub (t :: ts) (vs ++ us) :=
  Sub.val (gs := [t]) (by simp) hn (by simpa using ht) hv h
/-- How a list that is put in another's place begins. -/
theorem Sub.head {ts us : List Tok} (h : Sub ts us) : ∃ B ts' us', (∀ b ∈ B, b.broken = true) ∧ ts = B ++ ts' ∧ us = B ++ us' ∧ Stop (flat ts') ∧ Stop (flat us') := by
  induction h with
  | nil => exact ⟨[], [], [], by simp, rfl, rfl, trivial, trivial⟩
  | brk hb _ ih =>
    obtain ⟨B, ts', us', h1, rfl, rfl, h4, h5⟩ := ih
    exact ⟨_ :: B, ts', us', by simpa [hb] using h1, rfl, rfl, h4, h5⟩
  | @val gs vs ts us h1 h2 h3 h4 _ ih =>
    exact ⟨[], gs ++ ts, vs ++ us, by simp, rfl, rfl, by rw [flat_append]; exact stop_valids h1 h3 _, by rw [flat_append]; exact stop_valids h2 h4 _⟩
theorem Sub.good {ts us : List Tok} (h : Sub ts us) (hg : Good ts) : Good us := by
  induction h with
  | nil => exact hg
  | @brk b ts us hb hs ih =>
    have ih' := ih (good_tail hg)
    obtain ⟨B, ts', us', h1, rfl, rfl, h4, h5⟩ := hs.head
    unfold Good at *
    have hne : b.bs ≠ [] := bs_ne (.inr hb)
    have e1 : flat (b :: (B ++ ts')) = flat (b :: B) ++ flat ts' := by rw [← List.cons_append, flat_append]
    have e2 : flat (b :: (B ++ us')) = flat (b :: B) ++ flat us' := by rw [← List.cons_append, flat_append]
    rw [e1, toks_append _ _ h4] at hg
    rw [e2, toks_append _ _ h5]
    have g1 : toks (flat ts') = ts' := by
      have := good_drop (a := B) (ts := ts') (by
        have hh : Good (b :: (B ++ ts')) := by unfold Good; rw [e1, toks_append _ _ h4]; exact hg
        exact good_tail hh)
      exact this
    rw [flat_append, toks_append _ _ h5] at ih'
    have g2 : toks (flat us') = us' := good_drop (a := B) (by unfold Good; rw [flat_append, toks_append _ _ h5]; exact ih')
    rw [g1, ← List.cons_append] at hg
    rw [g2, ← List.cons_append]
    rw [List.append_cancel_right hg]
  | @val gs vs ts us h1 h2 h3 h4 _ ih =>
    unfold Good
    rw [flat_append, toks_valids h4, show toks (flat us) = us from ih (good_drop hg)]

/-! ### The pieces with their places -/
def place : Nat → List Tok → List Pc
  | _, [] => []
  | i, t :: ts => ⟨i, t.bs.length, t.r⟩ :: place (i + t.bs.length) ts
theorem pcs_place (l : List UInt8) : ∀ i, pcsFrom i l = place i (toks l) := by
  induction l using dec_induction with
  | h0 => intro i; rw [toks_nil, pcsFrom_nil]; rfl
  | h1 l hn ih =>
    intro i
    have hle := dec_le l hn
    have e : (l.take (decodeL l).2).length = (decodeL l).2 := by simp; omega
    rw [pcsFrom_cons i l hn, toks_cons l hn, place, ih, e]
theorem place_append (a b : List Tok) : ∀ i, place i (a ++ b) = place i a ++ place (i + (flat a).length) b := by
  induction a with
  | nil => intro i; rfl
  | cons t a ih => intro i; simp only [List.cons_append, place, ih, flat_cons, List.length_append, Nat.add_assoc]
theorem place_length (ts : List Tok) : ∀ i, (place i ts).length = ts.length := by
  induction ts with
  | nil => intro i; rfl
  | cons t ts ih => intro i; simp [place, ih]

end Go.Proofs.Ytlamcpgnmeileaa
namespace Go.Proofs.Ytlamcpgnmeileaa
open Go.RowKit Go.Lib
set_option linter.unusedVariables false

/-- A piece with the marks behind it. -/
structure Un where
  k : Int
  r : Nat
  f : Nat
  t : Nat
  al : Bool
  deriving DecidableEq
def ubare (k : Int) : Bool := k == 11 || k == 4 || k == 9
def unew (p : Pc) : Un := ⟨pk p, p.r, p.i, p.i + p.w, true⟩
def ustep : List Un × Option Un → Pc → List Un × Option Un
  | (E, none), p => (E, some (unew p))
  | (E, some n), p => if pk p = 2 ∧ ubare n.k = false then (E, some ⟨n.k, n.r, n.f, n.t + p.w, false⟩) else (E ++ [n], some (unew p))
def ufold (L : List Pc) : List Un × Option Un := L.foldl ustep ([], none)
def uout : List Un × Option Un → List Un
  | (E, none) => E
  | (E, some n) => E ++ [n]
def units (L : List Pc) : List Un := uout (ufold L)
theorem ufold_snoc (L : List Pc) (p : Pc) : ufold (L ++ [p]) = ustep (ufold L) p := by simp [ufold]
theorem ustep_some (S : List Un × Option Un) (p : Pc) : ∃ E n, ustep S p = (E, some n) := by
  rcases S with ⟨E, _ | n⟩
  · exact ⟨E, _, rfl⟩
  · unfold ustep
    by_cases h : pk p = 2 ∧ ubare n.k = false
    · exact ⟨E, ⟨n.k, n.r, n.f, n.t + p.w, false⟩, if_pos h⟩
    · exact ⟨E ++ [n], _, if_neg h⟩
theorem ustep_pre : ∀ (L : List Pc) (E : List Un) (o : Option Un), ∃ E', (L.foldl ustep (E, o)).1 = E ++ E'
  | [], E, o => ⟨[], by simp⟩
  | p :: L, E, o => by
    rcases o with _ | n
    · exact ustep_pre L E (some (unew p))
    · by_cases hk : pk p = 2 ∧ ubare n.k = false
      · have : (p :: L).foldl ustep (E, some n) = L.foldl ustep (E, some ⟨n.k, n.r, n.f, n.t + p.w, false⟩) := by
          show L.foldl ustep (ustep (E, some n) p) = _
          simp only [ustep]; rw [if_pos hk]
        rw [this]; exact ustep_pre L E _
      · have : (p :: L).foldl ustep (E, some n) = L.foldl ustep (E ++ [n], some (unew p)) := by
          show L.foldl ustep (ustep (E, some n) p) = _
          simp only [ustep]; rw [if_neg hk]
        rw [this]
        obtain ⟨E', h⟩ := ustep_pre L (E ++ [n]) (some (unew p))
        exact ⟨n :: E', by rw [h]; simp⟩
theorem units_at (pre post : List Pc) (x : Pc) (E : List Un) (n : Un) (h : ufold pre = (E, some n)) (hk : ¬ (pk x = 2 ∧ ubare n.k = false)) : ∃ q, units (pre ++ x :: post) = E ++ n :: q := by
  have h1 : ufold (pre ++ x :: post) = (post.foldl ustep (E ++ [n], some (unew x))) := by
    unfold ufold at *
    rw [List.foldl_append, h, List.foldl_cons]; simp only [ustep]; rw [if_neg hk]
  obtain ⟨E', h2⟩ := ustep_pre post (E ++ [n]) (some (unew x))
  unfold units; rw [h1]
  rcases hf : post.foldl ustep (E ++ [n], some (unew x)) with ⟨F, _ | m⟩
  · rw [hf] at h2; exact ⟨E', by show F = _; simp only at h2; rw [h2]; simp⟩
  · rw [hf] at h2; exact ⟨E' ++ [m], by show F ++ [m] = _; simp only at h2; rw [h2]; simp⟩
theorem units_last (L : List Pc) (E : List Un) (n : Un) (h : ufold L = (E, some n)) : units L = E ++ [n] := by unfold units; rw [h]; rfl
theorem units_nil (L : List Pc) (E : List Un) (h : ufold L = (E, none)) : L = [] ∧ E = [] := by
  rcases List.eq_nil_or_concat L with rfl | ⟨D, p, rfl⟩
  · simp [ufold] at h; exact ⟨rfl, h⟩
  · rw [List.concat_eq_append, ufold_snoc] at h
    obtain ⟨E', n, h'⟩ := ustep_some (ufold D) p
    rw [h'] at h; simp at h
/-- Where the pieces of a text end so far. -/
theorem ufold_end (l : List UInt8) : ∀ (k : Nat) (L B : List Pc), L.length ≤ k → pcs l = L ++ B → ∀ E n, ufold L = (E, some n) → n.f < n.t ∧ n.t ≤ l.length ∧ (∀ p, B[0]? = some p → p.i = n.t) ∧ (B = [] → n.t = l.length)
  | 0, L, B, hk, h, E, n, hr => by
    have : L = [] := List.eq_nil_of_length_eq_zero (by omega)
    subst this; simp [ufold] at hr
  | k + 1, L, B, hk, h, E, n, hr => by
    rcases List.eq_nil_or_concat L with rfl | ⟨D, p, rfl⟩
    · simp [ufold] at hr
    · rw [List.concat_eq_append] at h hr hk
      obtain ⟨h1, h2, _⟩ := pcs_pos l p (by rw [h]; simp)
      obtain ⟨q1, q2, q3, q4⟩ := pcs_split l D p B (by rw [h]; simp)
      have hB : (∀ q, B[0]? = some q → q.i = p.i + p.w) ∧ (B = [] → p.i + p.w = l.length) := by
        by_cases hd' : l.drop (p.i + p.w) = []
        · rw [hd', pcsFrom_nil] at q4
          subst q4
          refine ⟨fun q hq => by simp at hq, fun _ => ?_⟩
          have := congrArg List.length hd'
          simp at this; omega
        · rw [pcsFrom_cons _ _ hd'] at q4
          refine ⟨fun q hq => ?_, fun he => ?_⟩
          · rw [q4] at hq; simp at hq; rw [← hq]
          · rw [he] at q4; cases q4
      rw [ufold_snoc] at hr
      rcases hd : ufold D with ⟨F, _ | m⟩
      · rw [hd] at hr; simp [ustep] at hr
        rw [← hr.2]; simp only [unew]; exact ⟨by omega, by omega, hB.1, hB.2⟩
      · obtain ⟨h3, h4, h5, _⟩ := ufold_end l k D (p :: B) (by simp at hk; omega) (by rw [h]; simp) F m hd
        have h6 := h5 p rfl
        rw [hd] at hr
        simp only [ustep] at hr
        by_cases hk' : pk p = 2 ∧ ubare m.k = false
        · rw [if_pos hk'] at hr
          simp at hr
          rw [← hr.2]; simp only; rw [← h6]; exact ⟨by omega, by omega, hB.1, hB.2⟩
        · rw [if_neg hk'] at hr
          simp at hr
          rw [← hr.2]; simp only [unew]; exact ⟨by omega, by omega, hB.1, hB.2⟩

/-! ### The scanner -/
structure Tk where
  k : Int
  f : Nat
  t : Nat
  deriving DecidableEq
def joint (u : Un) : Bool := u.al && (u.r == 0x27 || u.r == 0x2019 || u.r == 0x2D || u.r == 0x2010)
def dot (u : Un) : Bool := u.al && (u.r == 0x2C || u.r == 0x2E)
/-- The scanner's next state, and what becomes of a unit: 0 begins, 1 takes, 2 holds. -/
def fits (st : Int) (u : Un) : Int × Int :=
  if st = 1 ∨ st = 2 then (if u.k = 1 then (1, 1) else if st = 1 ∧ joint u = true then (2, 2) else (st, 0))
  else if st = 3 ∨ st = 4 then (if u.k = 3 then (3, 1) else if st = 3 ∧ dot u = true then (4, 2) else (st, 0))
  else if st = 5 then (if u.k = 5 then (5, 1) else (5, 0))
  else if st = 6 then (if u.k = 11 then (6, 1) else (6, 0))
  else if st = 8 then (if u.k = 4 ∧ u.r = 10 then (7, 1) else (8, 0))
  else (st, 0)
/-- State and token's kind that a unit begins. -/
def begins (u : Un) : Int × Int :=
  if u.k = 1 then (1, 1) else if u.k = 3 then (3, 2) else if u.k = 5 then (5, 3) else if u.k = 11 then (6, 7)
  else if u.k = 4 then (if u.r = 13 then 8 else 7, 4) else if u.k = 6 ∨ u.k = 7 ∨ u.k = 8 then (9, 5) else (9, 6)
structure Sc where
  st : Int
  tk : Tk
  h : Un
def ended (s : Sc) : List Tk := if s.st = 0 then [] else if s.st = 2 ∨ s.st = 4 then [s.tk, ⟨5, s.h.f, s.h.t⟩] else [s.tk]
def began (s : Sc) (u : Un) : Sc := ⟨(begins u).1, ⟨(begins u).2, u.f, u.t⟩, s.h⟩
def mstep (S : List Tk × Sc) (u : Un) : List Tk × Sc :=
  if (fits S.2.st u).2 = 2 then (S.1, ⟨(fits S.2.st u).1, S.2.tk, u⟩)
  else if (fits S.2.st u).2 = 1 then (S.1, ⟨(fits S.2.st u).1, ⟨S.2.tk.k, S.2.tk.f, u.t⟩, S.2.h⟩)
  else (S.1 ++ ended S.2, began S.2 u)
def sc0 : Sc := ⟨0, ⟨0, 0, 0⟩, ⟨0, 0, 0, 0, false⟩⟩
def mfold (us : List Un) : List Tk × Sc := us.foldl mstep ([], sc0)
def scan (us : List Un) : List Tk := (mfold us).1 ++ ended (mfold us).2
theorem mfold_snoc (us : List Un) (u : Un) : mfold (us ++ [u]) = mstep (mfold us) u := by simp [mfold]
theorem mstep_pre : ∀ (us : List Un) (S : List Tk × Sc), ∃ q, (us.foldl mstep S).1 = S.1 ++ q
  | [], S => ⟨[], by simp⟩
  | u :: us, S => by
    obtain ⟨q, hq⟩ := mstep_pre us (mstep S u)
    simp only [List.foldl_cons]
    rw [hq]
    unfold mstep
    split
    · exact ⟨q, rfl⟩
    · split
      · exact ⟨q, rfl⟩
      · exact ⟨ended S.2 ++ q, by simp⟩
theorem mstep_begin (S : List Tk × Sc) (u : Un) (h1 : (fits S.2.st u).2 ≠ 2) (h2 : (fits S.2.st u).2 ≠ 1) : mstep S u = (S.1 ++ ended S.2, began S.2 u) := by
  unfold mstep; rw [if_neg h1, if_neg h2]
/-- What the scanner tells as it meets a unit that begins a token is told of the whole. -/
theorem scan_at (pre post : List Un) (u : Un) (h : (fits (mfold pre).2.st u).2 ≠ 2 ∧ (fits (mfold pre).2.st u).2 ≠ 1) : ∃ q, scan (pre ++ u :: post) = (mfold pre).1 ++ ended (mfold pre).2 ++ q := by
  have h1 : mfold (pre ++ u :: post) = post.foldl mstep ((mfold pre).1 ++ ended (mfold pre).2, began (mfold pre).2 u) := by
    rw [← mstep_begin _ _ h.1 h.2]
    simp [mfold, List.foldl_append]
  obtain ⟨q, hq⟩ := mstep_pre post ((mfold pre).1 ++ ended (mfold pre).2, began (mfold pre).2 u)
  unfold scan; rw [h1, hq]
  exact ⟨_, List.append_assoc _ _ _⟩

/-! ### The document's tokens -/
def isK (us : List Un) (k : Int) : Bool := match us with | [] => false | u :: _ => u.k == k
def oneOf (js : List Nat) (u : Un) : Bool := u.al && u.k != 11 && js.contains u.r
/-- How many units behind the first one go with it. -/
def runN (k : Int) (js : List Nat) : List Un → Nat
  | [] => 0
  | u :: us => if u.k = k then 1 + runN k js us else if oneOf js u = true ∧ isK us k = true then 1 + runN k js us else 0
def JW : List Nat := [0x27, 0x2019, 0x2D, 0x2010]
def JD : List Nat := [0x2C, 0x2E]
def behind (u : Un) (us : List Un) : Nat :=
  if u.k = 1 then runN 1 JW us else if u.k = 3 then runN 3 JD us else if u.k = 5 then runN 5 [] us else if u.k = 11 then runN 11 [] us
  else if u.k = 4 then (match us with | [] => 0 | v :: _ => if u.r = 13 ∧ v.k = 4 ∧ v.r = 10 then 1 else 0) else 0
/-- Where a token ends that has n units behind its first. -/
def endOf (t : Nat) (us : List Un) : Nat → Nat
  | 0 => t
  | n + 1 => match us with | [] => t | v :: vs => endOf v.t vs n
def toksR : List Un → List Tk
  | [] => []
  | u :: us => ⟨(begins u).2, u.f, endOf u.t us (behind u us)⟩ :: toksR (us.drop (behind u us))
termination_by us => us.length
decreasing_by simp only [List.length_drop, List.length_cons]; omega

def rest (s : Sc) (us : List Un) : List Tk := (us.foldl mstep ([], s)).1 ++ ended (us.foldl mstep ([], s)).2
theorem mstep_shift (E : List Tk) (F : List Tk) (s : Sc) (u : Un) : mstep (E ++ F, s) u = (E ++ (mstep (F, s) u).1, (mstep (F, s) u).2) := by
  unfold mstep
  split
  · rfl
  · split
    · rfl
    · simp
theorem fold_shift : ∀ (us : List Un) (E F : List Tk) (s : Sc), us.foldl mstep (E ++ F, s) = (E ++ (us.foldl mstep (F, s)).1, (us.foldl mstep (F, s)).2)
  | [], E, F, s => rfl
  | u :: us, E, F, s => by
    simp only [List.foldl_cons]
    rw [mstep_shift, fold_shift us]
theorem rest_nil (s : Sc) : rest s [] = ended s := by simp [rest]
theorem rest_hold (s : Sc) (u : Un) (us : List Un) (h : (fits s.st u).2 = 2) : rest s (u :: us) = rest ⟨(fits s.st u).1, s.tk, u⟩ us := by
  unfold rest; simp only [List.foldl_cons]; rw [show mstep ([], s) u = ([], ⟨(fits s.st u).1, s.tk, u⟩) by unfold mstep; rw [if_pos h]]
theorem rest_take (s : Sc) (u : Un) (us : List Un) (h : (fits s.st u).2 = 1) : rest s (u :: us) = rest ⟨(fits s.st u).1, ⟨s.tk.k, s.tk.f, u.t⟩, s.h⟩ us := by
  unfold rest; simp only [List.foldl_cons]
  rw [show mstep ([], s) u = ([], ⟨(fits s.st u).1, ⟨s.tk.k, s.tk.f, u.t⟩, s.h⟩) by unfold mstep; rw [if_neg (by simp only; rw [h]; decide), if_pos h]]
theorem rest_begin (s : Sc) (u : Un) (us : List Un) (h : (fits s.st u).2 = 0) : rest s (u :: us) = ended s ++ rest (began s u) us := by
  unfold rest; simp only [List.foldl_cons]
  rw [show mstep ([], s) u = (ended s ++ [], began s u) by unfold mstep; rw [if_neg (by simp only; rw [h]; decide), if_neg (by simp only; rw [h]; decide)]; simp, fold_shift]
  simp
/-- A unit's kind is that of its first piece. -/
def WF (u : Un) : Prop := (u.k = 11 ∧ u.r = 65533) ∨ u.k = kind (u.r : Int)
theorem joint_kind {u : Un} (h : WF u) (hj : joint u = true) : (u.k = 6 ∨ u.k = 7) := by
  unfold joint at hj
  simp only [Bool.and_eq_true, Bool.or_eq_true, beq_iff_eq] at hj
  rcases h with ⟨_, hr⟩ | h
  · omega
  · rcases hj.2 with ((h1 | h1) | h1) | h1 <;> rw [h1] at h <;> rw [h] <;> decide
theorem dot_kind {u : Un} (h : WF u) (hj : dot u = true) : u.k = 8 := by
  unfold dot at hj
  simp only [Bool.and_eq_true, Bool.or_eq_true, beq_iff_eq] at hj
  rcases h with ⟨_, hr⟩ | h
  · omega
  · rcases hj.2 with h1 | h1 <;> rw [h1] at h <;> rw [h] <;> decide
theorem one_joint {u : Un} (h : WF u) : oneOf JW u = joint u := by
  unfold oneOf joint JW
  by_cases hk : u.k = 11
  · rcases h with ⟨_, hr⟩ | h
    · simp [hk, hr]
    · by_cases h1 : u.r = 0x27 ∨ u.r = 0x2019 ∨ u.r = 0x2D ∨ u.r = 0x2010
      · exfalso
        rcases h1 with h1 | h1 | h1 | h1 <;> rw [h1] at h <;> rw [h] at hk <;> revert hk <;> decide
      · simp [hk]; intro _; omega
  · rw [Bool.eq_iff_iff]; simp [hk, or_assoc]
theorem one_dot {u : Un} (h : WF u) : oneOf JD u = dot u := by
  unfold oneOf dot JD
  by_cases hk : u.k = 11
  · rcases h with ⟨_, hr⟩ | h
    · simp [hk, hr]
    · by_cases h1 : u.r = 0x2C ∨ u.r = 0x2E
      · exfalso
        rcases h1 with h1 | h1 <;> rw [h1] at h <;> rw [h] at hk <;> revert hk <;> decide
      · simp [hk]; intro _; omega
  · rw [Bool.eq_iff_iff]; simp [hk]
theorem runN_nil (k : Int) : ∀ us : List Un, ∀ u, u.k ≠ k → runN k [] (u :: us) = 0 := by
  intro us u h; simp [runN, h, oneOf]
/-- The tail of a word, a number. -/
theorem rest_run (kd : Int) (js : List Nat) (jt : Un → Bool) (m : Nat)
    (hf1 : ∀ u, fits kd u = if u.k = kd then (kd, 1) else if jt u = true then (kd + 1, 2) else (kd, 0))
    (hf2 : ∀ u, fits (kd + 1) u = if u.k = kd then (kd, 1) else (kd + 1, 0))
    (he1 : ∀ t h, ended ⟨kd, t, h⟩ = [t]) (he2 : ∀ t h, ended ⟨kd + 1, t, h⟩ = [t, ⟨5, h.f, h.t⟩])
    (hj : ∀ u, WF u → oneOf js u = jt u) (hk : ∀ u us, WF u → jt u = true → u.k ≠ kd ∧ behind u us = 0 ∧ (begins u).2 = 5)
    (hm : ∀ s u us, (u :: us).length ≤ m → (∀ v ∈ u :: us, WF v) → rest (began s u) us = toksR (u :: us)) :
    ∀ (n : Nat) (us : List Un) (t : Tk) (h : Un), us.length ≤ n → us.length ≤ m → (∀ v ∈ us, WF v) → rest ⟨kd, t, h⟩ us = ⟨t.k, t.f, endOf t.t us (runN kd js us)⟩ :: toksR (us.drop (runN kd js us))
  | n, [], t, h, _, _, _ => by rw [rest_nil, he1]; simp [runN, endOf, toksR]
  | 0, u :: us, t, h, hn, _, _ => by simp at hn
  | n + 1, u :: us, t, h, hn, hml, hw => by
    have hwu := hw u (by simp)
    have ih := rest_run kd js jt m hf1 hf2 he1 he2 hj hk hm n
    by_cases h1 : u.k = kd
    · rw [rest_take _ _ _ (by simp only; rw [hf1, if_pos h1])]
      simp only [hf1, if_pos h1]
      rw [ih us _ h (by simp at hn; omega) (by simp at hml; omega) (fun v hv => hw v (by simp [hv]))]
      simp [runN, h1, Nat.add_comm 1, endOf]
    · by_cases h2 : jt u = true
      · obtain ⟨k1, k2, k3⟩ := hk u us hwu h2
        rw [rest_hold _ _ _ (by simp only; rw [hf1, if_neg h1, if_pos h2])]
        simp only [hf1, if_neg h1, if_pos h2]
        rcases us with _ | ⟨w, ws⟩
        · rw [rest_nil, he2]
          have : runN kd js [u] = 0 := by simp [runN, h1, isK]
          rw [this]
          simp only [endOf, List.drop_zero]
          rw [toksR, k2, k3]
          simp [endOf, toksR]
        · by_cases h3 : w.k = kd
          · rw [rest_take _ _ _ (by simp only; rw [hf2, if_pos h3])]
            simp only [hf2, if_pos h3]
            rw [ih ws _ u (by simp at hn; omega) (by simp at hml; omega) (fun v hv => hw v (by simp [hv]))]
            have e : runN kd js (u :: w :: ws) = runN kd js ws + 1 + 1 := by
              rw [runN, if_neg h1, if_pos ⟨by rw [hj u hwu]; exact h2, by simp [isK, h3]⟩, runN, if_pos h3]; omega
            rw [e]; simp [endOf]
          · rw [rest_begin _ _ _ (by simp only; rw [hf2, if_neg h3]), he2, hm _ w ws (by simp at hml ⊢; omega) (fun v hv => hw v (by simp at hv ⊢; exact .inr hv))]
            have e : runN kd js (u :: w :: ws) = 0 := by
              rw [runN, if_neg h1, if_neg (by simp [isK, h3])]
            rw [e]
            simp only [endOf, List.drop_zero]
            rw [toksR.eq_2 u (w :: ws), k2, k3]
            simp [endOf]
      · rw [rest_begin _ _ _ (by simp only; rw [hf1, if_neg h1, if_neg h2]), he1, hm _ u us hml hw]
        have e : runN kd js (u :: us) = 0 := by
          rw [runN, if_neg h1, if_neg (by rw [hj u hwu]; simp [h2])]
        rw [e]; simp [endOf]
theorem rest_same (kd : Int) (st : Int) (m : Nat) (hf : ∀ u, fits st u = if u.k = kd then (st, 1) else (st, 0)) (he : ∀ t h, ended ⟨st, t, h⟩ = [t])
    (hm : ∀ s u us, (u :: us).length ≤ m → (∀ v ∈ u :: us, WF v) → rest (began s u) us = toksR (u :: us)) :
    ∀ (us : List Un) (t : Tk) (h : Un), us.length ≤ m → (∀ v ∈ us, WF v) → rest ⟨st, t, h⟩ us = ⟨t.k, t.f, endOf t.t us (runN kd [] us)⟩ :: toksR (us.drop (runN kd [] us))
  | [], t, h, _, _ => by rw [rest_nil, he]; simp [runN, endOf, toksR]
  | u :: us, t, h, hml, hw => by
    by_cases h1 : u.k = kd
    · rw [rest_take _ _ _ (by simp only; rw [hf, if_pos h1])]
      simp only [hf, if_pos h1]
      rw [rest_same kd st m hf he hm us _ h (by simp at hml; omega) (fun v hv => hw v (by simp [hv]))]
      simp [runN, h1, Nat.add_comm 1, endOf]
    · rw [rest_begin _ _ _ (by simp only; rw [hf, if_neg h1]), he, hm _ u us hml hw, runN_nil kd us u h1]
      simp [endOf]
theorem rest_other (st : Int) (m : Nat) (hf : ∀ u, fits st u = (st, 0)) (he : ∀ t h, ended ⟨st, t, h⟩ = [t])
    (hm : ∀ s u us, (u :: us).length ≤ m → (∀ v ∈ u :: us, WF v) → rest (began s u) us = toksR (u :: us)) (us : List Un) (t : Tk) (h : Un) (hml : us.length ≤ m) (hw : ∀ v ∈ us, WF v) : rest ⟨st, t, h⟩ us = t :: toksR us := by
  cases us with
  | nil => rw [rest_nil, he]; simp [toksR]
  | cons u us => rw [rest_begin _ _ _ (by simp only; rw [hf]), he, hm _ u us hml hw]; rfl
theorem rest_began : ∀ (m : Nat) (s : Sc) (u : Un) (us : List Un), (u :: us).length ≤ m → (∀ v ∈ u :: us, WF v) → rest (began s u) us = toksR (u :: us)
  | 0, s, u, us, h, _ => by simp at h
  | m + 1, s, u, us, hml, hw => by
    have hm := rest_began m
    have hus : us.length ≤ m := by simp at hml; omega
    have hwu := hw u (by simp)
    have hws : ∀ v ∈ us, WF v := fun v hv => hw v (by simp [hv])
    rw [toksR]
    by_cases h1 : u.k = 1
    · have hb : began s u = ⟨1, ⟨1, u.f, u.t⟩, s.h⟩ := by simp [began, begins, h1]
      rw [hb, rest_run 1 JW joint m (fun v => by simp [fits]) (fun v => by simp [fits]) (fun t h => rfl) (fun t h => rfl) (fun v hv => one_joint hv)
        (fun v vs hv hj => by rcases joint_kind hv hj with e | e <;> simp [behind, begins, e]) hm us.length us _ _ (Nat.le_refl _) hus hws]
      simp [behind, begins, h1]
    · by_cases h3 : u.k = 3
      · have hb : began s u = ⟨3, ⟨2, u.f, u.t⟩, s.h⟩ := by simp [began, begins, h3]
        rw [hb, rest_run 3 JD dot m (fun v => by simp [fits]) (fun v => by simp [fits]) (fun t h => rfl) (fun t h => rfl) (fun v hv => one_dot hv)
          (fun v vs hv hj => by have e := dot_kind hv hj; simp [behind, begins, e]) hm us.length us _ _ (Nat.le_refl _) hus hws]
        simp [behind, begins, h3]
      · by_cases h5 : u.k = 5
        · have hb : began s u = ⟨5, ⟨3, u.f, u.t⟩, s.h⟩ := by simp [began, begins, h5]
          rw [hb, rest_same 5 5 m (fun v => by simp [fits]) (fun t h => rfl) hm us _ _ hus hws]
          simp [behind, begins, h5]
        · by_cases h11 : u.k = 11
          · have hb : began s u = ⟨6, ⟨7, u.f, u.t⟩, s.h⟩ := by simp [began, begins, h11]
            rw [hb, rest_same 11 6 m (fun v => by simp [fits]) (fun t h => rfl) hm us _ _ hus hws]
            simp [behind, begins, h11]
          · by_cases h4 : u.k = 4
            · by_cases hr : u.r = 13
              · have hb : began s u = ⟨8, ⟨4, u.f, u.t⟩, s.h⟩ := by simp [began, begins, h4, hr]
                have hbe : (begins u).2 = 4 := by simp [begins, h4]
                rw [hb, hbe]
                cases us with
                | nil => rw [rest_nil]; simp [ended, behind, h4, endOf, toksR]
                | cons v vs =>
                  by_cases hv : v.k = 4 ∧ v.r = 10
                  · rw [rest_take _ _ _ (by simp [fits, hv])]
                    have e : (fits (8 : Int) v).1 = 7 := by simp [fits, hv]
                    simp only [e]
                    rw [rest_other 7 m (fun w => by simp [fits]) (fun t h => rfl) hm vs _ _ (by simp at hus; omega) (fun w hw' => hws w (by simp [hw']))]
                    have e2 : behind u (v :: vs) = 1 := by simp [behind, h4, hr, hv]
                    rw [e2]; simp [endOf]
                  · rw [rest_begin _ _ _ (by simp [fits, hv]), hm _ v vs hus hws]
                    have e2 : behind u (v :: vs) = 0 := by simp only [behind, h4]; simp [hr, hv]
                    rw [e2]; simp [endOf, ended]
              · have hb : began s u = ⟨7, ⟨4, u.f, u.t⟩, s.h⟩ := by simp [began, begins, h4, hr]
                rw [hb, rest_other 7 m (fun w => by simp [fits]) (fun t h => rfl) hm us _ _ hus hws]
                have e2 : behind u us = 0 := by cases us <;> simp [behind, h4, hr]
                rw [e2]; simp [endOf, begins, h4]
            · have hb : began s u = ⟨9, ⟨(begins u).2, u.f, u.t⟩, s.h⟩ := by
                by_cases h6 : u.k = 6 ∨ u.k = 7 ∨ u.k = 8 <;> simp [began, begins, h1, h3, h5, h11, h4, h6]
              rw [hb, rest_other 9 m (fun w => by simp [fits]) (fun t h => rfl) hm us _ _ hus hws]
              have e2 : behind u us = 0 := by simp [behind, h1, h3, h5, h11, h4]
              rw [e2]; simp [endOf]
/-- **The scanner tells the document's tokens.** -/
theorem scan_toksR (us : List Un) (hw : ∀ v ∈ us, WF v) : scan us = toksR us := by
  cases us with
  | nil => simp [scan, mfold, sc0, ended, toksR]
  | cons u us =>
    show rest sc0 (u :: us) = _
    rw [rest_begin _ _ _ (by simp [fits, sc0]), rest_began _ _ _ _ (Nat.le_refl _) hw]
    simp [ended, sc0]
end Go.Proofs.Ytlamcpgnmeileaa
namespace Go.Proofs.Ytlamcpgnmeileaa
open Go.RowKit Go.Lib
set_option linter.unusedVariables false
set_option linter.unusedSimpArgs false
theorem enc_ne_lost (r : Int) (hv : 0 ≤ r ∧ (r < 55296 ∨ (57343 < r ∧ r ≤ 1114111))) (hr : ¬ r = 65533) : ¬ Utf8.encode r = ⟨#[239, 191, 189]⟩ := by
  intro h
  obtain ⟨n, rfl⟩ := Int.eq_ofNat_of_zero_le hv.1
  have h1 : encodeRune ((n : Nat) : Int) = [239, 191, 189] := by rw [← encode_list, h]
  have h2 := dec_enc n (by omega) []
  have h3 := dec_enc 65533 (by omega) []
  rw [h1] at h2
  rw [enc_lost] at h3
  rw [h2] at h3
  have := (Prod.mk.inj h3).1
  omega
/-- The text from a piece on begins with that piece. -/
theorem pcs_head (s : ByteArray) (p : Pc) (hp : p ∈ pcs s.data.toList) : (pcs (s.extract p.i s.size).data.toList)[0]? = some ⟨0, p.w, p.r⟩ := by
  obtain ⟨g1, g2, hok⟩ := pcs_pos s.data.toList p hp
  have hlen : s.data.toList.length = s.size := by rw [Array.length_toList]; rfl
  have he := ext_end s p.i
  rw [he]
  have hne : s.data.toList.drop p.i ≠ [] := by
    intro h; have := congrArg List.length h; simp at this; omega
  unfold pcs
  rw [pcsFrom_cons _ _ hne, hok.eq]; rfl
set_option maxRecDepth 100000 in
set_option maxHeartbeats 4000000 in
theorem width_p (r : Int) (hv : 0 ≤ r ∧ (r < 55296 ∨ (57343 < r ∧ r ≤ 1114111))) : FnP Try.prog 81 [.int .i32 r] (.int .i64 ((Utf8.encode r).size : Int)) := by
 by_cases hr : r = 65533
 ·
  skip
  refine FnP.intro Try.func81 rfl Try.ntmps81 (by simp) ?_
  intro w0 K
  refine TC.seq (TC.region (TO.assign rfl (by decide) rfl (TO.nil (TX.next (TC.seq (TC.seq (TC.region (TO.move rfl (by decide) rfl (TO.bin rfl (by decide) rfl rfl (bin_known (congrArg Value.bool (show ((r : Int) != 65533) = false from (bne_eq_false_iff_eq.2 hr))) bin_neq) (TO.move rfl (by decide) rfl (TO.skip rfl (by decide) (TO.skip rfl (by decide) (TO.skip rfl (by decide) ?_)))))))))))))
  refine TO.pick (b := false) rfl (by decide) rfl rfl (TO.nil (TX.next (TC.condF rfl (TC.skip (TX.next (TC.seq (TC.region (TO.move rfl (by decide) rfl (TO.conv rfl (by decide) rfl (conv_rune Try.underlying21 Try.underlying9) (TO.lenStr rfl (by decide) rfl Try.underlying9 (TO.assign rfl (by decide) rfl (TO.nil (TX.next ?_)))))))))))))
  refine TC.ret ?_
  exact TX.fin (rs := [.tmp 2]) () (.inl rfl) Try.results81 (.cons (.tmp rfl) .nil) rfl Splits.nil
 ·
  skip
  refine FnP.intro Try.func81 rfl Try.ntmps81 (by simp) ?_
  intro w0 K
  refine TC.seq (TC.region (TO.assign rfl (by decide) rfl (TO.nil (TX.next (TC.seq (TC.seq (TC.region (TO.move rfl (by decide) rfl (TO.bin rfl (by decide) rfl rfl (bin_known (congrArg Value.bool (show ((r : Int) != 65533) = true from (bne_iff_ne.2 hr))) bin_neq) (TO.move rfl (by decide) rfl (TO.move rfl (by decide) rfl (TO.conv rfl (by decide) rfl (conv_rune Try.underlying21 Try.underlying9) (TO.bin rfl (by decide) rfl rfl (bin_known (congrArg Value.bool (show (decide (Utf8.encode r = ⟨#[239, 191, 189]⟩)) = false from (decide_eq_false (enc_ne_lost r hv hr)))) bin_seql) ?_)))))))))))))
  refine TO.pick (b := true) rfl (by decide) rfl rfl (TO.nil (TX.next (TC.condF rfl (TC.skip (TX.next (TC.seq (TC.region (TO.move rfl (by decide) rfl (TO.conv rfl (by decide) rfl (conv_rune Try.underlying21 Try.underlying9) (TO.lenStr rfl (by decide) rfl Try.underlying9 (TO.assign rfl (by decide) rfl (TO.nil (TX.next ?_)))))))))))))
  refine TC.ret ?_
  exact TX.fin (rs := [.tmp 2]) () (.inl rfl) Try.results81 (.cons (.tmp rfl) .nil) rfl Splits.nil

set_option maxRecDepth 100000 in
set_option maxHeartbeats 4000000 in
theorem read_p (s : ByteArray) (hs : s.size ≤ 9223372036854775800) (p : Pc) (hp : p ∈ pcs s.data.toList) : FnP Try.prog 59 [.string s, .int .i64 p.i] (.agg #[.int .i64 p.i, .int .i64 p.w, .int .i32 p.r, .bool p.broken]) := by
 obtain ⟨g1, g2, hok⟩ := pcs_pos s.data.toList p hp
 have hlen : s.data.toList.length = s.size := by rw [Array.length_toList]; rfl
 rw [hlen] at g2
 have hval := hok.valid
 have hq := pcs_head s p hp
 have hsl3 : p.i + 3 ≤ s.size → (s.extract p.i (p.i + 3)).data.toList = (s.data.toList.drop p.i).take 3 := fun h => by rw [Lib.extract_data]; simp
 by_cases hr : p.r = 65533
 ·
  by_cases hw : p.w = 1
  ·
   have hb : p.broken = true := by simp [Pc.broken, hr, hw]
   have hres : resVal [.agg #[.int .i64 p.i, .int .i64 1, .int .i32 65533, .bool true]] = Value.agg #[.int .i64 p.i, .int .i64 p.w, .int .i32 p.r, .bool p.broken] := by rw [hb, hr, hw]; rfl
   by_cases h3 : s.size - p.i < 3
   ·
    skip
    refine FnP.intro Try.func59 rfl Try.ntmps59 (by simp) ?_
    intro w0 K
    refine TC.seq (TC.region ?_)
    refine TO.alloc zr_55 rfl (by decide) (fun b1 => ?_)
    refine TO.nil (TX.next (TC.seq (TC.seq (TC.region (TO.move rfl (by decide) rfl (TO.move rfl (by decide) rfl (TO.slice rfl (by decide) rfl rfl rfl (slice_string (i := p.i) (j := s.size) Try.underlying9 (.inr rfl) (.inl ⟨rfl, rfl⟩) (by omega) (Nat.le_refl _)) ?_)))))))
    refine TO.rangeStr Try.underlying9 rfl (by decide) rfl (fun b2 => ?_)
    show TO _ _ _ _ _ _ _ _ _ _ [cells b1 [.int .i64 0, .int .i64 0, .int .i32 0, .bool false] 55, obj b2 (.stringIter (s.extract p.i s.size) (posAt (s.extract p.i s.size) 0))]
    refine TO.nil (TX.next (TC.block ?_))
    refine TC.loop (β := Unit) (fun _u => True) (fun _u => [(0, .string s), (1, .int .i64 (p.i : Int)), (4, .pointer (some ⟨b1, 0, none⟩)), (11, .pointer (some ⟨b2, 0, none⟩))]) (fun _u => [cells b1 [.int .i64 0, .int .i64 0, .int .i32 0, .bool false] 55, obj b2 (.stringIter (s.extract p.i s.size) (posAt (s.extract p.i s.size) 0))]) (fun _u => 0) () trivial (Sbs.cons rfl (Sbs.cons rfl (Sbs.cons rfl (Sbs.cons rfl (Sbs.nil))))) (Splits.of [0, 1] (by as_aux_lemma => kernel_rfl) rfl) ?_
    rintro _ _
    refine TC.seq (TC.region (TO.nextStr (k := 1) (m := 0) (p := ⟨0, p.w, p.r⟩) rfl (by decide) rfl rfl hq (TO.extract rfl (by decide) rfl rfl (TO.nil (TX.next (TC.seq (TC.condT rfl (TC.skip (TX.next (TC.block (TC.seq (TC.region (TO.extract rfl (by decide) rfl rfl ?_)))))))))))))
    refine TO.assign rfl (by decide) rfl (TO.nil (TX.next (TC.seq (TC.region (TO.move rfl (by decide) rfl (TO.callP (v := .int .i64 ((Utf8.encode (p.r : Int)).size : Int)) (vs := [.int .i32 (p.r : Int)]) rfl (by decide) rfl rfl rfl en_81 (width_p _ (by omega)) (TO.assign rfl (by decide) rfl (TO.nil (TX.next (TC.seq (TC.seq (TC.region (TO.move rfl (by decide) rfl ?_)))))))))))))
    refine TO.bin rfl (by decide) rfl rfl (bin_known (congrArg Value.bool (show (((p.r : Int) : Int) == 65533) = true from (beq_iff_eq.2 (by omega)))) bin_eql) (TO.move rfl (by decide) rfl (TO.move rfl (by decide) rfl (TO.lenStr rfl (by decide) rfl Try.underlying9 (TO.move rfl (by decide) rfl (TO.bin rfl (by decide) rfl rfl (bin_sub (r := (s.size : Int) - (p.i : Int)) (IntWalk.i64_in _ (by omega))) (TO.bin rfl (by decide) rfl rfl (bin_known (congrArg Value.bool (show (decide ((((s.size : Int) - (p.i : Int)) : Int) < 3)) = true from (decide_eq_true (by omega)))) bin_lss) (TO.move rfl (by decide) rfl (TO.skip rfl (by decide) (TO.skip rfl (by decide) (TO.skip rfl (by decide) (TO.skip rfl (by decide) (TO.skip rfl (by decide) (TO.skip rfl (by decide) ?_)))))))))))))
    refine TO.pick (b := true) rfl (by decide) rfl rfl (TO.pick (b := true) rfl (by decide) rfl rfl (TO.nil (TX.next (TC.condT rfl (TC.seq (TC.region (TO.move rfl (by decide) rfl ?_)))))))
    refine TO.build (v := .agg #[.int .i64 (p.i : Int), .int .i64 1, .int .i32 65533, .bool true]) (ps := [(0, .tmp 34), (1, .const (.int .i64 1)), (2, .const (.int .i32 65533)), (3, .const (.bool true))]) rfl (by decide) rfl (fun _ => by kernel_rfl) ?_
    refine TO.stores (k := 0) (vs := [.int .i64 (p.i : Int), .int .i64 1, .int .i32 65533, .bool true]) (l' := [.int .i64 (p.i : Int), .int .i64 1, .int .i32 65533, .bool true]) sz_55 rfl rfl rfl rfl rfl (show _ ≤ _ by simp) rfl rfl ?_
    show TO _ _ _ _ _ _ _ _ _ _ [cells b1 [.int .i64 (p.i : Int), .int .i64 1, .int .i32 65533, .bool true] 55, obj b2 (.stringIter (s.extract p.i s.size) (posAt (s.extract p.i s.size) (0 + 1)))]
    refine TO.nil (TX.next (TC.ret (TX.thenRet (TX.blockRet (TX.thenRet (TX.blockRet (TX.thenRet ?_)))))))
    exact TX.fin (rs := [.cell 4 55]) () (.inl rfl) Try.results59 (.cons (.cells rw_55 (k := 0) rfl rfl rfl) .nil) hres Splits.nil
   ·
    have hsl : ¬ s.extract p.i (p.i + 3) = ⟨#[239, 191, 189]⟩ := fun h => hok.lost_bad hr hw (by rw [← hsl3 (by omega), h])
    refine FnP.intro Try.func59 rfl Try.ntmps59 (by simp) ?_
    intro w0 K
    refine TC.seq (TC.region ?_)
    refine TO.alloc zr_55 rfl (by decide) (fun b1 => ?_)
    refine TO.nil (TX.next (TC.seq (TC.seq (TC.region (TO.move rfl (by decide) rfl (TO.move rfl (by decide) rfl (TO.slice rfl (by decide) rfl rfl rfl (slice_string (i := p.i) (j := s.size) Try.underlying9 (.inr rfl) (.inl ⟨rfl, rfl⟩) (by omega) (Nat.le_refl _)) ?_)))))))
    refine TO.rangeStr Try.underlying9 rfl (by decide) rfl (fun b2 => ?_)
    show TO _ _ _ _ _ _ _ _ _ _ [cells b1 [.int .i64 0, .int .i64 0, .int .i32 0, .bool false] 55, obj b2 (.stringIter (s.extract p.i s.size) (posAt (s.extract p.i s.size) 0))]
    refine TO.nil (TX.next (TC.block ?_))
    refine TC.loop (β := Unit) (fun _u => True) (fun _u => [(0, .string s), (1, .int .i64 (p.i : Int)), (4, .pointer (some ⟨b1, 0, none⟩)), (11, .pointer (some ⟨b2, 0, none⟩))]) (fun _u => [cells b1 [.int .i64 0, .int .i64 0, .int .i32 0, .bool false] 55, obj b2 (.stringIter (s.extract p.i s.size) (posAt (s.extract p.i s.size) 0))]) (fun _u => 0) () trivial (Sbs.cons rfl (Sbs.cons rfl (Sbs.cons rfl (Sbs.cons rfl (Sbs.nil))))) (Splits.of [0, 1] (by as_aux_lemma => kernel_rfl) rfl) ?_
    rintro _ _
    refine TC.seq (TC.region (TO.nextStr (k := 1) (m := 0) (p := ⟨0, p.w, p.r⟩) rfl (by decide) rfl rfl hq (TO.extract rfl (by decide) rfl rfl (TO.nil (TX.next (TC.seq (TC.condT rfl (TC.skip (TX.next (TC.block (TC.seq (TC.region (TO.extract rfl (by decide) rfl rfl ?_)))))))))))))
    refine TO.assign rfl (by decide) rfl (TO.nil (TX.next (TC.seq (TC.region (TO.move rfl (by decide) rfl (TO.callP (v := .int .i64 ((Utf8.encode (p.r : Int)).size : Int)) (vs := [.int .i32 (p.r : Int)]) rfl (by decide) rfl rfl rfl en_81 (width_p _ (by omega)) (TO.assign rfl (by decide) rfl (TO.nil (TX.next (TC.seq (TC.seq (TC.region (TO.move rfl (by decide) rfl ?_)))))))))))))
    refine TO.bin rfl (by decide) rfl rfl (bin_known (congrArg Value.bool (show (((p.r : Int) : Int) == 65533) = true from (beq_iff_eq.2 (by omega)))) bin_eql) (TO.move rfl (by decide) rfl (TO.move rfl (by decide) rfl (TO.lenStr rfl (by decide) rfl Try.underlying9 (TO.move rfl (by decide) rfl (TO.bin rfl (by decide) rfl rfl (bin_sub (r := (s.size : Int) - (p.i : Int)) (IntWalk.i64_in _ (by omega))) (TO.bin rfl (by decide) rfl rfl (bin_known (congrArg Value.bool (show (decide ((((s.size : Int) - (p.i : Int)) : Int) < 3)) = false from (decide_eq_false (by omega)))) bin_lss) (TO.move rfl (by decide) rfl (TO.move rfl (by decide) rfl (TO.move rfl (by decide) rfl (TO.move rfl (by decide) rfl (TO.bin rfl (by decide) rfl rfl (bin_add (r := ((p.i + 3 : Nat) : Int)) (by rw [IntWalk.i64_in _ (by omega)]; omega)) (TO.slice rfl (by decide) rfl rfl rfl (slice_string (i := p.i) (j := p.i + 3) Try.underlying9 (.inr rfl) (.inr rfl) (by omega) (by omega)) (TO.bin rfl (by decide) rfl rfl (bin_known (congrArg Value.bool (show (!decide (s.extract p.i (p.i + 3) = ⟨#[239, 191, 189]⟩)) = true from (by rw [decide_eq_false hsl]; rfl))) bin_sneq) ?_)))))))))))))
    refine TO.pick (b := false) rfl (by decide) rfl rfl (TO.pick (b := true) rfl (by decide) rfl rfl (TO.nil (TX.next (TC.condT rfl (TC.seq (TC.region (TO.move rfl (by decide) rfl ?_)))))))
    refine TO.build (v := .agg #[.int .i64 (p.i : Int), .int .i64 1, .int .i32 65533, .bool true]) (ps := [(0, .tmp 34), (1, .const (.int .i64 1)), (2, .const (.int .i32 65533)), (3, .const (.bool true))]) rfl (by decide) rfl (fun _ => by kernel_rfl) ?_
    refine TO.stores (k := 0) (vs := [.int .i64 (p.i : Int), .int .i64 1, .int .i32 65533, .bool true]) (l' := [.int .i64 (p.i : Int), .int .i64 1, .int .i32 65533, .bool true]) sz_55 rfl rfl rfl rfl rfl (show _ ≤ _ by simp) rfl rfl ?_
    show TO _ _ _ _ _ _ _ _ _ _ [cells b1 [.int .i64 (p.i : Int), .int .i64 1, .int .i32 65533, .bool true] 55, obj b2 (.stringIter (s.extract p.i s.size) (posAt (s.extract p.i s.size) (0 + 1)))]
    refine TO.nil (TX.next (TC.ret (TX.thenRet (TX.blockRet (TX.thenRet (TX.blockRet (TX.thenRet ?_)))))))
    exact TX.fin (rs := [.cell 4 55]) () (.inl rfl) Try.results59 (.cons (.cells rw_55 (k := 0) rfl rfl rfl) .nil) hres Splits.nil
  ·
   have hb : p.broken = false := by simp [Pc.broken, hw]
   obtain ⟨e1, e2⟩ := hok.lost_ok hr hw
   have hsz : (Utf8.encode (p.r : Int)).size = p.w := by rw [encode_size]; exact hok.width (fun h => hw h.2)
   have hres : resVal [.agg #[.int .i64 p.i, .int .i64 ((Utf8.encode (p.r : Int)).size : Int), .int .i32 p.r, .bool false]] = Value.agg #[.int .i64 p.i, .int .i64 p.w, .int .i32 p.r, .bool p.broken] := by rw [hb, hsz]; rfl
   have hsl : s.extract p.i (p.i + 3) = ⟨#[239, 191, 189]⟩ := by apply ByteArray.ext; apply Array.toList_inj.1; rw [hsl3 (by omega), e1]
   refine FnP.intro Try.func59 rfl Try.ntmps59 (by simp) ?_
   intro w0 K
   refine TC.seq (TC.region ?_)
   refine TO.alloc zr_55 rfl (by decide) (fun b1 => ?_)
   refine TO.nil (TX.next (TC.seq (TC.seq (TC.region (TO.move rfl (by decide) rfl (TO.move rfl (by decide) rfl (TO.slice rfl (by decide) rfl rfl rfl (slice_string (i := p.i) (j := s.size) Try.underlying9 (.inr rfl) (.inl ⟨rfl, rfl⟩) (by omega) (Nat.le_refl _)) ?_)))))))
   refine TO.rangeStr Try.underlying9 rfl (by decide) rfl (fun b2 => ?_)
   show TO _ _ _ _ _ _ _ _ _ _ [cells b1 [.int .i64 0, .int .i64 0, .int .i32 0, .bool false] 55, obj b2 (.stringIter (s.extract p.i s.size) (posAt (s.extract p.i s.size) 0))]
   refine TO.nil (TX.next (TC.block ?_))
   refine TC.loop (β := Unit) (fun _u => True) (fun _u => [(0, .string s), (1, .int .i64 (p.i : Int)), (4, .pointer (some ⟨b1, 0, none⟩)), (11, .pointer (some ⟨b2, 0, none⟩))]) (fun _u => [cells b1 [.int .i64 0, .int .i64 0, .int .i32 0, .bool false] 55, obj b2 (.stringIter (s.extract p.i s.size) (posAt (s.extract p.i s.size) 0))]) (fun _u => 0) () trivial (Sbs.cons rfl (Sbs.cons rfl (Sbs.cons rfl (Sbs.cons rfl (Sbs.nil))))) (Splits.of [0, 1] (by as_aux_lemma => kernel_rfl) rfl) ?_
   rintro _ _
   refine TC.seq (TC.region (TO.nextStr (k := 1) (m := 0) (p := ⟨0, p.w, p.r⟩) rfl (by decide) rfl rfl hq (TO.extract rfl (by decide) rfl rfl (TO.nil (TX.next (TC.seq (TC.condT rfl (TC.skip (TX.next (TC.block (TC.seq (TC.region (TO.extract rfl (by decide) rfl rfl ?_)))))))))))))
   refine TO.assign rfl (by decide) rfl (TO.nil (TX.next (TC.seq (TC.region (TO.move rfl (by decide) rfl (TO.callP (v := .int .i64 ((Utf8.encode (p.r : Int)).size : Int)) (vs := [.int .i32 (p.r : Int)]) rfl (by decide) rfl rfl rfl en_81 (width_p _ (by omega)) (TO.assign rfl (by decide) rfl (TO.nil (TX.next (TC.seq (TC.seq (TC.region (TO.move rfl (by decide) rfl ?_)))))))))))))
   refine TO.bin rfl (by decide) rfl rfl (bin_known (congrArg Value.bool (show (((p.r : Int) : Int) == 65533) = true from (beq_iff_eq.2 (by omega)))) bin_eql) (TO.move rfl (by decide) rfl (TO.move rfl (by decide) rfl (TO.lenStr rfl (by decide) rfl Try.underlying9 (TO.move rfl (by decide) rfl (TO.bin rfl (by decide) rfl rfl (bin_sub (r := (s.size : Int) - (p.i : Int)) (IntWalk.i64_in _ (by omega))) (TO.bin rfl (by decide) rfl rfl (bin_known (congrArg Value.bool (show (decide ((((s.size : Int) - (p.i : Int)) : Int) < 3)) = false from (decide_eq_false (by omega)))) bin_lss) (TO.move rfl (by decide) rfl (TO.move rfl (by decide) rfl (TO.move rfl (by decide) rfl (TO.move rfl (by decide) rfl (TO.bin rfl (by decide) rfl rfl (bin_add (r := ((p.i + 3 : Nat) : Int)) (by rw [IntWalk.i64_in _ (by omega)]; omega)) (TO.slice rfl (by decide) rfl rfl rfl (slice_string (i := p.i) (j := p.i + 3) Try.underlying9 (.inr rfl) (.inr rfl) (by omega) (by omega)) (TO.bin rfl (by decide) rfl rfl (bin_known (congrArg Value.bool (show (!decide (s.extract p.i (p.i + 3) = ⟨#[239, 191, 189]⟩)) = false from (by rw [decide_eq_true hsl]; rfl))) bin_sneq) ?_)))))))))))))
   refine TO.pick (b := false) rfl (by decide) rfl rfl (TO.pick (b := true) rfl (by decide) rfl rfl (TO.nil (TX.next (TC.condF rfl (TC.skip (TX.next (TC.seq (TC.region (TO.move rfl (by decide) rfl (TO.move rfl (by decide) rfl (TO.move rfl (by decide) rfl ?_)))))))))))
   refine TO.build (v := .agg #[.int .i64 (p.i : Int), .int .i64 ((Utf8.encode (p.r : Int)).size : Int), .int .i32 (p.r : Int), .bool false]) (ps := [(0, .tmp 36), (1, .tmp 37), (2, .tmp 38)]) rfl (by decide) rfl (fun _ => by kernel_rfl) ?_
   refine TO.stores (k := 0) (vs := [.int .i64 (p.i : Int), .int .i64 ((Utf8.encode (p.r : Int)).size : Int), .int .i32 (p.r : Int), .bool false]) (l' := [.int .i64 (p.i : Int), .int .i64 ((Utf8.encode (p.r : Int)).size : Int), .int .i32 (p.r : Int), .bool false]) sz_55 rfl rfl rfl rfl rfl (show _ ≤ _ by simp) rfl rfl ?_
   show TO _ _ _ _ _ _ _ _ _ _ [cells b1 [.int .i64 (p.i : Int), .int .i64 ((Utf8.encode (p.r : Int)).size : Int), .int .i32 (p.r : Int), .bool false] 55, obj b2 (.stringIter (s.extract p.i s.size) (posAt (s.extract p.i s.size) (0 + 1)))]
   refine TO.nil (TX.next (TC.ret (TX.blockRet (TX.thenRet (TX.blockRet (TX.thenRet ?_))))))
   exact TX.fin (rs := [.cell 4 55]) () (.inl rfl) Try.results59 (.cons (.cells rw_55 (k := 0) rfl rfl rfl) .nil) hres Splits.nil
 ·
  have hb : p.broken = false := by simp [Pc.broken, hr]
  have hsz : (Utf8.encode (p.r : Int)).size = p.w := by rw [encode_size]; exact hok.width (fun h => hr h.1)
  have hres : resVal [.agg #[.int .i64 p.i, .int .i64 ((Utf8.encode (p.r : Int)).size : Int), .int .i32 p.r, .bool false]] = Value.agg #[.int .i64 p.i, .int .i64 p.w, .int .i32 p.r, .bool p.broken] := by rw [hb, hsz]; rfl
  refine FnP.intro Try.func59 rfl Try.ntmps59 (by simp) ?_
  intro w0 K
  refine TC.seq (TC.region ?_)
  refine TO.alloc zr_55 rfl (by decide) (fun b1 => ?_)
  refine TO.nil (TX.next (TC.seq (TC.seq (TC.region (TO.move rfl (by decide) rfl (TO.move rfl (by decide) rfl (TO.slice rfl (by decide) rfl rfl rfl (slice_string (i := p.i) (j := s.size) Try.underlying9 (.inr rfl) (.inl ⟨rfl, rfl⟩) (by omega) (Nat.le_refl _)) ?_)))))))
  refine TO.rangeStr Try.underlying9 rfl (by decide) rfl (fun b2 => ?_)
  show TO _ _ _ _ _ _ _ _ _ _ [cells b1 [.int .i64 0, .int .i64 0, .int .i32 0, .bool false] 55, obj b2 (.stringIter (s.extract p.i s.size) (posAt (s.extract p.i s.size) 0))]
  refine TO.nil (TX.next (TC.block ?_))
  refine TC.loop (β := Unit) (fun _u => True) (fun _u => [(0, .string s), (1, .int .i64 (p.i : Int)), (4, .pointer (some ⟨b1, 0, none⟩)), (11, .pointer (some ⟨b2, 0, none⟩))]) (fun _u => [cells b1 [.int .i64 0, .int .i64 0, .int .i32 0, .bool false] 55, obj b2 (.stringIter (s.extract p.i s.size) (posAt (s.extract p.i s.size) 0))]) (fun _u => 0) () trivial (Sbs.cons rfl (Sbs.cons rfl (Sbs.cons rfl (Sbs.cons rfl (Sbs.nil))))) (Splits.of [0, 1] (by as_aux_lemma => kernel_rfl) rfl) ?_
  rintro _ _
  refine TC.seq (TC.region (TO.nextStr (k := 1) (m := 0) (p := ⟨0, p.w, p.r⟩) rfl (by decide) rfl rfl hq (TO.extract rfl (by decide) rfl rfl (TO.nil (TX.next (TC.seq (TC.condT rfl (TC.skip (TX.next (TC.block (TC.seq (TC.region (TO.extract rfl (by decide) rfl rfl ?_)))))))))))))
  refine TO.assign rfl (by decide) rfl (TO.nil (TX.next (TC.seq (TC.region (TO.move rfl (by decide) rfl (TO.callP (v := .int .i64 ((Utf8.encode (p.r : Int)).size : Int)) (vs := [.int .i32 (p.r : Int)]) rfl (by decide) rfl rfl rfl en_81 (width_p _ (by omega)) (TO.assign rfl (by decide) rfl (TO.nil (TX.next (TC.seq (TC.seq (TC.region (TO.move rfl (by decide) rfl ?_)))))))))))))
  refine TO.bin rfl (by decide) rfl rfl (bin_known (congrArg Value.bool (show (((p.r : Int) : Int) == 65533) = false from (beq_eq_false_iff_ne.2 (by omega)))) bin_eql) (TO.move rfl (by decide) rfl (TO.skip rfl (by decide) (TO.skip rfl (by decide) (TO.skip rfl (by decide) (TO.skip rfl (by decide) (TO.skip rfl (by decide) (TO.skip rfl (by decide) (TO.skip rfl (by decide) (TO.skip rfl (by decide) (TO.skip rfl (by decide) (TO.skip rfl (by decide) (TO.skip rfl (by decide) (TO.skip rfl (by decide) ?_)))))))))))))
  refine TO.skip rfl (by decide) (TO.pick (b := false) rfl (by decide) rfl rfl (TO.nil (TX.next (TC.condF rfl (TC.skip (TX.next (TC.seq (TC.region (TO.move rfl (by decide) rfl (TO.move rfl (by decide) rfl (TO.move rfl (by decide) rfl ?_)))))))))))
  refine TO.build (v := .agg #[.int .i64 (p.i : Int), .int .i64 ((Utf8.encode (p.r : Int)).size : Int), .int .i32 (p.r : Int), .bool false]) (ps := [(0, .tmp 36), (1, .tmp 37), (2, .tmp 38)]) rfl (by decide) rfl (fun _ => by kernel_rfl) ?_
  refine TO.stores (k := 0) (vs := [.int .i64 (p.i : Int), .int .i64 ((Utf8.encode (p.r : Int)).size : Int), .int .i32 (p.r : Int), .bool false]) (l' := [.int .i64 (p.i : Int), .int .i64 ((Utf8.encode (p.r : Int)).size : Int), .int .i32 (p.r : Int), .bool false]) sz_55 rfl rfl rfl rfl rfl (show _ ≤ _ by simp) rfl rfl ?_
  show TO _ _ _ _ _ _ _ _ _ _ [cells b1 [.int .i64 (p.i : Int), .int .i64 ((Utf8.encode (p.r : Int)).size : Int), .int .i32 (p.r : Int), .bool false] 55, obj b2 (.stringIter (s.extract p.i s.size) (posAt (s.extract p.i s.size) (0 + 1)))]
  refine TO.nil (TX.next (TC.ret (TX.blockRet (TX.thenRet (TX.blockRet (TX.thenRet ?_))))))
  exact TX.fin (rs := [.cell 4 55]) () (.inl rfl) Try.results59 (.cons (.cells rw_55 (k := 0) rfl rfl rfl) .nil) hres Splits.nil
end Go.Proofs.Ytlamcpgnmeileaa
namespace Go.Proofs.Ytlamcpgnmeileaa
open Go.RowKit Go.Lib
set_option linter.unusedVariables false
set_option linter.unusedSimpArgs false
theorem take_cons_drop {α : Type} {l : List α} {k : Nat} {p : α} (h : l[k]? = some p) : l = l.take k ++ p :: l.drop (k + 1) := by
  obtain ⟨hk, hp⟩ := List.getElem?_eq_some_iff.1 h
  have h1 := List.drop_eq_getElem_cons hk
  rw [hp] at h1
  rw [← h1, List.take_append_drop]
theorem take_snoc {α : Type} (L : List α) (k : Nat) (x : α) (h : L[k]? = some x) : L.take (k + 1) = L.take k ++ [x] := by
  obtain ⟨hk, rfl⟩ := List.getElem?_eq_some_iff.1 h
  simp
def uK : Option Un → Int | none => 0 | some n => n.k
def uR : Option Un → Int | none => 0 | some n => n.r
def uF : Option Un → Int | none => 0 | some n => n.f
def uT : Option Un → Int | none => 0 | some n => n.t
def uA : Option Un → Bool | none => false | some n => n.al
def unV (u : Un) : List Value := [.int .i64 u.k, .int .i32 u.r, .int .i64 u.f, .int .i64 u.t, .bool u.al]
def unA (u : Un) : List Value := [.agg (unV u).toArray]
set_option maxRecDepth 100000 in
set_option maxHeartbeats 4000000 in
theorem rpieces1_itr (s : ByteArray) (hs : s.size ≤ 4611686018427387904) (Bs : Nat) : Itr Try.prog 73 [.pointer (some ⟨Bs, 0, none⟩)] pcA (pcs s.data.toList) [(Bs, .cells #[.string s] 9 (0, 0))] := by
 refine Itr.intro Try.func73 rfl Try.ntmps73 (by simp) ?_
 intro l w0 K I X hRo hy
 refine TC.seq (TC.region (TO.loadRo (i := 0) hRo sc_9 rfl (by decide) rfl rfl rfl ?_))
 refine TO.rangeStr Try.underlying9 rfl (by decide) rfl (fun b1 => ?_)
 refine TO.nil (TX.next (TC.block ?_))
 refine TC.loop (β := Nat) (fun k => True) (fun k => [(0, .func (.yield l) #[] #[]), (1, .pointer (some ⟨Bs, 0, none⟩)), (5, .pointer (some ⟨b1, 0, none⟩))]) (fun k => [I ((pcs s.data.toList).take k), obj b1 (.stringIter s (posAt s k))]) (fun k => (pcs s.data.toList).length - k) 0 trivial (Sbs.cons rfl (Sbs.cons rfl (Sbs.cons rfl (Sbs.nil)))) (Splits.of [0, 1] (by as_aux_lemma => kernel_rfl) rfl) ?_
 rintro k _
 by_cases hlt : k < (pcs s.data.toList).length
 ·
  obtain ⟨p, hp⟩ : ∃ p, (pcs s.data.toList)[k]? = some p := ⟨_, List.getElem?_eq_getElem hlt⟩
  have hz : pcs s.data.toList = (pcs s.data.toList).take k ++ p :: (pcs s.data.toList).drop (k + 1) := take_cons_drop hp
  refine TC.seq (TC.region (TO.nextStr (k := 1) (m := k) (p := p) rfl (by decide) rfl rfl hp (TO.extract rfl (by decide) rfl rfl (TO.nil (TX.next (TC.seq (TC.condT rfl (TC.skip (TX.next (TC.block (TC.seq (TC.region (TO.extract rfl (by decide) rfl rfl ?_)))))))))))))
  refine TO.assign rfl (by decide) rfl (TO.nil (TX.next (TC.seq (TC.region (TO.move rfl (by decide) rfl (TO.loadRo (i := 0) hRo sc_9 rfl (by decide) rfl rfl rfl (TO.move rfl (by decide) rfl (TO.callP (v := .agg #[.int .i64 (p.i : Int), .int .i64 (p.w : Int), .int .i32 (p.r : Int), .bool p.broken]) (vs := [.string s, .int .i64 (p.i : Int)]) rfl (by decide) rfl rfl rfl en_59 (read_p s (by omega) p (List.mem_of_getElem? hp)) ?_))))))))
  refine TO.yield hy rfl (by decide) rfl hz rfl (k := 0) rfl ?_ ?_
  ·
   -- yes
   refine TO.un rfl (by decide) rfl un_not (TO.nil (TX.next (TC.condF rfl (TC.skip (TX.blockNormal ?_)))))
   skip
   refine TX.rewE (k := 0) rfl (show I ((pcs s.data.toList).take k ++ [p]) = I ((pcs s.data.toList).take (k + 1)) from (congrArg I (take_snoc _ _ _ hp).symm)) ?_
   show TX _ _ _ _ _ _ _ [I ((pcs s.data.toList).take (k + 1)), obj b1 (.stringIter s (posAt s (k + 1)))]
   exact TX.again (k + 1) trivial (by omega) (Sbs.cons rfl (Sbs.cons rfl (Sbs.cons rfl (Sbs.nil)))) (Splits.of [0, 1] (by as_aux_lemma => kernel_rfl) rfl)
  ·
   -- no
   refine TO.un rfl (by decide) rfl un_not (TO.nil (TX.next (TC.condT rfl (TC.ret (TX.blockRet (TX.thenRet (TX.blockRet ?_)))))))
   exact TX.finX (ds := []) _ p _ hz (.inl rfl) Splits.nil Try.results73 (Splits.of [0] (by as_aux_lemma => kernel_rfl) rfl)
 ·
  have he : I (pcs s.data.toList) = I ((pcs s.data.toList).take k) := by rw [List.take_of_length_le (Nat.le_of_not_lt hlt)]
  refine TC.seq (TC.region (TO.nextEnd (k := 1) (m := k) rfl (by decide) rfl rfl (by omega) (TO.extract rfl (by decide) rfl rfl (TO.nil (TX.next (TC.seq (TC.condF rfl (TC.exit (TX.thenExit (TX.thenExit (TX.blockHere ?_)))))))))))
  exact TX.finY (ds := []) (.inr rfl) Splits.nil Try.results73 he (Splits.of [0] (by as_aux_lemma => kernel_rfl) rfl)

theorem rpcs_fn (s : ByteArray) : Fn Try.prog 49 [.string s] [] (fun b : Nat => .func (.func 73) #[] #[.pointer (some ⟨b, 0, none⟩)]) (fun b => [cells b [.string s] 9]) := by
 refine Fn.intro Try.func49 rfl Try.ntmps49 (by simp) ?_
 intro w0 K
 refine TC.seq (TC.region ?_)
 refine TO.box rfl (by decide) rfl (fun b1 => ?_)
 refine TO.assign rfl (by decide) rfl (TO.nil (TX.next (TC.seq (TC.region (TO.makeFunc (x1 := []) (x2 := [.tmp 1]) rfl (by decide) rfl rfl (TO.assign rfl (by decide) rfl (TO.nil (TX.next (TC.ret ?_)))))))))
 exact TX.fin (rs := [.tmp 2]) b1 (.inl rfl) Try.results49 (.cons (.tmp rfl) .nil) rfl (Splits.of [0] (by as_aux_lemma => kernel_rfl) rfl)

theorem bare_p (k : Int) : FnP Try.prog 83 [.int .i64 k] (.bool (ubare k)) := by
 refine FnP.intro Try.func83 rfl Try.ntmps83 (by simp) ?_
 intro w0 K
 refine TC.seq (TC.region (TO.assign rfl (by decide) rfl (TO.nil (TX.next (TC.seq (TC.region (TO.move rfl (by decide) rfl (TO.bin rfl (by decide) rfl rfl bin_eql (TO.move rfl (by decide) rfl ?_)))))))))
 refine TO.split (s := 5) rfl (fun h1 => ?_) (fun h1 => ?_)
 ·
  -- yes
  have h1 := beq_iff_eq.1 h1
  refine TO.skip rfl (by decide) (TO.skip rfl (by decide) (TO.pick (b := true) rfl (by decide) rfl rfl (TO.move rfl (by decide) rfl (TO.skip rfl (by decide) (TO.skip rfl (by decide) (TO.pick (b := true) rfl (by decide) rfl rfl (TO.assign rfl (by decide) rfl (TO.nil (TX.next (TC.ret ?_))))))))))
  exact TX.fin (rs := [.tmp 2]) () (.inl rfl) Try.results83 (.cons (.tmp rfl) .nil) (congrArg Value.bool (by rw [Bool.eq_iff_iff]; unfold ubare; simp_all <;> (try intro _) <;> omega)) Splits.nil
 ·
  -- no
  have h1 := beq_eq_false_iff_ne.1 h1
  refine TO.move rfl (by decide) rfl (TO.bin rfl (by decide) rfl rfl bin_eql (TO.pick (b := false) rfl (by decide) rfl rfl (TO.move rfl (by decide) rfl ?_)))
  refine TO.split (s := 9) rfl (fun h2 => ?_) (fun h2 => ?_)
  ·
   -- yes
   have h2 := beq_iff_eq.1 h2
   refine TO.skip rfl (by decide) (TO.skip rfl (by decide) (TO.pick (b := true) rfl (by decide) rfl rfl (TO.assign rfl (by decide) rfl (TO.nil (TX.next (TC.ret ?_))))))
   exact TX.fin (rs := [.tmp 2]) () (.inl rfl) Try.results83 (.cons (.tmp rfl) .nil) (congrArg Value.bool (by rw [Bool.eq_iff_iff]; unfold ubare; simp_all <;> (try intro _) <;> omega)) Splits.nil
  ·
   -- no
   have h2 := beq_eq_false_iff_ne.1 h2
   refine TO.move rfl (by decide) rfl (TO.bin rfl (by decide) rfl rfl bin_eql (TO.pick (b := false) rfl (by decide) rfl rfl (TO.assign rfl (by decide) rfl (TO.nil (TX.next (TC.ret ?_))))))
   exact TX.fin (rs := [.tmp 2]) () (.inl rfl) Try.results83 (.cons (.tmp rfl) .nil) (congrArg Value.bool (by rw [Bool.eq_iff_iff]; unfold ubare; simp_all <;> (try intro _) <;> omega)) Splits.nil

theorem joint_p (u : Un) : FnP Try.prog 84 [.agg #[.int .i64 u.k, .int .i32 u.r, .int .i64 u.f, .int .i64 u.t, .bool u.al]] (.bool (joint u)) := by
 refine FnP.intro Try.func84 rfl Try.ntmps84 (by simp) ?_
 intro w0 K
 refine TC.seq (TC.region ?_)
 refine TO.box rfl (by decide) rfl (fun b1 => ?_)
 refine TO.assign rfl (by decide) rfl (TO.nil (TX.next (TC.seq (TC.seq (TC.region (TO.fieldAddr fl_90_1 rfl (by decide) rfl (show _ = 1 from rfl) (TO.load (k := 0) sc_21 rfl (by decide) rfl rfl rfl (TO.nil (TX.next (TC.block (TC.seq (TC.seq (TC.region ?_)))))))))))))
 refine TO.bin rfl (by decide) rfl rfl bin_eql (TO.assign rfl (by decide) rfl (TO.nil (TX.next ?_)))
 refine TC.condB rfl (fun h1 => ?_) (fun h1 => ?_)
 ·
  -- yes
  have h1 := beq_iff_eq.1 h1
  refine TC.skip (TX.next ?_)
  refine TC.condB rfl (fun h2 => ?_) (fun h2 => ?_)
  ·
   -- yes
   have h2 := beq_iff_eq.1 h2
   refine TC.seq (TC.region (TO.fieldAddr fl_90_3 rfl (by decide) rfl (show _ = 4 from rfl) (TO.load (k := 0) sc_4 rfl (by decide) rfl rfl rfl (TO.assign rfl (by decide) rfl (TO.nil (TX.next (TC.ret (TX.blockRet (TX.thenRet ?_)))))))))
   exact TX.fin (rs := [.tmp 2]) () (.inl rfl) Try.results84 (.cons (.tmp rfl) .nil) (congrArg Value.bool (by rw [Bool.eq_iff_iff]; unfold joint; simp_all <;> (try intro _) <;> omega)) Splits.nil
  ·
   -- no
   have h2 := beq_eq_false_iff_ne.1 h2
   refine TC.skip (TX.blockNormal (TX.next (TC.seq (TC.region (TO.assign rfl (by decide) rfl (TO.nil (TX.next (TC.ret ?_))))))))
   exact TX.fin (rs := [.tmp 2]) () (.inl rfl) Try.results84 (.cons (.tmp rfl) .nil) (congrArg Value.bool (by rw [Bool.eq_iff_iff]; unfold joint; simp_all <;> (try intro _) <;> omega)) Splits.nil
 ·
  -- no
  have h1 := beq_eq_false_iff_ne.1 h1
  refine TC.seq (TC.region (TO.bin rfl (by decide) rfl rfl bin_eql (TO.assign rfl (by decide) rfl (TO.nil (TX.next ?_)))))
  refine TC.condB rfl (fun h3 => ?_) (fun h3 => ?_)
  ·
   -- yes
   have h3 := beq_iff_eq.1 h3
   refine TC.skip (TX.next ?_)
   refine TC.condB rfl (fun h4 => ?_) (fun h4 => ?_)
   ·
    -- yes
    have h4 := beq_iff_eq.1 h4
    refine TC.seq (TC.region (TO.fieldAddr fl_90_3 rfl (by decide) rfl (show _ = 4 from rfl) (TO.load (k := 0) sc_4 rfl (by decide) rfl rfl rfl (TO.assign rfl (by decide) rfl (TO.nil (TX.next (TC.ret (TX.blockRet (TX.thenRet ?_)))))))))
    exact TX.fin (rs := [.tmp 2]) () (.inl rfl) Try.results84 (.cons (.tmp rfl) .nil) (congrArg Value.bool (by rw [Bool.eq_iff_iff]; unfold joint; simp_all <;> (try intro _) <;> omega)) Splits.nil
   ·
    -- no
    have h4 := beq_eq_false_iff_ne.1 h4
    refine TC.skip (TX.blockNormal (TX.next (TC.seq (TC.region (TO.assign rfl (by decide) rfl (TO.nil (TX.next (TC.ret ?_))))))))
    exact TX.fin (rs := [.tmp 2]) () (.inl rfl) Try.results84 (.cons (.tmp rfl) .nil) (congrArg Value.bool (by rw [Bool.eq_iff_iff]; unfold joint; simp_all <;> (try intro _) <;> omega)) Splits.nil
  ·
   -- no
   have h3 := beq_eq_false_iff_ne.1 h3
   refine TC.seq (TC.region (TO.bin rfl (by decide) rfl rfl bin_eql (TO.assign rfl (by decide) rfl (TO.nil (TX.next ?_)))))
   refine TC.condB rfl (fun h5 => ?_) (fun h5 => ?_)
   ·
    -- yes
    have h5 := beq_iff_eq.1 h5
    refine TC.skip (TX.next ?_)
    refine TC.condB rfl (fun h6 => ?_) (fun h6 => ?_)
    ·
     -- yes
     have h6 := beq_iff_eq.1 h6
     refine TC.seq (TC.region (TO.fieldAddr fl_90_3 rfl (by decide) rfl (show _ = 4 from rfl) (TO.load (k := 0) sc_4 rfl (by decide) rfl rfl rfl (TO.assign rfl (by decide) rfl (TO.nil (TX.next (TC.ret (TX.blockRet (TX.thenRet ?_)))))))))
     exact TX.fin (rs := [.tmp 2]) () (.inl rfl) Try.results84 (.cons (.tmp rfl) .nil) (congrArg Value.bool (by rw [Bool.eq_iff_iff]; unfold joint; simp_all <;> (try intro _) <;> omega)) Splits.nil
    ·
     -- no
     have h6 := beq_eq_false_iff_ne.1 h6
     refine TC.skip (TX.blockNormal (TX.next (TC.seq (TC.region (TO.assign rfl (by decide) rfl (TO.nil (TX.next (TC.ret ?_))))))))
     exact TX.fin (rs := [.tmp 2]) () (.inl rfl) Try.results84 (.cons (.tmp rfl) .nil) (congrArg Value.bool (by rw [Bool.eq_iff_iff]; unfold joint; simp_all <;> (try intro _) <;> omega)) Splits.nil
   ·
    -- no
    have h5 := beq_eq_false_iff_ne.1 h5
    refine TC.region (TO.bin rfl (by decide) rfl rfl bin_eql (TO.assign rfl (by decide) rfl (TO.nil (TX.next ?_))))
    refine TC.condB rfl (fun h7 => ?_) (fun h7 => ?_)
    ·
     -- yes
     have h7 := beq_iff_eq.1 h7
     refine TC.seq (TC.region (TO.fieldAddr fl_90_3 rfl (by decide) rfl (show _ = 4 from rfl) (TO.load (k := 0) sc_4 rfl (by decide) rfl rfl rfl (TO.assign rfl (by decide) rfl (TO.nil (TX.next (TC.ret (TX.blockRet (TX.thenRet ?_)))))))))
     exact TX.fin (rs := [.tmp 2]) () (.inl rfl) Try.results84 (.cons (.tmp rfl) .nil) (congrArg Value.bool (by rw [Bool.eq_iff_iff]; unfold joint; simp_all <;> (try intro _) <;> omega)) Splits.nil
    ·
     -- no
     have h7 := beq_eq_false_iff_ne.1 h7
     refine TC.skip (TX.blockNormal (TX.next (TC.seq (TC.region (TO.assign rfl (by decide) rfl (TO.nil (TX.next (TC.ret ?_))))))))
     exact TX.fin (rs := [.tmp 2]) () (.inl rfl) Try.results84 (.cons (.tmp rfl) .nil) (congrArg Value.bool (by rw [Bool.eq_iff_iff]; unfold joint; simp_all <;> (try intro _) <;> omega)) Splits.nil

theorem dot_p (u : Un) : FnP Try.prog 85 [.agg #[.int .i64 u.k, .int .i32 u.r, .int .i64 u.f, .int .i64 u.t, .bool u.al]] (.bool (dot u)) := by
 refine FnP.intro Try.func85 rfl Try.ntmps85 (by simp) ?_
 intro w0 K
 refine TC.seq (TC.region ?_)
 refine TO.box rfl (by decide) rfl (fun b1 => ?_)
 refine TO.assign rfl (by decide) rfl (TO.nil (TX.next (TC.seq (TC.region (TO.fieldAddr fl_90_3 rfl (by decide) rfl (show _ = 4 from rfl) (TO.load (k := 0) sc_4 rfl (by decide) rfl rfl rfl (TO.move rfl (by decide) rfl ?_)))))))
 refine TO.split (s := 5) rfl (fun h1 => ?_) (fun h1 => ?_)
 ·
  -- yes
  refine TO.fieldAddr fl_90_1 rfl (by decide) rfl (show _ = 1 from rfl) (TO.load (k := 0) sc_21 rfl (by decide) rfl rfl rfl (TO.bin rfl (by decide) rfl rfl bin_eql (TO.move rfl (by decide) rfl ?_)))
  refine TO.split (s := 9) rfl (fun h2 => ?_) (fun h2 => ?_)
  ·
   -- yes
   have h2 := beq_iff_eq.1 h2
   refine TO.skip rfl (by decide) (TO.skip rfl (by decide) (TO.skip rfl (by decide) (TO.pick (b := true) rfl (by decide) rfl rfl (TO.pick (b := true) rfl (by decide) rfl rfl (TO.assign rfl (by decide) rfl (TO.nil (TX.next (TC.ret ?_))))))))
   exact TX.fin (rs := [.tmp 2]) () (.inl rfl) Try.results85 (.cons (.tmp rfl) .nil) (congrArg Value.bool (by rw [Bool.eq_iff_iff]; unfold dot; simp_all <;> (try intro _) <;> omega)) Splits.nil
  ·
   -- no
   have h2 := beq_eq_false_iff_ne.1 h2
   refine TO.fieldAddr fl_90_1 rfl (by decide) rfl (show _ = 1 from rfl) (TO.load (k := 0) sc_21 rfl (by decide) rfl rfl rfl (TO.bin rfl (by decide) rfl rfl bin_eql (TO.pick (b := false) rfl (by decide) rfl rfl (TO.pick (b := true) rfl (by decide) rfl rfl (TO.assign rfl (by decide) rfl (TO.nil (TX.next (TC.ret ?_))))))))
   exact TX.fin (rs := [.tmp 2]) () (.inl rfl) Try.results85 (.cons (.tmp rfl) .nil) (congrArg Value.bool (by rw [Bool.eq_iff_iff]; unfold dot; simp_all <;> (try intro _) <;> omega)) Splits.nil
 ·
  -- no
  refine TO.skip rfl (by decide) (TO.skip rfl (by decide) (TO.skip rfl (by decide) (TO.skip rfl (by decide) (TO.skip rfl (by decide) (TO.skip rfl (by decide) (TO.skip rfl (by decide) (TO.skip rfl (by decide) (TO.pick (b := false) rfl (by decide) rfl rfl (TO.assign rfl (by decide) rfl (TO.nil (TX.next (TC.ret ?_))))))))))))
  exact TX.fin (rs := [.tmp 2]) () (.inl rfl) Try.results85 (.cons (.tmp rfl) .nil) (congrArg Value.bool (by rw [Bool.eq_iff_iff]; unfold dot; simp_all <;> (try intro _) <;> omega)) Splits.nil

theorem bare_p' (k : Int) (b : Bool) (h : ubare k = b) : FnP Try.prog 83 [.int .i64 k] (.bool b) := h ▸ bare_p k

set_option maxRecDepth 100000 in
set_option maxHeartbeats 4000000 in
theorem units1_itr (s : ByteArray) (hs : s.size ≤ 4611686018427387904) (Bs : Nat) : Itr Try.prog 82 [.pointer (some ⟨Bs, 0, none⟩)] unA (units (pcs s.data.toList)) [(Bs, .cells #[.string s] 9 (0, 0))] := by
 refine Itr.intro Try.func82 rfl Try.ntmps82 (by simp) ?_
 intro l w0 K I X hRo hy
 refine TC.seq (TC.region ?_)
 refine TO.box rfl (by decide) rfl (fun b1 => ?_)
 refine TO.nil (TX.next (TC.seq (TC.region ?_)))
 refine TO.alloc zr_90 rfl (by decide) (fun b2 => ?_)
 refine TO.nil (TX.next (TC.seq (TC.seq (TC.region (TO.loadRo (i := 0) hRo sc_9 rfl (by decide) rfl rfl rfl (TO.call (vs := [.string s]) rfl (by decide) rfl rfl rfl en_49 (rpcs_fn s) Splits.nil ?_))))))
 rintro bp
 show TO _ _ _ _ _ _ _ _ _ _ [I [], cells b1 [.func (.yield l) #[] #[]] 115, cells b2 [.int .i64 0, .int .i32 0, .int .i64 0, .int .i64 0, .bool false] 90, cells bp [.string s] 9]
 refine TO.nil (TX.next (TC.block ?_))
 refine TC.range (α := Pc) (β := List Un × Option Un) (γ := List Un × Un × List Un) (δ := Nat) (ps := [8]) hRo rfl en_73 (rpieces1_itr s (by omega) bp) (fun pre b => ufold pre = b) (fun pre b => [cells b1 [.func (.yield l) #[] #[]] 115, cells b2 [.int .i64 (uK b.2), .int .i32 (uR b.2), .int .i64 (uF b.2), .int .i64 (uT b.2), .bool (uA b.2)] 90, I b.1]) (fun c pre g => c = .ret ∧ units (pcs s.data.toList) = g.1 ++ g.2.1 :: g.2.2) (fun c pre g => [X (g.1 ++ [g.2.1])]) (fun pre x b j => [(2, .pointer (some ⟨b1, 0, none⟩)), (3, .pointer (some ⟨b2, 0, none⟩)), (4, .pointer (some ⟨j, 0, none⟩))]) (fun pre x b j => [cells b1 [.func (.yield l) #[] #[]] 115, cells b2 [.int .i64 (uK b.2), .int .i32 (uR b.2), .int .i64 (uF b.2), .int .i64 (uT b.2), .bool (uA b.2)] 90, I b.1, cells j [.int .i64 (x.i : Int), .int .i64 (x.w : Int), .int .i32 (x.r : Int), .bool x.broken] 55]) ([], none) rfl (Splits.of [1, 2, 0] (by as_aux_lemma => kernel_rfl) rfl) ⟨.inl ⟨3, rfl⟩, trivial⟩ (fun _ => rfl) (by decide) ?_ ?_ ?_ ?_
 ·
  rintro lp rc pre x post b w1 K1 hxs hext hro hinv
  refine TC.region ?_
  refine TO.alloc zr_55 rfl (by decide) (fun b3 => ?_)
  refine TO.stores (k := 3) (vs := [.int .i64 (x.i : Int), .int .i64 (x.w : Int), .int .i32 (x.r : Int), .bool x.broken]) (l' := [.int .i64 (x.i : Int), .int .i64 (x.w : Int), .int .i32 (x.r : Int), .bool x.broken]) sz_55 rfl rfl rfl rfl rfl (show _ ≤ _ by simp) rfl rfl ?_
  show TO _ _ _ _ _ _ _ _ _ _ [cells b1 [.func (.yield l) #[] #[]] 115, cells b2 [.int .i64 (uK b.2), .int .i32 (uR b.2), .int .i64 (uF b.2), .int .i64 (uT b.2), .bool (uA b.2)] 90, I b.1, cells b3 [.int .i64 (x.i : Int), .int .i64 (x.w : Int), .int .i32 (x.r : Int), .bool x.broken] 55]
  refine TO.nil ?_
  exact fun a w ha hw => ⟨b3, (Sbs.cons rfl (Sbs.cons rfl (Sbs.cons rfl (Sbs.nil)))) _ _ _ ha, hw.weaken (Splits.of [0, 1, 2, 3] (by as_aux_lemma => kernel_rfl) rfl)⟩
 ·
  rintro lp rc pre x post b j w1 K1 hxs hext hro hinv
  have hmem : x ∈ pcs s.data.toList := by rw [hxs]; simp
  have hv := pcs_valid _ x hmem
  have hend : x.i + x.w ≤ s.size := by simpa using (pcs_pos _ x hmem).2.1
  have hsn := ufold_snoc pre x
  obtain ⟨E, o⟩ := b
  have hinv : ufold pre = (E, o) := hinv
  rw [hinv] at hsn
  rcases o with _ | n
  ·
   show TC _ _ _ _ _ _ _ _ _ [cells b1 [.func (.yield l) #[] #[]] 115, cells b2 [.int .i64 0, .int .i32 0, .int .i64 0, .int .i64 0, .bool false] 90, I E, cells j [.int .i64 (x.i : Int), .int .i64 (x.w : Int), .int .i32 (x.r : Int), .bool x.broken] 55]
   by_cases hm : pk x = 2
   ·
    refine TC.block (TC.seq (TC.region (TO.loads (k := 3) (cs := [.int .i64 (x.i : Int), .int .i64 (x.w : Int), .int .i32 (x.r : Int), .bool x.broken]) rw_55 rfl (by decide) rfl rfl rfl rfl (TO.callP (v := .int .i64 (pk x)) (vs := [.agg #[.int .i64 (x.i : Int), .int .i64 (x.w : Int), .int .i32 (x.r : Int), .bool x.broken]]) rfl (by decide) rfl rfl rfl en_68 (of_p _ _ _ _ (by omega) (by omega)) (TO.assign rfl (by decide) rfl (TO.nil (TX.next (TC.seq (TC.seq (TC.region (TO.move rfl (by decide) rfl (TO.bin rfl (by decide) rfl rfl (bin_known (congrArg Value.bool (show (((pk x) : Int) == 2) = true from (beq_iff_eq.2 hm))) bin_eql) (TO.move rfl (by decide) rfl ?_)))))))))))))
    refine TO.fieldAddr fl_90_2 rfl (by decide) rfl (show _ = 2 from rfl) (TO.fieldAddr fl_26_1 rfl (by decide) rfl (show _ = 3 from rfl) (TO.load (k := 1) sc_3 rfl (by decide) rfl rfl rfl (TO.bin rfl (by decide) rfl rfl (bin_known (congrArg Value.bool (show (decide ((0 : Int) < 0)) = false from (by decide))) bin_gtr) (TO.pick (b := true) rfl (by decide) rfl rfl (TO.move rfl (by decide) rfl (TO.skip rfl (by decide) (TO.skip rfl (by decide) (TO.skip rfl (by decide) (TO.skip rfl (by decide) (TO.pick (b := false) rfl (by decide) rfl rfl (TO.nil (TX.next (TC.condF rfl ?_)))))))))))))
    refine TC.skip (TX.next (TC.seq (TC.seq (TC.region (TO.fieldAddr fl_90_2 rfl (by decide) rfl (show _ = 2 from rfl) (TO.fieldAddr fl_26_1 rfl (by decide) rfl (show _ = 3 from rfl) (TO.load (k := 1) sc_3 rfl (by decide) rfl rfl rfl (TO.bin rfl (by decide) rfl rfl (bin_known (congrArg Value.bool (show (decide ((0 : Int) < 0)) = false from (by decide))) bin_gtr) (TO.move rfl (by decide) rfl (TO.skip rfl (by decide) (TO.skip rfl (by decide) (TO.skip rfl (by decide) (TO.skip rfl (by decide) ?_)))))))))))))
    refine TO.pick (b := false) rfl (by decide) rfl rfl (TO.nil (TX.next (TC.condF rfl (TC.skip (TX.next (TC.region (TO.move rfl (by decide) rfl (TO.fieldAddr fl_55_2 rfl (by decide) rfl (show _ = 2 from rfl) (TO.load (k := 3) sc_21 rfl (by decide) rfl rfl rfl (TO.fieldAddr fl_55_0 rfl (by decide) rfl (show _ = 0 from rfl) (TO.load (k := 3) sc_3 rfl (by decide) rfl rfl rfl (TO.fieldAddr fl_55_0 rfl (by decide) rfl (show _ = 0 from rfl) (TO.load (k := 3) sc_3 rfl (by decide) rfl rfl rfl ?_)))))))))))))
    refine TO.fieldAddr fl_55_1 rfl (by decide) rfl (show _ = 1 from rfl) (TO.load (k := 3) sc_3 rfl (by decide) rfl rfl rfl (TO.bin rfl (by decide) rfl rfl (bin_add (r := (x.i : Int) + (x.w : Int)) (IntWalk.i64_in _ (by omega))) ?_))
    refine TO.build (v := .agg #[.int .i64 (x.i : Int), .int .i64 ((x.i : Int) + (x.w : Int))]) (ps := [(0, .tmp 48), (1, .tmp 53)]) rfl (by decide) rfl (fun _ => by kernel_rfl) ?_
    refine TO.build (v := .agg #[.int .i64 (pk x), .int .i32 (x.r : Int), .int .i64 (x.i : Int), .int .i64 ((x.i : Int) + (x.w : Int)), .bool true]) (ps := [(0, .tmp 44), (1, .tmp 46), (2, .tmp 54), (3, .const (.bool true))]) rfl (by decide) rfl (fun _ => by kernel_rfl) ?_
    refine TO.stores (k := 1) (vs := [.int .i64 (pk x), .int .i32 (x.r : Int), .int .i64 (x.i : Int), .int .i64 ((x.i : Int) + (x.w : Int)), .bool true]) (l' := [.int .i64 (pk x), .int .i32 (x.r : Int), .int .i64 (x.i : Int), .int .i64 ((x.i : Int) + (x.w : Int)), .bool true]) sz_90 rfl rfl rfl rfl rfl (show _ ≤ _ by simp) rfl rfl (TO.nil (TX.blockNormal ?_))
    exact TX.round (E, some (unew x)) (by show ufold (pre ++ [x]) = _; rw [hsn]; rfl) (Splits.of [0, 1, 2] (by as_aux_lemma => kernel_rfl) rfl)
   ·
    refine TC.block (TC.seq (TC.region (TO.loads (k := 3) (cs := [.int .i64 (x.i : Int), .int .i64 (x.w : Int), .int .i32 (x.r : Int), .bool x.broken]) rw_55 rfl (by decide) rfl rfl rfl rfl (TO.callP (v := .int .i64 (pk x)) (vs := [.agg #[.int .i64 (x.i : Int), .int .i64 (x.w : Int), .int .i32 (x.r : Int), .bool x.broken]]) rfl (by decide) rfl rfl rfl en_68 (of_p _ _ _ _ (by omega) (by omega)) (TO.assign rfl (by decide) rfl (TO.nil (TX.next (TC.seq (TC.seq (TC.region (TO.move rfl (by decide) rfl (TO.bin rfl (by decide) rfl rfl (bin_known (congrArg Value.bool (show (((pk x) : Int) == 2) = false from (beq_eq_false_iff_ne.2 hm))) bin_eql) (TO.move rfl (by decide) rfl ?_)))))))))))))
    refine TO.skip rfl (by decide) (TO.skip rfl (by decide) (TO.skip rfl (by decide) (TO.skip rfl (by decide) (TO.pick (b := false) rfl (by decide) rfl rfl (TO.move rfl (by decide) rfl (TO.skip rfl (by decide) (TO.skip rfl (by decide) (TO.skip rfl (by decide) (TO.skip rfl (by decide) (TO.pick (b := false) rfl (by decide) rfl rfl (TO.nil (TX.next (TC.condF rfl ?_)))))))))))))
    refine TC.skip (TX.next (TC.seq (TC.seq (TC.region (TO.fieldAddr fl_90_2 rfl (by decide) rfl (show _ = 2 from rfl) (TO.fieldAddr fl_26_1 rfl (by decide) rfl (show _ = 3 from rfl) (TO.load (k := 1) sc_3 rfl (by decide) rfl rfl rfl (TO.bin rfl (by decide) rfl rfl (bin_known (congrArg Value.bool (show (decide ((0 : Int) < 0)) = false from (by decide))) bin_gtr) (TO.move rfl (by decide) rfl (TO.skip rfl (by decide) (TO.skip rfl (by decide) (TO.skip rfl (by decide) (TO.skip rfl (by decide) ?_)))))))))))))
    refine TO.pick (b := false) rfl (by decide) rfl rfl (TO.nil (TX.next (TC.condF rfl (TC.skip (TX.next (TC.region (TO.move rfl (by decide) rfl (TO.fieldAddr fl_55_2 rfl (by decide) rfl (show _ = 2 from rfl) (TO.load (k := 3) sc_21 rfl (by decide) rfl rfl rfl (TO.fieldAddr fl_55_0 rfl (by decide) rfl (show _ = 0 from rfl) (TO.load (k := 3) sc_3 rfl (by decide) rfl rfl rfl (TO.fieldAddr fl_55_0 rfl (by decide) rfl (show _ = 0 from rfl) (TO.load (k := 3) sc_3 rfl (by decide) rfl rfl rfl ?_)))))))))))))
    refine TO.fieldAddr fl_55_1 rfl (by decide) rfl (show _ = 1 from rfl) (TO.load (k := 3) sc_3 rfl (by decide) rfl rfl rfl (TO.bin rfl (by decide) rfl rfl (bin_add (r := (x.i : Int) + (x.w : Int)) (IntWalk.i64_in _ (by omega))) ?_))
    refine TO.build (v := .agg #[.int .i64 (x.i : Int), .int .i64 ((x.i : Int) + (x.w : Int))]) (ps := [(0, .tmp 48), (1, .tmp 53)]) rfl (by decide) rfl (fun _ => by kernel_rfl) ?_
    refine TO.build (v := .agg #[.int .i64 (pk x), .int .i32 (x.r : Int), .int .i64 (x.i : Int), .int .i64 ((x.i : Int) + (x.w : Int)), .bool true]) (ps := [(0, .tmp 44), (1, .tmp 46), (2, .tmp 54), (3, .const (.bool true))]) rfl (by decide) rfl (fun _ => by kernel_rfl) ?_
    refine TO.stores (k := 1) (vs := [.int .i64 (pk x), .int .i32 (x.r : Int), .int .i64 (x.i : Int), .int .i64 ((x.i : Int) + (x.w : Int)), .bool true]) (l' := [.int .i64 (pk x), .int .i32 (x.r : Int), .int .i64 (x.i : Int), .int .i64 ((x.i : Int) + (x.w : Int)), .bool true]) sz_90 rfl rfl rfl rfl rfl (show _ ≤ _ by simp) rfl rfl (TO.nil (TX.blockNormal ?_))
    exact TX.round (E, some (unew x)) (by show ufold (pre ++ [x]) = _; rw [hsn]; rfl) (Splits.of [0, 1, 2] (by as_aux_lemma => kernel_rfl) rfl)
  ·
   show TC _ _ _ _ _ _ _ _ _ [cells b1 [.func (.yield l) #[] #[]] 115, cells b2 [.int .i64 n.k, .int .i32 (n.r : Int), .int .i64 (n.f : Int), .int .i64 (n.t : Int), .bool n.al] 90, I E, cells j [.int .i64 (x.i : Int), .int .i64 (x.w : Int), .int .i32 (x.r : Int), .bool x.broken] 55]
   have hwf := ufold_end s.data.toList _ pre (x :: post) (Nat.le_refl _) hxs E n hinv
   have hxi : x.i = n.t := hwf.2.2.1 x rfl
   have ht0 : (0 : Int) < n.t := by have := hwf.1; omega
   by_cases hm : pk x = 2
   ·
    cases hb : ubare n.k
    ·
     refine TC.block (TC.seq (TC.region (TO.loads (k := 3) (cs := [.int .i64 (x.i : Int), .int .i64 (x.w : Int), .int .i32 (x.r : Int), .bool x.broken]) rw_55 rfl (by decide) rfl rfl rfl rfl (TO.callP (v := .int .i64 (pk x)) (vs := [.agg #[.int .i64 (x.i : Int), .int .i64 (x.w : Int), .int .i32 (x.r : Int), .bool x.broken]]) rfl (by decide) rfl rfl rfl en_68 (of_p _ _ _ _ (by omega) (by omega)) (TO.assign rfl (by decide) rfl (TO.nil (TX.next (TC.seq (TC.seq (TC.region (TO.move rfl (by decide) rfl (TO.bin rfl (by decide) rfl rfl (bin_known (congrArg Value.bool (show (((pk x) : Int) == 2) = true from (beq_iff_eq.2 hm))) bin_eql) (TO.move rfl (by decide) rfl ?_)))))))))))))
     refine TO.fieldAddr fl_90_2 rfl (by decide) rfl (show _ = 2 from rfl) (TO.fieldAddr fl_26_1 rfl (by decide) rfl (show _ = 3 from rfl) (TO.load (k := 1) sc_3 rfl (by decide) rfl rfl rfl (TO.bin rfl (by decide) rfl rfl (bin_known (congrArg Value.bool (show (decide ((0 : Int) < (n.t : Int))) = true from (decide_eq_true ht0))) bin_gtr) (TO.pick (b := true) rfl (by decide) rfl rfl (TO.move rfl (by decide) rfl (TO.fieldAddr fl_90_0 rfl (by decide) rfl (show _ = 0 from rfl) (TO.load (k := 1) sc_37 rfl (by decide) rfl rfl rfl (TO.callP (v := .bool false) (vs := [.int .i64 n.k]) rfl (by decide) rfl rfl rfl en_83 (bare_p' _ _ hb) (TO.un rfl (by decide) rfl un_not (TO.pick (b := true) rfl (by decide) rfl rfl (TO.nil (TX.next (TC.condT rfl ?_)))))))))))))
     refine TC.seq (TC.region (TO.fieldAddr fl_90_2 rfl (by decide) rfl (show _ = 2 from rfl) (TO.fieldAddr fl_26_1 rfl (by decide) rfl (show _ = 3 from rfl) (TO.load (k := 1) sc_3 rfl (by decide) rfl rfl rfl (TO.fieldAddr fl_55_1 rfl (by decide) rfl (show _ = 1 from rfl) (TO.load (k := 3) sc_3 rfl (by decide) rfl rfl rfl (TO.bin rfl (by decide) rfl rfl (bin_add (r := (n.t : Int) + (x.w : Int)) (IntWalk.i64_in _ (by omega))) (TO.fieldAddr fl_90_2 rfl (by decide) rfl (show _ = 2 from rfl) (TO.fieldAddr fl_26_1 rfl (by decide) rfl (show _ = 3 from rfl) ?_)))))))))
     refine TO.store (k := 1) (l' := [.int .i64 n.k, .int .i32 (n.r : Int), .int .i64 (n.f : Int), .int .i64 ((n.t : Int) + (x.w : Int)), .bool n.al]) sz_3 rfl rfl rfl rfl rfl (fun _ _ => rfl) rfl ?_
     refine TO.nil (TX.next (TC.seq (TC.region (TO.fieldAddr fl_90_3 rfl (by decide) rfl (show _ = 4 from rfl) ?_))))
     refine TO.store (k := 1) (l' := [.int .i64 n.k, .int .i32 (n.r : Int), .int .i64 (n.f : Int), .int .i64 ((n.t : Int) + (x.w : Int)), .bool false]) sz_4 rfl rfl rfl rfl rfl (fun _ _ => rfl) rfl ?_
     show TO _ _ _ _ _ _ _ _ _ _ [cells b1 [.func (.yield l) #[] #[]] 115, cells b2 [.int .i64 n.k, .int .i32 (n.r : Int), .int .i64 (n.f : Int), .int .i64 ((n.t : Int) + (x.w : Int)), .bool false] 90, I E, cells j [.int .i64 (x.i : Int), .int .i64 (x.w : Int), .int .i32 (x.r : Int), .bool x.broken] 55]
     refine TO.nil (TX.next (TC.exit (TX.thenExit (TX.blockHere ?_))))
     exact TX.round (E, some ⟨n.k, n.r, n.f, n.t + x.w, false⟩) (by show ufold (pre ++ [x]) = _; rw [hsn]; simp only [ustep]; rw [if_pos ⟨hm, hb⟩]) (Splits.of [0, 1, 2] (by as_aux_lemma => kernel_rfl) rfl)
    ·
     have hne : ¬ (pk x = 2 ∧ ubare n.k = false) := fun h => by rw [hb] at h; cases h.2
     refine TC.block (TC.seq (TC.region (TO.loads (k := 3) (cs := [.int .i64 (x.i : Int), .int .i64 (x.w : Int), .int .i32 (x.r : Int), .bool x.broken]) rw_55 rfl (by decide) rfl rfl rfl rfl (TO.callP (v := .int .i64 (pk x)) (vs := [.agg #[.int .i64 (x.i : Int), .int .i64 (x.w : Int), .int .i32 (x.r : Int), .bool x.broken]]) rfl (by decide) rfl rfl rfl en_68 (of_p _ _ _ _ (by omega) (by omega)) (TO.assign rfl (by decide) rfl (TO.nil (TX.next (TC.seq (TC.seq (TC.region (TO.move rfl (by decide) rfl (TO.bin rfl (by decide) rfl rfl (bin_known (congrArg Value.bool (show (((pk x) : Int) == 2) = true from (beq_iff_eq.2 hm))) bin_eql) (TO.move rfl (by decide) rfl ?_)))))))))))))
     refine TO.fieldAddr fl_90_2 rfl (by decide) rfl (show _ = 2 from rfl) (TO.fieldAddr fl_26_1 rfl (by decide) rfl (show _ = 3 from rfl) (TO.load (k := 1) sc_3 rfl (by decide) rfl rfl rfl (TO.bin rfl (by decide) rfl rfl (bin_known (congrArg Value.bool (show (decide ((0 : Int) < (n.t : Int))) = true from (decide_eq_true ht0))) bin_gtr) (TO.pick (b := true) rfl (by decide) rfl rfl (TO.move rfl (by decide) rfl (TO.fieldAddr fl_90_0 rfl (by decide) rfl (show _ = 0 from rfl) (TO.load (k := 1) sc_37 rfl (by decide) rfl rfl rfl (TO.callP (v := .bool true) (vs := [.int .i64 n.k]) rfl (by decide) rfl rfl rfl en_83 (bare_p' _ _ hb) (TO.un rfl (by decide) rfl un_not (TO.pick (b := true) rfl (by decide) rfl rfl (TO.nil (TX.next (TC.condF rfl ?_)))))))))))))
     refine TC.skip (TX.next (TC.seq (TC.seq (TC.region (TO.fieldAddr fl_90_2 rfl (by decide) rfl (show _ = 2 from rfl) (TO.fieldAddr fl_26_1 rfl (by decide) rfl (show _ = 3 from rfl) (TO.load (k := 1) sc_3 rfl (by decide) rfl rfl rfl (TO.bin rfl (by decide) rfl rfl (bin_known (congrArg Value.bool (show (decide ((0 : Int) < (n.t : Int))) = true from (decide_eq_true ht0))) bin_gtr) (TO.move rfl (by decide) rfl (TO.load (k := 0) sc_115 rfl (by decide) rfl rfl rfl (TO.loads (k := 1) (cs := [.int .i64 n.k, .int .i32 (n.r : Int), .int .i64 (n.f : Int), .int .i64 (n.t : Int), .bool n.al]) rw_90 rfl (by decide) rfl rfl rfl rfl ?_)))))))))))
     obtain ⟨q, hq⟩ := units_at pre post x E n hinv hne
     refine TO.yield (hy.later hext) rfl (by decide) rfl (hxs ▸ hq) rfl (k := 2) rfl ?_ ?_
     ·
      -- yes
      refine TO.un rfl (by decide) rfl un_not (TO.pick (b := true) rfl (by decide) rfl rfl (TO.nil (TX.next (TC.condF rfl (TC.skip (TX.next (TC.region (TO.move rfl (by decide) rfl (TO.fieldAddr fl_55_2 rfl (by decide) rfl (show _ = 2 from rfl) (TO.load (k := 3) sc_21 rfl (by decide) rfl rfl rfl (TO.fieldAddr fl_55_0 rfl (by decide) rfl (show _ = 0 from rfl) (TO.load (k := 3) sc_3 rfl (by decide) rfl rfl rfl (TO.fieldAddr fl_55_0 rfl (by decide) rfl (show _ = 0 from rfl) ?_)))))))))))))
      refine TO.load (k := 3) sc_3 rfl (by decide) rfl rfl rfl (TO.fieldAddr fl_55_1 rfl (by decide) rfl (show _ = 1 from rfl) (TO.load (k := 3) sc_3 rfl (by decide) rfl rfl rfl (TO.bin rfl (by decide) rfl rfl (bin_add (r := (x.i : Int) + (x.w : Int)) (IntWalk.i64_in _ (by omega))) ?_)))
      refine TO.build (v := .agg #[.int .i64 (x.i : Int), .int .i64 ((x.i : Int) + (x.w : Int))]) (ps := [(0, .tmp 48), (1, .tmp 53)]) rfl (by decide) rfl (fun _ => by kernel_rfl) ?_
      refine TO.build (v := .agg #[.int .i64 (pk x), .int .i32 (x.r : Int), .int .i64 (x.i : Int), .int .i64 ((x.i : Int) + (x.w : Int)), .bool true]) (ps := [(0, .tmp 44), (1, .tmp 46), (2, .tmp 54), (3, .const (.bool true))]) rfl (by decide) rfl (fun _ => by kernel_rfl) ?_
      refine TO.stores (k := 1) (vs := [.int .i64 (pk x), .int .i32 (x.r : Int), .int .i64 (x.i : Int), .int .i64 ((x.i : Int) + (x.w : Int)), .bool true]) (l' := [.int .i64 (pk x), .int .i32 (x.r : Int), .int .i64 (x.i : Int), .int .i64 ((x.i : Int) + (x.w : Int)), .bool true]) sz_90 rfl rfl rfl rfl rfl (show _ ≤ _ by simp) rfl rfl (TO.nil (TX.blockNormal ?_))
      exact TX.round (E ++ [n], some (unew x)) (by show ufold (pre ++ [x]) = _; rw [hsn]; simp only [ustep]; rw [if_neg hne]) (Splits.of [0, 1, 2] (by as_aux_lemma => kernel_rfl) rfl)
     ·
      -- no
      refine TO.un rfl (by decide) rfl un_not (TO.pick (b := true) rfl (by decide) rfl rfl (TO.nil (TX.next (TC.condT rfl (TC.ret (TX.thenRet (TX.blockRet ?_)))))))
      exact TX.roundRet (E, n, q) ⟨rfl, (hxs ▸ hq)⟩ (Splits.of [2] (by as_aux_lemma => kernel_rfl) rfl)
   ·
    have hne : ¬ (pk x = 2 ∧ ubare n.k = false) := fun h => hm h.1
    refine TC.block (TC.seq (TC.region (TO.loads (k := 3) (cs := [.int .i64 (x.i : Int), .int .i64 (x.w : Int), .int .i32 (x.r : Int), .bool x.broken]) rw_55 rfl (by decide) rfl rfl rfl rfl (TO.callP (v := .int .i64 (pk x)) (vs := [.agg #[.int .i64 (x.i : Int), .int .i64 (x.w : Int), .int .i32 (x.r : Int), .bool x.broken]]) rfl (by decide) rfl rfl rfl en_68 (of_p _ _ _ _ (by omega) (by omega)) (TO.assign rfl (by decide) rfl (TO.nil (TX.next (TC.seq (TC.seq (TC.region (TO.move rfl (by decide) rfl (TO.bin rfl (by decide) rfl rfl (bin_known (congrArg Value.bool (show (((pk x) : Int) == 2) = false from (beq_eq_false_iff_ne.2 hm))) bin_eql) (TO.move rfl (by decide) rfl ?_)))))))))))))
    refine TO.skip rfl (by decide) (TO.skip rfl (by decide) (TO.skip rfl (by decide) (TO.skip rfl (by decide) (TO.pick (b := false) rfl (by decide) rfl rfl (TO.move rfl (by decide) rfl (TO.skip rfl (by decide) (TO.skip rfl (by decide) (TO.skip rfl (by decide) (TO.skip rfl (by decide) (TO.pick (b := false) rfl (by decide) rfl rfl (TO.nil (TX.next (TC.condF rfl ?_)))))))))))))
    refine TC.skip (TX.next (TC.seq (TC.seq (TC.region (TO.fieldAddr fl_90_2 rfl (by decide) rfl (show _ = 2 from rfl) (TO.fieldAddr fl_26_1 rfl (by decide) rfl (show _ = 3 from rfl) (TO.load (k := 1) sc_3 rfl (by decide) rfl rfl rfl (TO.bin rfl (by decide) rfl rfl (bin_known (congrArg Value.bool (show (decide ((0 : Int) < (n.t : Int))) = true from (decide_eq_true ht0))) bin_gtr) (TO.move rfl (by decide) rfl (TO.load (k := 0) sc_115 rfl (by decide) rfl rfl rfl (TO.loads (k := 1) (cs := [.int .i64 n.k, .int .i32 (n.r : Int), .int .i64 (n.f : Int), .int .i64 (n.t : Int), .bool n.al]) rw_90 rfl (by decide) rfl rfl rfl rfl ?_)))))))))))
    obtain ⟨q, hq⟩ := units_at pre post x E n hinv hne
    refine TO.yield (hy.later hext) rfl (by decide) rfl (hxs ▸ hq) rfl (k := 2) rfl ?_ ?_
    ·
     -- yes
     refine TO.un rfl (by decide) rfl un_not (TO.pick (b := true) rfl (by decide) rfl rfl (TO.nil (TX.next (TC.condF rfl (TC.skip (TX.next (TC.region (TO.move rfl (by decide) rfl (TO.fieldAddr fl_55_2 rfl (by decide) rfl (show _ = 2 from rfl) (TO.load (k := 3) sc_21 rfl (by decide) rfl rfl rfl (TO.fieldAddr fl_55_0 rfl (by decide) rfl (show _ = 0 from rfl) (TO.load (k := 3) sc_3 rfl (by decide) rfl rfl rfl (TO.fieldAddr fl_55_0 rfl (by decide) rfl (show _ = 0 from rfl) ?_)))))))))))))
     refine TO.load (k := 3) sc_3 rfl (by decide) rfl rfl rfl (TO.fieldAddr fl_55_1 rfl (by decide) rfl (show _ = 1 from rfl) (TO.load (k := 3) sc_3 rfl (by decide) rfl rfl rfl (TO.bin rfl (by decide) rfl rfl (bin_add (r := (x.i : Int) + (x.w : Int)) (IntWalk.i64_in _ (by omega))) ?_)))
     refine TO.build (v := .agg #[.int .i64 (x.i : Int), .int .i64 ((x.i : Int) + (x.w : Int))]) (ps := [(0, .tmp 48), (1, .tmp 53)]) rfl (by decide) rfl (fun _ => by kernel_rfl) ?_
     refine TO.build (v := .agg #[.int .i64 (pk x), .int .i32 (x.r : Int), .int .i64 (x.i : Int), .int .i64 ((x.i : Int) + (x.w : Int)), .bool true]) (ps := [(0, .tmp 44), (1, .tmp 46), (2, .tmp 54), (3, .const (.bool true))]) rfl (by decide) rfl (fun _ => by kernel_rfl) ?_
     refine TO.stores (k := 1) (vs := [.int .i64 (pk x), .int .i32 (x.r : Int), .int .i64 (x.i : Int), .int .i64 ((x.i : Int) + (x.w : Int)), .bool true]) (l' := [.int .i64 (pk x), .int .i32 (x.r : Int), .int .i64 (x.i : Int), .int .i64 ((x.i : Int) + (x.w : Int)), .bool true]) sz_90 rfl rfl rfl rfl rfl (show _ ≤ _ by simp) rfl rfl (TO.nil (TX.blockNormal ?_))
     exact TX.round (E ++ [n], some (unew x)) (by show ufold (pre ++ [x]) = _; rw [hsn]; simp only [ustep]; rw [if_neg hne]) (Splits.of [0, 1, 2] (by as_aux_lemma => kernel_rfl) rfl)
    ·
     -- no
     refine TO.un rfl (by decide) rfl un_not (TO.pick (b := true) rfl (by decide) rfl rfl (TO.nil (TX.next (TC.condT rfl (TC.ret (TX.thenRet (TX.blockRet ?_)))))))
     exact TX.roundRet (E, n, q) ⟨rfl, (hxs ▸ hq)⟩ (Splits.of [2] (by as_aux_lemma => kernel_rfl) rfl)
 ·
  rintro d b hinv
  show TX _ _ _ _ _ _ _ [emp, emp, emp, cells bp [.string s] 9, cells b1 [.func (.yield l) #[] #[]] 115, cells b2 [.int .i64 (uK b.2), .int .i32 (uR b.2), .int .i64 (uF b.2), .int .i64 (uT b.2), .bool (uA b.2)] 90, I b.1, mark d]
  obtain ⟨E, o⟩ := b
  have hinv : ufold (pcs s.data.toList) = (E, o) := hinv
  rcases o with _ | n
  ·
   show TX _ _ _ _ _ _ _ [emp, emp, emp, cells bp [.string s] 9, cells b1 [.func (.yield l) #[] #[]] 115, cells b2 [.int .i64 0, .int .i32 0, .int .i64 0, .int .i64 0, .bool false] 90, I E, mark d]
   refine TX.blockNormal (TX.next (TC.seq (TC.region (TO.fieldAddr fl_90_2 rfl (by decide) rfl (show _ = 2 from rfl) (TO.fieldAddr fl_26_1 rfl (by decide) rfl (show _ = 3 from rfl) (TO.load (k := 5) sc_3 rfl (by decide) rfl rfl rfl (TO.bin rfl (by decide) rfl rfl (bin_known (congrArg Value.bool (show (decide ((0 : Int) < 0)) = false from (by decide))) bin_gtr) (TO.nil (TX.next (TC.condF rfl (TC.skip ?_)))))))))))
   have he : I (units (pcs s.data.toList)) = I E := by unfold units; rw [hinv]; rfl
   exact TX.finY (ds := [d]) (.inr rfl) (Splits.of [7] (by as_aux_lemma => kernel_rfl) rfl) Try.results82 he (Splits.of [6] (by as_aux_lemma => kernel_rfl) rfl)
  ·
   show TX _ _ _ _ _ _ _ [emp, emp, emp, cells bp [.string s] 9, cells b1 [.func (.yield l) #[] #[]] 115, cells b2 [.int .i64 n.k, .int .i32 (n.r : Int), .int .i64 (n.f : Int), .int .i64 (n.t : Int), .bool n.al] 90, I E, mark d]
   have hwf := ufold_end s.data.toList _ (pcs s.data.toList) [] (Nat.le_refl _) (by simp) E n hinv
   have ht0 : (0 : Int) < n.t := by have := hwf.1; omega
   refine TX.blockNormal (TX.next (TC.seq (TC.region (TO.fieldAddr fl_90_2 rfl (by decide) rfl (show _ = 2 from rfl) (TO.fieldAddr fl_26_1 rfl (by decide) rfl (show _ = 3 from rfl) (TO.load (k := 5) sc_3 rfl (by decide) rfl rfl rfl (TO.bin rfl (by decide) rfl rfl (bin_known (congrArg Value.bool (show (decide ((0 : Int) < (n.t : Int))) = true from (decide_eq_true ht0))) bin_gtr) (TO.nil (TX.next (TC.condT rfl (TC.region (TO.load (k := 4) sc_115 rfl (by decide) rfl rfl rfl (TO.loads (k := 5) (cs := [.int .i64 n.k, .int .i32 (n.r : Int), .int .i64 (n.f : Int), .int .i64 (n.t : Int), .bool n.al]) rw_90 rfl (by decide) rfl rfl rfl rfl ?_)))))))))))))
   refine TO.yield hy rfl (by decide) rfl (pre := E) (e := n) (post := []) (units_last _ E n hinv) rfl (k := 6) rfl ?_ ?_
   ·
    -- yes
    refine TO.nil ?_
    have he : I (units (pcs s.data.toList)) = I (E ++ [n]) := by rw [units_last _ E n hinv]
    exact TX.finY (ds := [d]) (.inr rfl) (Splits.of [7] (by as_aux_lemma => kernel_rfl) rfl) Try.results82 he (Splits.of [6] (by as_aux_lemma => kernel_rfl) rfl)
   ·
    -- no
    refine TO.nil ?_
    exact TX.finX (ds := [d]) E n [] (units_last _ E n hinv) (.inr rfl) (Splits.of [7] (by as_aux_lemma => kernel_rfl) rfl) Try.results82 (Splits.of [6] (by as_aux_lemma => kernel_rfl) rfl)
 ·
  rintro d c pre x post g hxs hX
  show TC _ _ _ _ _ _ _ _ _ [emp, emp, emp, cells bp [.string s] 9, X (g.1 ++ [g.2.1]), mark d]
  obtain ⟨E, n, q⟩ := g
  obtain ⟨rfl, hq⟩ := hX
  refine TC.ret (TX.blockRet (TX.thenRet ?_))
  exact TX.finX (ds := [d]) E n q hq (.inl rfl) (Splits.of [5] (by as_aux_lemma => kernel_rfl) rfl) Try.results82 (Splits.of [4] (by as_aux_lemma => kernel_rfl) rfl)

theorem units_fn (s : ByteArray) : Fn Try.prog 61 [.string s] [] (fun b : Nat => .func (.func 82) #[] #[.pointer (some ⟨b, 0, none⟩)]) (fun b => [cells b [.string s] 9]) := by
 refine Fn.intro Try.func61 rfl Try.ntmps61 (by simp) ?_
 intro w0 K
 refine TC.seq (TC.region ?_)
 refine TO.box rfl (by decide) rfl (fun b1 => ?_)
 refine TO.assign rfl (by decide) rfl (TO.nil (TX.next (TC.seq (TC.region (TO.makeFunc (x1 := []) (x2 := [.tmp 1]) rfl (by decide) rfl rfl (TO.assign rfl (by decide) rfl (TO.nil (TX.next (TC.ret ?_)))))))))
 exact TX.fin (rs := [.tmp 2]) b1 (.inl rfl) Try.results61 (.cons (.tmp rfl) .nil) rfl (Splits.of [0] (by as_aux_lemma => kernel_rfl) rfl)
end Go.Proofs.Ytlamcpgnmeileaa
