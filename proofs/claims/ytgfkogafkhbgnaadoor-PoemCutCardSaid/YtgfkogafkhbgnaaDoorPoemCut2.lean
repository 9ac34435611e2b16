/-
  Texts laid together: Zn, Mp, Tab, Lt, Pcs, Vs, Shf, Sf, LqA, Tok, PlA, Ql, Ca, Ob, Ro, Op, Ir. Nothing is assumed.
-/
import Derived.Test.YtgfkogafkhbgnaaDoorPoemCut1
import Derived.LoopNIn
import Derived.MapKept
import Derived.Test.YtgfkogafkhbgnaaDoorProg
import Derived.Shelf.Abstract
import Derived.Shelf.Strings.Builder1
import Derived.Shelf.Strings.Builder2
import Derived.Shelf.Strings.Trim
import Derived.Shelf.Small.Utf8
import Derived.Shelf.Small.Strs
import Derived.Shelf.Strings.BuilderF
import Derived.Shelf.Strings.Search1
import Derived.Shelf.Strings.Prefix
import Derived.Shelf.Strings.Runes
import Derived.Shelf.Strings.IndexAny
import Derived.Shelf.Strings.AsciiSet
import Derived.Shelf.Strings.IndexAnyAll
import Derived.Shelf.Bits.Mul64
import Derived.Shelf.Strings.Repeat
import Derived.Shelf.Unicode.DecodeSlow
import Derived.Shelf.Slices.Equal
import Derived.Ground.Names2Prog
import Derived.Shelf.Slices.Clone
import Derived.Shelf.Strings.SlTrimAscii
namespace Go.Proofs.YtgfkogafkhbgnaaDoor
open Go.RowKit Go.Lib
set_option linter.unusedVariables false
set_option linter.unusedSimpArgs false
/-- Decided. -/
theorem dc {p : Prop} [Decidable p] (h : decide p = true := by rfl) : p := of_decide_eq_true h
/-- The same by computation. -/
theorem kr {α : Sort _} {a b : α} (h : a = b := by as_aux_lemma => kernel_rfl) : a = b := h
/-- What an iterator yields first, and then. -/
def consO {α : Type} (x : α) (o : Option (List α)) : Option (List α) := o.map (x :: ·)
theorem consE {α : Type} {x : α} {o : Option (List α)} {r : List α} (h : consO x o = some r) : ∃ r', r = x :: r' ∧ o = some r' := by
  obtain ⟨r', h1, h2⟩ := Option.map_eq_some_iff.1 h
  exact ⟨r', h2.symm, h1⟩
section
variable {F : Fence} {P : Program} {w0 : World} {K : Nat → Prop} {N : Nat} {dfs : List Deferred} {ops : Array Oper} {Q : Exit → Act → World → Prop} {rest : List Oper} {c : Code} {ex : Exit} {σ : List (Nat × Value)} {L L' As R : List Asn} {A B : Asn} {k : Nat} {β : Type}
theorem TO.weakenL (hs : Splits L L' R) (h : TO F P w0 K N dfs ops Q rest σ L') : TO F P w0 K N dfs ops Q rest σ L := fun a w ha hw => h a w ha (hw.weaken hs)
theorem TC.weakenL (hs : Splits L L' R) (h : TC F P w0 K N dfs Q c σ L') : TC F P w0 K N dfs Q c σ L := fun a w ha hw => h a w ha (hw.weaken hs)
theorem TX.weakenL (hs : Splits L L' R) (h : TX w0 K N dfs Q ex σ L') : TX w0 K N dfs Q ex σ L := fun a w ha hw => h a w ha (hw.weaken hs)
theorem TX.ent (hk : L[k]? = some A) (he : Ent A B) (h : TX w0 K N dfs Q ex σ (L.set k B)) : TX w0 K N dfs Q ex σ L := fun a w ha hw => h a w ha (hw.ent hk he)
/-- A loop of at most m rounds, round by round. -/
def TR (F : Fence) (P : Program) (w0 : World) (K : Nat → Prop) (N : Nat) (dfs : List Deferred) (Q : Exit → Act → World → Prop) (c : Code) (m : Nat) (σ : List (Nat × Value)) (L : List Asn) : Prop :=
  ∀ a w, At N dfs σ a → Holds w0 K L w → Code.roundsIn F 0 P c Q m a w
theorem TR.succ {m : Nat} (h : TC F P w0 K N dfs (Exit.then (Code.roundsIn F 0 P c Q m) Q) c σ L) : TR F P w0 K N dfs Q c (m + 1) σ L := fun a w ha hw => h a w ha hw
/-- The entry k and others become one, at k. -/
theorem Holds.fold1 {w : World} (h : Holds w0 K L w) (hk : L[k]? = some A) (hs : Splits (L.set k emp) As R) (hR : R[k]? = some emp) (hE : ∀ C w, sepL (A :: As) C w → B.P C w) : Holds w0 K (R.set k B) w := by
  obtain ⟨C, hL, hx⟩ := h
  obtain ⟨C1, C2, h1, h2, h3, h4⟩ := sepL.take hk hL
  obtain ⟨D1, D2, g1, g2, g3, g4⟩ := hs C2 w h2
  have hset : R.set k emp = R := by
    obtain ⟨hl, he⟩ := List.getElem?_eq_some_iff.1 hR
    rw [← he]; exact List.set_getElem_self hl
  refine ⟨C, sepL.put (C1 := fun i => C1 i ∨ D1 i) (C2 := D2) (List.getElem?_eq_some_iff.1 hR).1 (hE _ _ ⟨C1, D1, h1, g1, fun i a b => h3 i a ((g4 i).2 (.inl b)), fun i => Iff.rfl⟩) (by rw [hset]; exact g2) (fun i a b => ?_) (fun i => ?_), hx⟩
  · rcases a with a | a
    · exact h3 i a ((g4 i).2 (.inr b))
    · exact g3 i a b
  · rw [h4, g4, or_assoc]
/-- The entry k becomes another and some more, behind. -/
theorem Holds.unfold1 {w : World} {I : β → Prop} {Bf : β → Asn} {Bs : β → List Asn} (h : Holds w0 K L w) (hk : L[k]? = some A) (hE : ∀ C w, A.P C w → ∃ b, I b ∧ sepL (Bf b :: Bs b) C w) : ∃ b, I b ∧ Holds w0 K (L.set k (Bf b) ++ Bs b) w := by
  obtain ⟨C, hL, hx⟩ := h
  obtain ⟨C1, C2, h1, h2, h3, h4⟩ := sepL.take hk hL
  obtain ⟨b, hI, D1, D2, g1, g2, g3, g4⟩ := hE _ _ h1
  refine ⟨b, hI, C, sepL.append' (C1 := fun i => D1 i ∨ C2 i) (C2 := D2) (sepL.put (C1 := D1) (C2 := C2) (List.getElem?_eq_some_iff.1 hk).1 g1 h2 (fun i a b => h3 i ((g4 i).2 (.inl a)) b) (fun i => Iff.rfl)) g2 (fun i a b => ?_) (fun i => ?_), hx⟩
  · rcases a with a | a
    · exact g3 i a b
    · exact h3 i ((g4 i).2 (.inr b)) a
  · rw [h4, g4]
    constructor
    · rintro ((a | a) | a)
      · exact .inl (.inl a)
      · exact .inr a
      · exact .inl (.inr a)
    · rintro ((a | a) | a)
      · exact .inl (.inl a)
      · exact .inr a
      · exact .inl (.inr a)
theorem TO.fold1 (hk : L[k]? = some A) (hs : Splits (L.set k emp) As R) (hR : R[k]? = some emp) (hE : ∀ C w, sepL (A :: As) C w → B.P C w) (h : TO F P w0 K N dfs ops Q rest σ (R.set k B)) : TO F P w0 K N dfs ops Q rest σ L := fun a w ha hw => h a w ha (hw.fold1 hk hs hR hE)
theorem TC.fold1 (hk : L[k]? = some A) (hs : Splits (L.set k emp) As R) (hR : R[k]? = some emp) (hE : ∀ C w, sepL (A :: As) C w → B.P C w) (h : TC F P w0 K N dfs Q c σ (R.set k B)) : TC F P w0 K N dfs Q c σ L := fun a w ha hw => h a w ha (hw.fold1 hk hs hR hE)
theorem TX.fold1 (hk : L[k]? = some A) (hs : Splits (L.set k emp) As R) (hR : R[k]? = some emp) (hE : ∀ C w, sepL (A :: As) C w → B.P C w) (h : TX w0 K N dfs Q ex σ (R.set k B)) : TX w0 K N dfs Q ex σ L := fun a w ha hw => h a w ha (hw.fold1 hk hs hR hE)
theorem TO.unfold1 {I : β → Prop} {Bf : β → Asn} {Bs : β → List Asn} (hk : L[k]? = some A) (hE : ∀ C w, A.P C w → ∃ b, I b ∧ sepL (Bf b :: Bs b) C w) (h : ∀ b, I b → TO F P w0 K N dfs ops Q rest σ (L.set k (Bf b) ++ Bs b)) : TO F P w0 K N dfs ops Q rest σ L := fun a w ha hw => by
  obtain ⟨b, hI, hb⟩ := hw.unfold1 hk hE; exact h b hI a w ha hb
theorem TC.unfold1 {I : β → Prop} {Bf : β → Asn} {Bs : β → List Asn} (hk : L[k]? = some A) (hE : ∀ C w, A.P C w → ∃ b, I b ∧ sepL (Bf b :: Bs b) C w) (h : ∀ b, I b → TC F P w0 K N dfs Q c σ (L.set k (Bf b) ++ Bs b)) : TC F P w0 K N dfs Q c σ L := fun a w ha hw => by
  obtain ⟨b, hI, hb⟩ := hw.unfold1 hk hE; exact h b hI a w ha hb
theorem TX.unfold1 {I : β → Prop} {Bf : β → Asn} {Bs : β → List Asn} (hk : L[k]? = some A) (hE : ∀ C w, A.P C w → ∃ b, I b ∧ sepL (Bf b :: Bs b) C w) (h : ∀ b, I b → TX w0 K N dfs Q ex σ (L.set k (Bf b) ++ Bs b)) : TX w0 K N dfs Q ex σ L := fun a w ha hw => by
  obtain ⟨b, hI, hb⟩ := hw.unfold1 hk hE; exact h b hI a w ha hb
end
section
variable {F : Fence} {P : Program} {w0 : World} {K : Nat → Prop} {N : Nat} {dfs : List Deferred} {ops : Array Oper} {Q : Exit → Act → World → Prop} {rest : List Oper} {c : Code} {ex : Exit} {σ : List (Nat × Value)} {L As R : List Asn} {k : Nat}
  {α η : Type} {enc : α × η → List Value} {nest : α × η → List Asn} {e : TypeId} {size : Nat} {v : Value} {xs : List α} {zs zs' : List (α × η)} {z z' : α × η} {i : Nat} {x x' : α} {h h' : η}
/-- What the records zs own. -/
def own (nest : α × η → List Asn) (zs : List (α × η)) : Asn := star (zs.flatMap nest)
theorem openE (C : Nat → Prop) (w : World) (h : (vecN enc nest e size v xs).P C w) : ∃ zs : List (α × η), zs.map Prod.fst = xs ∧ sepL (vec enc e size v zs :: [own nest zs]) C w := by
  obtain ⟨⟨zs, hz⟩, h⟩ := h; exact ⟨zs, hz, h⟩
theorem closeE (hz : zs.map Prod.fst = xs) (C : Nat → Prop) (w : World) (h : sepL (vec enc e size v zs :: [own nest zs]) C w) : (vecN enc nest e size v xs).P C w := ⟨⟨zs, hz⟩, h⟩
theorem pullE (hz : zs[i]? = some z) (C : Nat → Prop) (w : World) (h : (own nest zs).P C w) : ∃ _u : Unit, True ∧ sepL (own nest (zs.eraseIdx i) :: nest z) C w := by
  obtain ⟨C1, C2, h1, h2, h3, h4⟩ := (sepL.pull hz).1 h
  exact ⟨(), trivial, C2, C1, h2, h1, fun k a b => h3 k b a, fun k => by rw [h4]; exact Or.comm⟩
theorem pushE (hz : zs'[i]? = some z) (he : zs'.eraseIdx i = zs.eraseIdx i) (C : Nat → Prop) (w : World) (h : sepL (own nest (zs.eraseIdx i) :: nest z) C w) : (own nest zs').P C w := by
  obtain ⟨C1, C2, h1, h2, h3, h4⟩ := h
  exact (sepL.pull hz).2 ⟨C2, C1, h2, by rw [he]; exact h1, fun k a b => h3 k b a, fun k => by rw [h4]; exact Or.comm⟩
theorem ownApp (C : Nat → Prop) (w : World) (h : sepL (own nest zs :: nest z) C w) : (own nest (zs ++ [z])).P C w := by
  obtain ⟨C1, C2, h1, h2, h3, h4⟩ := h
  show sepL ((zs ++ [z]).flatMap nest) C w
  rw [List.flatMap_append, List.flatMap_cons, List.flatMap_nil, List.append_nil]
  exact sepL.append' h1 h2 h3 h4
theorem getO_z {i : Int} (hz : zs.map Prod.fst = xs) (hq : getO xs i = some x) : ∃ h, getO zs i = some (x, h) := by
  subst hz
  unfold getO at hq ⊢
  split at hq
  · rename_i h0
    rw [if_pos h0]
    rw [List.getElem?_map] at hq
    obtain ⟨z, h1, h2⟩ := Option.map_eq_some_iff.1 hq
    exact ⟨z.2, by rw [h1, ← h2]⟩
  · cases hq
theorem zlen (hz : zs.map Prod.fst = xs) : zs.length = xs.length := by rw [← hz, List.length_map]
theorem zset (hz : zs.map Prod.fst = xs) : (zs.set i (x', h)).map Prod.fst = xs.set i x' := by rw [List.map_set, hz]
theorem zapp (hz : zs.map Prod.fst = xs) : (zs ++ [(x, h)]).map Prod.fst = xs ++ [x] := by rw [List.map_append, hz]; rfl
theorem set_get (hz : zs[i]? = some z) : (zs.set i z')[i]? = some z' := by
  have := (List.getElem?_eq_some_iff.1 hz).1; simp [this]
theorem set_erase : (zs.set i z').eraseIdx i = zs.eraseIdx i := List.eraseIdx_set_eq
variable {d : Nat} {ty : TypeId} {pos : String} {aft : Array Edge} {g : Option (Nat × Bool)} {o : Operand}
theorem TO.lenVwZ [WideF F] {tt te : TypeId} {Ls : List (α × η)} {vv : Value} {j : Nat} (hz : zs.map Prod.fst = xs) (hV : Vw vv Ls size j v zs) (hg : gd ops σ g = some true) (hd : d < N) (hx : ev σ o = some v) (ht : P.underlying tt = some (.slice te))
    (h : TO F P w0 K N dfs ops Q rest ((d, .int .i64 (xs.length : Int)) :: σ) L) : TO F P w0 K N dfs ops Q (⟨some d, .call { callee := .builtin .len, args := #[o], argTypes := #[tt] }, ty, pos, aft, g⟩ :: rest) σ L :=
  TO.lenVw hV hg hd hx ht (by rw [zlen hz]; exact h)
theorem TC.nameHd {ε : Type} {enc1 : ε → List Value} {ys : List ε} (hk : L[k]? = some (vec enc1 e size v ys)) (hh : ∀ hd : Hd, v = hd.v → TC F P w0 K N dfs Q c σ L) : TC F P w0 K N dfs Q c σ L := fun a w ha hw => by
  obtain ⟨C, hv, _⟩ := hw.focus hk
  obtain ⟨q, cc, he⟩ := Vec.len hv
  exact hh ⟨q, ys.length, cc⟩ he a w ha hw
theorem TX.newN (hh : TX w0 K N dfs Q ex σ (L ++ [vecN enc nest e size (.slice none 0 0) ([] : List α)])) : TX w0 K N dfs Q ex σ L := fun a w ha hw =>
  hh a w ha (hw.grow (C' := fun _ => False) (Ext.refl _ _) (by obtain ⟨_, _, h⟩ := Entl.nilN (enc := enc) (nest := nest) (e := e) (size := size) (fun _ => False) w (fun _ h => h); exact h))
theorem TC.newN (hh : TC F P w0 K N dfs Q c σ (L ++ [vecN enc nest e size (.slice none 0 0) ([] : List α)])) : TC F P w0 K N dfs Q c σ L := fun a w ha hw =>
  hh a w ha (hw.grow (C' := fun _ => False) (Ext.refl _ _) (by obtain ⟨_, _, h⟩ := Entl.nilN (enc := enc) (nest := nest) (e := e) (size := size) (fun _ => False) w (fun _ h => h); exact h))
theorem TO.newN (hh : TO F P w0 K N dfs ops Q rest σ (L ++ [vecN enc nest e size (.slice none 0 0) ([] : List α)])) : TO F P w0 K N dfs ops Q rest σ L := fun a w ha hw =>
  hh a w ha (hw.grow (C' := fun _ => False) (Ext.refl _ _) (by obtain ⟨_, _, h⟩ := Entl.nilN (enc := enc) (nest := nest) (e := e) (size := size) (fun _ => False) w (fun _ h => h); exact h))
theorem zs_self {ε : Type} {ys : List ε} {y : ε} (hi : ys[i]? = some y) : ys.set i y = ys := by
  obtain ⟨hl, he⟩ := List.getElem?_eq_some_iff.1 hi
  rw [← he]; exact List.set_getElem_self hl
theorem flat_setE {ε : Type} {enc1 : ε → List Value} {q1 q2 : ε} (he : enc1 q1 = enc1 q2) : ∀ (ys : List ε) (i : Nat), (ys.set i q1).flatMap enc1 = (ys.set i q2).flatMap enc1
  | [], i => rfl
  | y :: ys, 0 => by simp [he]
  | y :: ys, i + 1 => by simp [flat_setE he ys i]
/-- What is not to be seen in the cells may differ. -/
theorem vec_setE {ε : Type} {enc1 : ε → List Value} {ys zs : List ε} {q1 q2 : ε} (hz : zs = ys.set i q1) (hlen : ∀ x, (enc1 x).length = size) (he : enc1 q1 = enc1 q2) : Ent (vec enc1 e size v zs) (vec enc1 e size v (ys.set i q2)) := by
  subst hz
  rintro C w ⟨h1, h3⟩
  refine ⟨?_, h3⟩
  have hf := flat_setE he ys i
  have hl : (ys.set i q1).length = (ys.set i q2).length := by simp
  unfold Rw at h1 ⊢
  rw [← hf, ← hl]; exact h1
end
end Go.Proofs.YtgfkogafkhbgnaaDoor
namespace Go.Proofs.YtgfkogafkhbgnaaDoor
open Go.RowKit Go.Lib Go.MapKept
set_option linter.unusedVariables false
set_option linter.unusedSimpArgs false
def idxM {κ : Type} [DecidableEq κ] (k : κ) : List κ → Nat → Option Nat
  | [], _ => none
  | p :: l, i => if k = p then some i else idxM k l (i + 1)
/-- What is asked of keys. -/
structure KeyOk (P : Program) (kt : TypeId) {κ : Type} [DecidableEq κ] (ek : κ → Value) : Prop where
  check : ∀ em k (w : World), (Instr.checkKey em 10000 kt (ek k)).run P w = .ok () w
  find : ∀ (es : List MapEntry) (ks : List κ) k (w : World), es.map (·.key) = ks.map ek → (Instr.findKey kt (ek k) es).run P w = .ok ((idxM k ks 0).map fun i => (i, ((es[i]?).map (·.val)).getD default)) w
  same : ∀ k, Instr.sameBits 10000 (ek k) (ek k) = true
theorem idxM_succ {κ : Type} [DecidableEq κ] (k : κ) : ∀ (l : List κ) (i : Nat), idxM k l (i + 1) = (idxM k l i).map (· + 1)
  | [], i => rfl
  | p :: l, i => by unfold idxM; split <;> simp [idxM_succ k l (i + 1)]
theorem find_cons {κ : Type} [DecidableEq κ] (k p : κ) (e : MapEntry) (es : List MapEntry) (ks : List κ) (n : Nat) :
    ((idxM k (p :: ks) 0).map fun i => (i + n, (((e :: es)[i]?).map (·.val)).getD default)) = if k = p then some (n, e.val) else (idxM k ks 0).map fun i => (i + (n + 1), ((es[i]?).map (·.val)).getD default) := by
  have e : idxM k (p :: ks) 0 = if k = p then some 0 else idxM k ks (0 + 1) := rfl
  rw [e]
  split
  · simp
  · rw [idxM_succ, Option.map_map]; congr 1; funext i; simp [Nat.add_assoc, Nat.add_comm 1 n]
theorem KeyOk.int {P : Program} {kt : TypeId} {kd : IntKind} (h : P.underlying kt = some (.int kd)) : KeyOk P kt (fun n : Int => Value.int kd n) where
  check := fun em k w => run_checkKey h (show IsKey (.int kd) (.int kd k) by simp [IsKey]) em 9999
  find := fun es ks k w hk => run_findKey h (by
    have : ∀ (es : List MapEntry) (ks : List Int) (n : Nat), es.map (·.key) = ks.map (fun n : Int => Value.int kd n) → Instr.findNow (.int kd) (.int kd k) es n = some ((idxM k ks 0).map fun i => (i + n, ((es[i]?).map (·.val)).getD default)) := by
      intro es
      induction es with
      | nil => intro ks n h; cases ks with
        | nil => rfl
        | cons _ _ => simp at h
      | cons e es ih => intro ks n h; cases ks with
        | nil => simp at h
        | cons p ks =>
          simp only [List.map_cons, List.cons.injEq] at h
          rw [find_cons]
          have hs : Instr.sameNow (.int kd) (.int kd k) e.key = some (k == p) := by rw [h.1]; simp [Instr.sameNow]
          unfold Instr.findNow
          rw [hs]
          by_cases hp : k = p
          · subst hp; simp
          · have : (k == p) = false := by simpa using hp
            rw [this, if_neg hp]; exact ih ks (n + 1) h.2
    exact this es ks 0 hk)
  same := fun k => by simp [Instr.sameBits]
section
variable {F : Fence} {P : Program} {w0 : World} {K : Nat → Prop} {N : Nat} {dfs : List Deferred} {ops : Array Oper} {Q : Exit → Act → World → Prop} {rest : List Oper} {σ : List (Nat × Value)} {L : List Asn}
  {d : Nat} {ty : TypeId} {pos : String} {aft : Array Edge} {g : Option (Nat × Bool)} {x y z : Operand} {k b : Nat} {κ ν : Type} [DecidableEq κ] {ek : κ → Value} {ev' : ν → Value} {mt kt et : TypeId} {M : List (κ × ν)}
end
end Go.Proofs.YtgfkogafkhbgnaaDoor
namespace Go.Proofs.YtgfkogafkhbgnaaDoor
open Go.RowKit Go.Lib Go.Shelf
theorem sc_3 : ScalarOk Tryd.prog 3 := ⟨_, Tryd.underlying3, rfl⟩
theorem sz_3 : SizeOk Tryd.prog 3 1 := by unfold SizeOk; as_aux_lemma => kernel_rfl
theorem zr_3 : ZeroOk Tryd.prog 3 [.int .i64 0] := by unfold ZeroOk; as_aux_lemma => kernel_rfl
theorem sc_9 : ScalarOk Tryd.prog 9 := ⟨_, Tryd.underlying9, rfl⟩
theorem sz_9 : SizeOk Tryd.prog 9 1 := by unfold SizeOk; as_aux_lemma => kernel_rfl
theorem el_9 : ElemOk Tryd.prog 9 1 := ElemOk.mk' (by as_aux_lemma => kernel_rfl)
theorem sc_23 : ScalarOk Tryd.prog 23 := ⟨_, Tryd.underlying23, rfl⟩
theorem rw_26 : RowOk Tryd.prog 26 2 := ⟨_, Tryd.underlying26, rfl, by as_aux_lemma => kernel_rfl⟩
theorem sz_26 : SizeOk Tryd.prog 26 2 := by unfold SizeOk; as_aux_lemma => kernel_rfl
theorem zr_26 : ZeroOk Tryd.prog 26 [.int .i64 0, .int .i64 0] := by unfold ZeroOk; as_aux_lemma => kernel_rfl
theorem rw_34 : RowOk Tryd.prog 34 2 := ⟨_, Tryd.underlying34, rfl, by as_aux_lemma => kernel_rfl⟩
theorem fl_34_0 : FieldOk Tryd.prog 34 0 0 := ⟨_, _, Tryd.underlying34, rfl, rfl, by as_aux_lemma => kernel_rfl⟩
theorem fl_34_1 : FieldOk Tryd.prog 34 1 1 := ⟨_, _, Tryd.underlying34, rfl, rfl, by as_aux_lemma => kernel_rfl⟩
theorem sz_34 : SizeOk Tryd.prog 34 2 := by unfold SizeOk; as_aux_lemma => kernel_rfl
theorem zr_34 : ZeroOk Tryd.prog 34 [.int .i64 0, .int .i64 0] := by unfold ZeroOk; as_aux_lemma => kernel_rfl
theorem el_34 : ElemOk Tryd.prog 34 2 := ElemOk.mk' (by as_aux_lemma => kernel_rfl)
theorem rw_36 : RowOk Tryd.prog 36 6 := ⟨_, Tryd.underlying36, rfl, by as_aux_lemma => kernel_rfl⟩
theorem fl_36_0 : FieldOk Tryd.prog 36 0 0 := ⟨_, _, Tryd.underlying36, rfl, rfl, by as_aux_lemma => kernel_rfl⟩
theorem fl_36_1 : FieldOk Tryd.prog 36 1 1 := ⟨_, _, Tryd.underlying36, rfl, rfl, by as_aux_lemma => kernel_rfl⟩
theorem fl_36_2 : FieldOk Tryd.prog 36 2 2 := ⟨_, _, Tryd.underlying36, rfl, rfl, by as_aux_lemma => kernel_rfl⟩
theorem fl_36_3 : FieldOk Tryd.prog 36 3 3 := ⟨_, _, Tryd.underlying36, rfl, rfl, by as_aux_lemma => kernel_rfl⟩
theorem sz_36 : SizeOk Tryd.prog 36 6 := by unfold SizeOk; as_aux_lemma => kernel_rfl
theorem zr_36 : ZeroOk Tryd.prog 36 [.string ByteArray.empty, .int .i64 0, .int .i64 0, .int .i64 0, .int .i64 0, .int .i64 0] := by unfold ZeroOk; as_aux_lemma => kernel_rfl
theorem el_36 : ElemOk Tryd.prog 36 6 := ElemOk.mk' (by as_aux_lemma => kernel_rfl)
theorem sc_48 : ScalarOk Tryd.prog 48 := ⟨_, Tryd.underlying48, rfl⟩
theorem sz_48 : SizeOk Tryd.prog 48 1 := by unfold SizeOk; as_aux_lemma => kernel_rfl
theorem zr_48 : ZeroOk Tryd.prog 48 [.slice none 0 0] := by unfold ZeroOk; as_aux_lemma => kernel_rfl
theorem el_48 : ElemOk Tryd.prog 48 1 := ElemOk.mk' (by as_aux_lemma => kernel_rfl)
theorem sc_54 : ScalarOk Tryd.prog 54 := ⟨_, Tryd.underlying54, rfl⟩
theorem sz_54 : SizeOk Tryd.prog 54 1 := by unfold SizeOk; as_aux_lemma => kernel_rfl
theorem zr_54 : ZeroOk Tryd.prog 54 [.slice none 0 0] := by unfold ZeroOk; as_aux_lemma => kernel_rfl
theorem sc_57 : ScalarOk Tryd.prog 57 := ⟨_, Tryd.underlying57, rfl⟩
theorem sz_57 : SizeOk Tryd.prog 57 1 := by unfold SizeOk; as_aux_lemma => kernel_rfl
theorem sc_89 : ScalarOk Tryd.prog 89 := ⟨_, Tryd.underlying89, rfl⟩
theorem sz_89 : SizeOk Tryd.prog 89 1 := by unfold SizeOk; as_aux_lemma => kernel_rfl
theorem fl_91_0 : FieldOk Tryd.prog 91 0 0 := ⟨_, _, Tryd.underlying91, rfl, rfl, by as_aux_lemma => kernel_rfl⟩
theorem fl_91_1 : FieldOk Tryd.prog 91 1 1 := ⟨_, _, Tryd.underlying91, rfl, rfl, by as_aux_lemma => kernel_rfl⟩
theorem fl_91_2 : FieldOk Tryd.prog 91 2 2 := ⟨_, _, Tryd.underlying91, rfl, rfl, by as_aux_lemma => kernel_rfl⟩
theorem fl_93_0 : FieldOk Tryd.prog 93 0 0 := ⟨_, _, Tryd.underlying93, rfl, rfl, by as_aux_lemma => kernel_rfl⟩
theorem zr_106 : ZeroOk Tryd.prog 106 [.pointer none, .slice none 0 0] := by unfold ZeroOk; as_aux_lemma => kernel_rfl
theorem sc_125 : ScalarOk Tryd.prog 125 := ⟨_, Tryd.underlying125, rfl⟩
theorem sz_125 : SizeOk Tryd.prog 125 1 := by unfold SizeOk; as_aux_lemma => kernel_rfl
theorem sc_126 : ScalarOk Tryd.prog 126 := ⟨_, Tryd.underlying126, rfl⟩
theorem sz_126 : SizeOk Tryd.prog 126 1 := by unfold SizeOk; as_aux_lemma => kernel_rfl
theorem fl_128_1 : FieldOk Tryd.prog 128 1 1 := ⟨_, _, Tryd.underlying128, rfl, rfl, by as_aux_lemma => kernel_rfl⟩
theorem fl_128_2 : FieldOk Tryd.prog 128 2 2 := ⟨_, _, Tryd.underlying128, rfl, rfl, by as_aux_lemma => kernel_rfl⟩
theorem rw_130 : RowOk Tryd.prog 130 5 := ⟨_, Tryd.underlying130, rfl, by as_aux_lemma => kernel_rfl⟩
theorem fl_130_0 : FieldOk Tryd.prog 130 0 0 := ⟨_, _, Tryd.underlying130, rfl, rfl, by as_aux_lemma => kernel_rfl⟩
theorem fl_130_1 : FieldOk Tryd.prog 130 1 1 := ⟨_, _, Tryd.underlying130, rfl, rfl, by as_aux_lemma => kernel_rfl⟩
theorem fl_130_2 : FieldOk Tryd.prog 130 2 2 := ⟨_, _, Tryd.underlying130, rfl, rfl, by as_aux_lemma => kernel_rfl⟩
theorem fl_130_3 : FieldOk Tryd.prog 130 3 3 := ⟨_, _, Tryd.underlying130, rfl, rfl, by as_aux_lemma => kernel_rfl⟩
theorem fl_130_4 : FieldOk Tryd.prog 130 4 4 := ⟨_, _, Tryd.underlying130, rfl, rfl, by as_aux_lemma => kernel_rfl⟩
theorem sz_130 : SizeOk Tryd.prog 130 5 := by unfold SizeOk; as_aux_lemma => kernel_rfl
theorem zr_130 : ZeroOk Tryd.prog 130 [.int .i64 0, .int .i64 0, .int .i64 0, .int .i64 0, .int .i64 0] := by unfold ZeroOk; as_aux_lemma => kernel_rfl
theorem el_130 : ElemOk Tryd.prog 130 5 := ElemOk.mk' (by as_aux_lemma => kernel_rfl)
theorem rw_132 : RowOk Tryd.prog 132 4 := ⟨_, Tryd.underlying132, rfl, by as_aux_lemma => kernel_rfl⟩
theorem fl_132_0 : FieldOk Tryd.prog 132 0 0 := ⟨_, _, Tryd.underlying132, rfl, rfl, by as_aux_lemma => kernel_rfl⟩
theorem fl_132_1 : FieldOk Tryd.prog 132 1 2 := ⟨_, _, Tryd.underlying132, rfl, rfl, by as_aux_lemma => kernel_rfl⟩
theorem sz_132 : SizeOk Tryd.prog 132 4 := by unfold SizeOk; as_aux_lemma => kernel_rfl
theorem zr_132 : ZeroOk Tryd.prog 132 [.int .i64 0, .int .i64 0, .int .i64 0, .int .i64 0] := by unfold ZeroOk; as_aux_lemma => kernel_rfl
theorem el_132 : ElemOk Tryd.prog 132 4 := ElemOk.mk' (by as_aux_lemma => kernel_rfl)
theorem en_12 : ∀ args w, (callFunc 12 args).run Tryd.prog w = .ok (.enter 12 args) w := enters_of Tryd.func12 (by as_aux_lemma => kernel_rfl) rfl
theorem en_13 : ∀ args w, (callFunc 13 args).run Tryd.prog w = .ok (.enter 13 args) w := enters_of Tryd.func13 (by as_aux_lemma => kernel_rfl) rfl
theorem en_14 : ∀ args w, (callFunc 14 args).run Tryd.prog w = .ok (.enter 14 args) w := enters_of Tryd.func14 (by as_aux_lemma => kernel_rfl) rfl
theorem en_15 : ∀ args w, (callFunc 15 args).run Tryd.prog w = .ok (.enter 15 args) w := enters_of Tryd.func15 (by as_aux_lemma => kernel_rfl) rfl
theorem en_16 : ∀ args w, (callFunc 16 args).run Tryd.prog w = .ok (.enter 16 args) w := enters_of Tryd.func16 (by as_aux_lemma => kernel_rfl) rfl
theorem en_17 : ∀ args w, (callFunc 17 args).run Tryd.prog w = .ok (.enter 17 args) w := enters_of Tryd.func17 (by as_aux_lemma => kernel_rfl) rfl
theorem en_18 : ∀ args w, (callFunc 18 args).run Tryd.prog w = .ok (.enter 18 args) w := enters_of Tryd.func18 (by as_aux_lemma => kernel_rfl) rfl
theorem en_19 : ∀ args w, (callFunc 19 args).run Tryd.prog w = .ok (.enter 19 args) w := enters_of Tryd.func19 (by as_aux_lemma => kernel_rfl) rfl
theorem en_21 : ∀ args w, (callFunc 21 args).run Tryd.prog w = .ok (.enter 21 args) w := enters_of Tryd.func21 (by as_aux_lemma => kernel_rfl) rfl
theorem en_22 : ∀ args w, (callFunc 22 args).run Tryd.prog w = .ok (.enter 22 args) w := enters_of Tryd.func22 (by as_aux_lemma => kernel_rfl) rfl
theorem en_23 : ∀ args w, (callFunc 23 args).run Tryd.prog w = .ok (.enter 23 args) w := enters_of Tryd.func23 (by as_aux_lemma => kernel_rfl) rfl
theorem en_24 : ∀ args w, (callFunc 24 args).run Tryd.prog w = .ok (.enter 24 args) w := enters_of Tryd.func24 (by as_aux_lemma => kernel_rfl) rfl
theorem en_25 : ∀ args w, (callFunc 25 args).run Tryd.prog w = .ok (.enter 25 args) w := enters_of Tryd.func25 (by as_aux_lemma => kernel_rfl) rfl
theorem en_26 : ∀ args w, (callFunc 26 args).run Tryd.prog w = .ok (.enter 26 args) w := enters_of Tryd.func26 (by as_aux_lemma => kernel_rfl) rfl
theorem en_27 : ∀ args w, (callFunc 27 args).run Tryd.prog w = .ok (.enter 27 args) w := enters_of Tryd.func27 (by as_aux_lemma => kernel_rfl) rfl
theorem en_28 : ∀ args w, (callFunc 28 args).run Tryd.prog w = .ok (.enter 28 args) w := enters_of Tryd.func28 (by as_aux_lemma => kernel_rfl) rfl
theorem en_29 : ∀ args w, (callFunc 29 args).run Tryd.prog w = .ok (.enter 29 args) w := enters_of Tryd.func29 (by as_aux_lemma => kernel_rfl) rfl
theorem en_45 : ∀ args w, (callFunc 45 args).run Tryd.prog w = .ok (.enter 45 args) w := enters_of Tryd.func45 (by as_aux_lemma => kernel_rfl) rfl
theorem en_46 : ∀ args w, (callFunc 46 args).run Tryd.prog w = .ok (.enter 46 args) w := enters_of Tryd.func46 (by as_aux_lemma => kernel_rfl) rfl
theorem en_47 : ∀ args w, (callFunc 47 args).run Tryd.prog w = .ok (.enter 47 args) w := enters_of Tryd.func47 (by as_aux_lemma => kernel_rfl) rfl
theorem en_48 : ∀ args w, (callFunc 48 args).run Tryd.prog w = .ok (.enter 48 args) w := enters_of Tryd.func48 (by as_aux_lemma => kernel_rfl) rfl
theorem en_49 : ∀ args w, (callFunc 49 args).run Tryd.prog w = .ok (.enter 49 args) w := enters_of Tryd.func49 (by as_aux_lemma => kernel_rfl) rfl
theorem en_50 : ∀ args w, (callFunc 50 args).run Tryd.prog w = .ok (.enter 50 args) w := enters_of Tryd.func50 (by as_aux_lemma => kernel_rfl) rfl
theorem en_51 : ∀ args w, (callFunc 51 args).run Tryd.prog w = .ok (.enter 51 args) w := enters_of Tryd.func51 (by as_aux_lemma => kernel_rfl) rfl
theorem en_52 : ∀ args w, (callFunc 52 args).run Tryd.prog w = .ok (.enter 52 args) w := enters_of Tryd.func52 (by as_aux_lemma => kernel_rfl) rfl
theorem en_55 : ∀ args w, (callFunc 55 args).run Tryd.prog w = .ok (.enter 55 args) w := enters_of Tryd.func55 (by as_aux_lemma => kernel_rfl) rfl
theorem en_56 : ∀ args w, (callFunc 56 args).run Tryd.prog w = .ok (.enter 56 args) w := enters_of Tryd.func56 (by as_aux_lemma => kernel_rfl) rfl
theorem en_57 : ∀ args w, (callFunc 57 args).run Tryd.prog w = .ok (.enter 57 args) w := enters_of Tryd.func57 (by as_aux_lemma => kernel_rfl) rfl
theorem en_58 : ∀ args w, (callFunc 58 args).run Tryd.prog w = .ok (.enter 58 args) w := enters_of Tryd.func58 (by as_aux_lemma => kernel_rfl) rfl
theorem en_59 : ∀ args w, (callFunc 59 args).run Tryd.prog w = .ok (.enter 59 args) w := enters_of Tryd.func59 (by as_aux_lemma => kernel_rfl) rfl
theorem en_60 : ∀ args w, (callFunc 60 args).run Tryd.prog w = .ok (.enter 60 args) w := enters_of Tryd.func60 (by as_aux_lemma => kernel_rfl) rfl
theorem en_61 : ∀ args w, (callFunc 61 args).run Tryd.prog w = .ok (.enter 61 args) w := enters_of Tryd.func61 (by as_aux_lemma => kernel_rfl) rfl
theorem en_62 : ∀ args w, (callFunc 62 args).run Tryd.prog w = .ok (.enter 62 args) w := enters_of Tryd.func62 (by as_aux_lemma => kernel_rfl) rfl
theorem en_63 : ∀ args w, (callFunc 63 args).run Tryd.prog w = .ok (.enter 63 args) w := enters_of Tryd.func63 (by as_aux_lemma => kernel_rfl) rfl
theorem en_75 : ∀ args w, (callFunc 75 args).run Tryd.prog w = .ok (.enter 75 args) w := enters_of Tryd.func75 (by as_aux_lemma => kernel_rfl) rfl
theorem en_76 : ∀ args w, (callFunc 76 args).run Tryd.prog w = .ok (.enter 76 args) w := enters_of Tryd.func76 (by as_aux_lemma => kernel_rfl) rfl
theorem en_81 : ∀ args w, (callFunc 81 args).run Tryd.prog w = .ok (.enter 81 args) w := enters_of Tryd.func81 (by as_aux_lemma => kernel_rfl) rfl
theorem en_82 : ∀ args w, (callFunc 82 args).run Tryd.prog w = .ok (.enter 82 args) w := enters_of Tryd.func82 (by as_aux_lemma => kernel_rfl) rfl
theorem en_99 : ∀ args w, (callFunc 99 args).run Tryd.prog w = .ok (.enter 99 args) w := enters_of Tryd.func99 (by as_aux_lemma => kernel_rfl) rfl
theorem en_100 : ∀ args w, (callFunc 100 args).run Tryd.prog w = .ok (.enter 100 args) w := enters_of Tryd.func100 (by as_aux_lemma => kernel_rfl) rfl
theorem mixed : Tryd.prog.follows .mixedOrders = true := by as_aux_lemma => kernel_rfl
end Go.Proofs.YtgfkogafkhbgnaaDoor
namespace Go.Proofs.YtgfkogafkhbgnaaDoor
open Go.RowKit Go.Lib
set_option linter.unusedSimpArgs false
@[ext] structure Gapi_Spot where
  Err : Int
  At : Int
def eq_Gapi_Spot (a b : Gapi_Spot) : Bool := (a.Err == b.Err) && (a.At == b.At)
theorem eq_Gapi_Spot_iff (a b : Gapi_Spot) : eq_Gapi_Spot a b = true ↔ a = b := by
  rcases a with ⟨a0, a1⟩
  rcases b with ⟨b0, b1⟩
  simp [eq_Gapi_Spot, Bool.and_eq_true, and_assoc]
instance : DecidableEq Gapi_Spot := fun a b => decidable_of_iff _ (eq_Gapi_Spot_iff a b)
@[ext] structure Gapi_Span where
  From : Int
  To : Int
def enc_Gapi_Span (x : Gapi_Span) : List Value := [.int .i64 x.From, .int .i64 x.To]
theorem enc_Gapi_Span_len (x : Gapi_Span) : (enc_Gapi_Span x).length = 2 := rfl
theorem enc_Gapi_Span_one (x : Gapi_Span) : ∀ u ∈ enc_Gapi_Span x, u.oneCell' = true := by
  intro u hu
  simp only [enc_Gapi_Span, List.mem_cons, List.not_mem_nil, or_false] at hu
  rcases hu with rfl | rfl <;> rfl
def eq_Gapi_Span (a b : Gapi_Span) : Bool := (a.From == b.From) && (a.To == b.To)
theorem eq_Gapi_Span_iff (a b : Gapi_Span) : eq_Gapi_Span a b = true ↔ a = b := by
  rcases a with ⟨a0, a1⟩
  rcases b with ⟨b0, b1⟩
  simp [eq_Gapi_Span, Bool.and_eq_true, and_assoc]
instance : DecidableEq Gapi_Span := fun a b => decidable_of_iff _ (eq_Gapi_Span_iff a b)
@[ext] structure Gapi_Verse where
  Text : ByteArray
  Indent : Int
  Stanza : Int
  In : Int
  Span_From : Int
  Span_To : Int
def enc_Gapi_Verse (x : Gapi_Verse) : List Value := [.string x.Text, .int .i64 x.Indent, .int .i64 x.Stanza, .int .i64 x.In, .int .i64 x.Span_From, .int .i64 x.Span_To]
theorem enc_Gapi_Verse_len (x : Gapi_Verse) : (enc_Gapi_Verse x).length = 6 := rfl
theorem enc_Gapi_Verse_one (x : Gapi_Verse) : ∀ u ∈ enc_Gapi_Verse x, u.oneCell' = true := by
  intro u hu
  simp only [enc_Gapi_Verse, List.mem_cons, List.not_mem_nil, or_false] at hu
  rcases hu with rfl | rfl | rfl | rfl | rfl | rfl <;> rfl
def eq_Gapi_Verse (a b : Gapi_Verse) : Bool := decide (a.Text = b.Text) && (a.Indent == b.Indent) && (a.Stanza == b.Stanza) && (a.In == b.In) && (a.Span_From == b.Span_From) && (a.Span_To == b.Span_To)
theorem eq_Gapi_Verse_iff (a b : Gapi_Verse) : eq_Gapi_Verse a b = true ↔ a = b := by
  rcases a with ⟨a0, a1, a2, a3, a4, a5⟩
  rcases b with ⟨b0, b1, b2, b3, b4, b5⟩
  simp [eq_Gapi_Verse, Bool.and_eq_true, and_assoc]
instance : DecidableEq Gapi_Verse := fun a b => decidable_of_iff _ (eq_Gapi_Verse_iff a b)
@[ext] structure Tstruct_at_int_line_int_in_int_e_int_ where
  at_ : Int
  line : Int
  in_ : Int
  e : Int
def eq_Tstruct_at_int_line_int_in_int_e_int_ (a b : Tstruct_at_int_line_int_in_int_e_int_) : Bool := (a.at_ == b.at_) && (a.line == b.line) && (a.in_ == b.in_) && (a.e == b.e)
theorem eq_Tstruct_at_int_line_int_in_int_e_int__iff (a b : Tstruct_at_int_line_int_in_int_e_int_) : eq_Tstruct_at_int_line_int_in_int_e_int_ a b = true ↔ a = b := by
  rcases a with ⟨a0, a1, a2, a3⟩
  rcases b with ⟨b0, b1, b2, b3⟩
  simp [eq_Tstruct_at_int_line_int_in_int_e_int_, Bool.and_eq_true, and_assoc]
instance : DecidableEq Tstruct_at_int_line_int_in_int_e_int_ := fun a b => decidable_of_iff _ (eq_Tstruct_at_int_line_int_in_int_e_int__iff a b)
@[ext] structure Gapi_Token where
  Kind : Int
  Span_From : Int
  Span_To : Int
def eq_Gapi_Token (a b : Gapi_Token) : Bool := (a.Kind == b.Kind) && (a.Span_From == b.Span_From) && (a.Span_To == b.Span_To)
theorem eq_Gapi_Token_iff (a b : Gapi_Token) : eq_Gapi_Token a b = true ↔ a = b := by
  rcases a with ⟨a0, a1, a2⟩
  rcases b with ⟨b0, b1, b2⟩
  simp [eq_Gapi_Token, Bool.and_eq_true, and_assoc]
instance : DecidableEq Gapi_Token := fun a b => decidable_of_iff _ (eq_Gapi_Token_iff a b)
@[ext] structure Gapi_Place where
  Byte : Int
  Rune : Int
  Unit : Int
  Line : Int
  Col : Int
def enc_Gapi_Place (x : Gapi_Place) : List Value := [.int .i64 x.Byte, .int .i64 x.Rune, .int .i64 x.Unit, .int .i64 x.Line, .int .i64 x.Col]
theorem enc_Gapi_Place_len (x : Gapi_Place) : (enc_Gapi_Place x).length = 5 := rfl
theorem enc_Gapi_Place_one (x : Gapi_Place) : ∀ u ∈ enc_Gapi_Place x, u.oneCell' = true := by
  intro u hu
  simp only [enc_Gapi_Place, List.mem_cons, List.not_mem_nil, or_false] at hu
  rcases hu with rfl | rfl | rfl | rfl | rfl <;> rfl
def eq_Gapi_Place (a b : Gapi_Place) : Bool := (a.Byte == b.Byte) && (a.Rune == b.Rune) && (a.Unit == b.Unit) && (a.Line == b.Line) && (a.Col == b.Col)
theorem eq_Gapi_Place_iff (a b : Gapi_Place) : eq_Gapi_Place a b = true ↔ a = b := by
  rcases a with ⟨a0, a1, a2, a3, a4⟩
  rcases b with ⟨b0, b1, b2, b3, b4⟩
  simp [eq_Gapi_Place, Bool.and_eq_true, and_assoc]
instance : DecidableEq Gapi_Place := fun a b => decidable_of_iff _ (eq_Gapi_Place_iff a b)
@[ext] structure Gplace_ended where
  span_From : Int
  span_To : Int
  end_ : Int
  first : Int
def enc_Gplace_ended (x : Gplace_ended) : List Value := [.int .i64 x.span_From, .int .i64 x.span_To, .int .i64 x.end_, .int .i64 x.first]
theorem enc_Gplace_ended_len (x : Gplace_ended) : (enc_Gplace_ended x).length = 4 := rfl
theorem enc_Gplace_ended_one (x : Gplace_ended) : ∀ u ∈ enc_Gplace_ended x, u.oneCell' = true := by
  intro u hu
  simp only [enc_Gplace_ended, List.mem_cons, List.not_mem_nil, or_false] at hu
  rcases hu with rfl | rfl | rfl | rfl <;> rfl
def eq_Gplace_ended (a b : Gplace_ended) : Bool := (a.span_From == b.span_From) && (a.span_To == b.span_To) && (a.end_ == b.end_) && (a.first == b.first)
theorem eq_Gplace_ended_iff (a b : Gplace_ended) : eq_Gplace_ended a b = true ↔ a = b := by
  rcases a with ⟨a0, a1, a2, a3⟩
  rcases b with ⟨b0, b1, b2, b3⟩
  simp [eq_Gplace_ended, Bool.and_eq_true, and_assoc]
instance : DecidableEq Gplace_ended := fun a b => decidable_of_iff _ (eq_Gplace_ended_iff a b)
@[ext] structure Gword_unit where
  kind : Int
  r : Int
  span_From : Int
  span_To : Int
  alone : Bool
def eq_Gword_unit (a b : Gword_unit) : Bool := (a.kind == b.kind) && (a.r == b.r) && (a.span_From == b.span_From) && (a.span_To == b.span_To) && (a.alone == b.alone)
theorem eq_Gword_unit_iff (a b : Gword_unit) : eq_Gword_unit a b = true ↔ a = b := by
  rcases a with ⟨a0, a1, a2, a3, a4⟩
  rcases b with ⟨b0, b1, b2, b3, b4⟩
  simp [eq_Gword_unit, Bool.and_eq_true, and_assoc]
instance : DecidableEq Gword_unit := fun a b => decidable_of_iff _ (eq_Gword_unit_iff a b)
@[ext] structure Gword_scanner where
  state : Int
  t_Kind : Int
  t_Span_From : Int
  t_Span_To : Int
  held_kind : Int
  held_r : Int
  held_span_From : Int
  held_span_To : Int
  held_alone : Bool
def eq_Gword_scanner (a b : Gword_scanner) : Bool := (a.state == b.state) && (a.t_Kind == b.t_Kind) && (a.t_Span_From == b.t_Span_From) && (a.t_Span_To == b.t_Span_To) && (a.held_kind == b.held_kind) && (a.held_r == b.held_r) && (a.held_span_From == b.held_span_From) && (a.held_span_To == b.held_span_To) && (a.held_alone == b.held_alone)
theorem eq_Gword_scanner_iff (a b : Gword_scanner) : eq_Gword_scanner a b = true ↔ a = b := by
  rcases a with ⟨a0, a1, a2, a3, a4, a5, a6, a7, a8⟩
  rcases b with ⟨b0, b1, b2, b3, b4, b5, b6, b7, b8⟩
  simp [eq_Gword_scanner, Bool.and_eq_true, and_assoc]
instance : DecidableEq Gword_scanner := fun a b => decidable_of_iff _ (eq_Gword_scanner_iff a b)
@[ext] structure Gapi_Piece where
  At : Int
  Width : Int
  Rune : Int
  Broken : Bool
def eq_Gapi_Piece (a b : Gapi_Piece) : Bool := (a.At == b.At) && (a.Width == b.Width) && (a.Rune == b.Rune) && (a.Broken == b.Broken)
theorem eq_Gapi_Piece_iff (a b : Gapi_Piece) : eq_Gapi_Piece a b = true ↔ a = b := by
  rcases a with ⟨a0, a1, a2, a3⟩
  rcases b with ⟨b0, b1, b2, b3⟩
  simp [eq_Gapi_Piece, Bool.and_eq_true, and_assoc]
instance : DecidableEq Gapi_Piece := fun a b => decidable_of_iff _ (eq_Gapi_Piece_iff a b)
@[ext] structure T_16_utf8_acceptRange where
  e0_lo : Int
  e0_hi : Int
  e1_lo : Int
  e1_hi : Int
  e2_lo : Int
  e2_hi : Int
  e3_lo : Int
  e3_hi : Int
  e4_lo : Int
  e4_hi : Int
  e5_lo : Int
  e5_hi : Int
  e6_lo : Int
  e6_hi : Int
  e7_lo : Int
  e7_hi : Int
  e8_lo : Int
  e8_hi : Int
  e9_lo : Int
  e9_hi : Int
  e10_lo : Int
  e10_hi : Int
  e11_lo : Int
  e11_hi : Int
  e12_lo : Int
  e12_hi : Int
  e13_lo : Int
  e13_hi : Int
  e14_lo : Int
  e14_hi : Int
  e15_lo : Int
  e15_hi : Int
theorem bin_neq_26 {x y : Operand} (a b : Gapi_Spot) (w : World) : (do eqGuard .neq 26 x y (.agg #[.int .i64 a.Err, .int .i64 a.At]) (.agg #[.int .i64 b.Err, .int .i64 b.At]); binOp .neq 26 (.agg #[.int .i64 a.Err, .int .i64 a.At]) (.agg #[.int .i64 b.Err, .int .i64 b.At]) : Sem Value).run Tryd.prog w = .ok (.bool (!eq_Gapi_Spot a b)) w :=
  bin_aggN (by as_aux_lemma => kernel_rfl) (show ((a.Err == b.Err) && ((a.At == b.At) && true)) = eq_Gapi_Spot a b by simp [eq_Gapi_Spot, Bool.and_assoc]) (eqF_agg (dd := 9999) (by as_aux_lemma => kernel_rfl) (by as_aux_lemma => kernel_rfl) (eqF_at (ft := 24) (off := 0) (a := .int .i64 a.Err) (b := .int .i64 b.Err) (by as_aux_lemma => kernel_rfl) (fun _ => by kernel_rfl) (fun _ => by kernel_rfl) (eqF_int Tryd.underlying24) (eqF_at (ft := 3) (off := 1) (a := .int .i64 a.At) (b := .int .i64 b.At) (by as_aux_lemma => kernel_rfl) (fun _ => by kernel_rfl) (fun _ => by kernel_rfl) (eqF_int Tryd.underlying3) (eqF_end (n := 2) (by as_aux_lemma => kernel_rfl))))) w
def encN_T_string (z : (List ByteArray) × Hd) : List Value := [z.2.v]
def nest_T_string (z : (List ByteArray) × Hd) : List Asn := [vec encS 9 1 z.2.v z.1]
theorem encN_T_string_len (z : (List ByteArray) × Hd) : (encN_T_string z).length = 1 := rfl
theorem encN_T_string_one (z : (List ByteArray) × Hd) : ∀ u ∈ encN_T_string z, u.oneCell' = true := by
  intro u hu
  simp only [encN_T_string, List.mem_cons, List.not_mem_nil, or_false] at hu
  rcases hu with rfl <;> rfl
structure Gref17_Poem where
  Title : ByteArray
  Stanzas : List (List ByteArray)
structure Gpoem_told where
  title : ByteArray
  lines : List Gapi_Verse
  stanzas : List Gapi_Span
structure Gpoem_Poem where
  told_title : ByteArray
  told_lines : List Gapi_Verse
  told_stanzas : List Gapi_Span
  source : ByteArray
def encN_Gpoem_Poem (z : Gpoem_Poem × Hd × Hd) : List Value := [.string z.1.told_title, z.2.1.v, z.2.2.v, .string z.1.source]
def nest_Gpoem_Poem (z : Gpoem_Poem × Hd × Hd) : List Asn := [vec enc_Gapi_Verse 36 6 z.2.1.v z.1.told_lines, vec enc_Gapi_Span 34 2 z.2.2.v z.1.told_stanzas]
structure Gplace_Map where
  text : ByteArray
  places : List Gapi_Place
  lines : List Gplace_ended
def encN_Gplace_Map (z : Gplace_Map × Hd × Hd) : List Value := [.string z.1.text, z.2.1.v, z.2.2.v]
def nest_Gplace_Map (z : Gplace_Map × Hd × Hd) : List Asn := [vec enc_Gapi_Place 130 5 z.2.1.v z.1.places, vec enc_Gplace_ended 132 4 z.2.2.v z.1.lines]
end Go.Proofs.YtgfkogafkhbgnaaDoor
namespace Go.Proofs.YtgfkogafkhbgnaaDoor
open Go.RowKit Go.Lib

/-- A piece in the midst: what stands there. -/
theorem pcsFrom_split : ∀ (P : List Pc) (i : Nat) (l : List UInt8) (x : Pc) (B : List Pc), pcsFrom i l = P ++ x :: B →
    ∃ n, x.i = i + n ∧ n + x.w ≤ l.length ∧ DecOk (l.drop n) x.r x.w ∧ pcsFrom (i + n) (l.drop n) = x :: B ∧ B = pcsFrom (x.i + x.w) (l.drop (n + x.w))
  | [], i, l, x, B, h => by
    by_cases hl : l = []
    · subst hl; simp [pcsFrom_nil] at h
    · have hok := decOk l hl
      have h' := h
      rw [pcsFrom_cons i l hl] at h
      simp only [List.nil_append, List.cons.injEq] at h
      obtain ⟨rfl, hB⟩ := h
      exact ⟨0, by simp, by simpa using hok.le, by simpa using hok, by simpa using h', by simpa using hB.symm⟩
  | p :: P, i, l, x, B, h => by
    by_cases hl : l = []
    · subst hl; simp [pcsFrom_nil] at h
    · have hle := dec_le l hl
      rw [pcsFrom_cons i l hl] at h
      simp only [List.cons_append, List.cons.injEq] at h
      obtain ⟨n, h1, h2, h3, h4, h5⟩ := pcsFrom_split P _ _ x B h.2
      refine ⟨(decodeL l).2 + n, by omega, by simp at h2; omega, by rw [← List.drop_drop]; exact h3, by rw [← List.drop_drop, ← Nat.add_assoc]; exact h4, ?_⟩
      rw [h5, List.drop_drop, Nat.add_assoc]
theorem pcs_split (l : List UInt8) (P : List Pc) (x : Pc) (B : List Pc) (h : pcs l = P ++ x :: B) :
    x.i + x.w ≤ l.length ∧ DecOk (l.drop x.i) x.r x.w ∧ pcsFrom x.i (l.drop x.i) = x :: B ∧ B = pcsFrom (x.i + x.w) (l.drop (x.i + x.w)) := by
  obtain ⟨n, h1, h2, h3, h4, h5⟩ := pcsFrom_split P 0 l x B h
  have : x.i = n := by omega
  subst this
  exact ⟨h2, h3, by simpa using h4, h5⟩
theorem pcs_pos (l : List UInt8) (x : Pc) (h : x ∈ pcs l) : 1 ≤ x.w ∧ x.i + x.w ≤ l.length ∧ DecOk (l.drop x.i) x.r x.w := by
  obtain ⟨P, B, hs⟩ := List.append_of_mem h
  obtain ⟨h1, h2, _⟩ := pcs_split l P x B hs
  exact ⟨h2.pos, h1, h2⟩

end Go.Proofs.YtgfkogafkhbgnaaDoor
namespace Go.Proofs.YtgfkogafkhbgnaaDoor
open Go.RowKit Go.Lib
set_option linter.unusedVariables false
set_option linter.unusedSimpArgs false

/-- Where the k-th piece begins. -/
def posAt (s : ByteArray) (k : Nat) : Nat := match (pcs s.data.toList)[k]? with
  | some p => p.i
  | none => s.size
theorem posAt_some {s : ByteArray} {k : Nat} {p : Pc} (h : (pcs s.data.toList)[k]? = some p) : posAt s k = p.i := by simp [posAt, h]
theorem posAt_zero (s : ByteArray) : posAt s 0 = 0 := by
  unfold posAt
  by_cases h : s.data.toList = []
  · have : s.size = 0 := by have := congrArg List.length h; simpa using this
    simp [h, pcs, pcsFrom_nil, this]
  · simp [pcs, pcsFrom_cons 0 _ h]
theorem posAt_next {s : ByteArray} {k : Nat} {p : Pc} (h : (pcs s.data.toList)[k]? = some p) : posAt s (k + 1) = p.i + p.w ∧ pcsFrom p.i (s.data.toList.drop p.i) = p :: (pcs s.data.toList).drop (k + 1) := by
  have hk : k < (pcs s.data.toList).length := (List.getElem?_eq_some_iff.1 h).1
  have he : pcs s.data.toList = (pcs s.data.toList).take k ++ p :: (pcs s.data.toList).drop (k + 1) := by
    have h1 := List.drop_eq_getElem_cons hk
    have h2 : (pcs s.data.toList)[k] = p := (List.getElem?_eq_some_iff.1 h).2
    rw [h2] at h1
    rw [← h1, List.take_append_drop]
  obtain ⟨q1, q2, q3, q4⟩ := pcs_split s.data.toList _ p _ he
  have hlen : s.data.toList.length = s.size := by rw [Array.length_toList]; rfl
  refine ⟨?_, q3⟩
  unfold posAt
  have hget : (pcs s.data.toList)[k + 1]? = ((pcs s.data.toList).drop (k + 1))[0]? := by simp
  rw [hget, q4]
  by_cases hd' : s.data.toList.drop (p.i + p.w) = []
  · rw [hd', pcsFrom_nil]
    have h5 := congrArg List.length hd'
    simp only [List.length_drop, List.length_nil, hlen] at h5
    obtain ⟨_, h6, _⟩ := pcs_pos s.data.toList p (List.mem_of_getElem? h)
    simp; omega
  · rw [pcsFrom_cons _ _ hd']; simp
section
variable {F : Fence} {P : Program} {w0 : World} {K : Nat → Prop} {N : Nat} {dfs : List Deferred} {ops : Array Oper} {Q : Exit → Act → World → Prop} {rest : List Oper} {σ : List (Nat × Value)} {L : List Asn}
  {d : Nat} {t : TypeId} {ty : TypeId} {pos : String} {aft : Array Edge} {g : Option (Nat × Bool)} {x : Operand} {k : Nat} {s : ByteArray}
theorem TO.rangeStr [WideF F] (ht : P.underlying t = some .string) (hg : gd ops σ g = some true) (hd : d < N) (hx : ev σ x = some (.string s))
    (h : ∀ b, TO F P w0 K N dfs ops Q rest ((d, .pointer (some ⟨b, 0, none⟩)) :: σ) (L ++ [obj b (.stringIter s (posAt s 0))])) : TO F P w0 K N dfs ops Q (⟨some d, .range t x, ty, pos, aft, g⟩ :: rest) σ L :=
  TO.step hg (by simp) fun a w ha hw => ⟨.pointer (some ⟨w.heap.size, 0, none⟩), w.alloc (.stringIter s 0), by simp [execOp, ha.ev hx, Instr.range, run_underlying ht, Sem.run_bind], h _ _ _ (ha.put hd _) (by rw [posAt_zero]; exact hw.alloc _)⟩
theorem TO.nextStr [WideF F] {it m : Nat} {p : Pc} (hg : gd ops σ g = some true) (hd : d < N) (hx : ev σ x = some (.pointer (some ⟨it, 0, none⟩))) (hk : L[k]? = some (obj it (.stringIter s (posAt s m)))) (hp : (pcs s.data.toList)[m]? = some p)
    (h : TO F P w0 K N dfs ops Q rest ((d, .tuple #[.bool true, .int .i64 p.i, .int .i32 p.r]) :: σ) (L.set k (obj it (.stringIter s (posAt s (m + 1)))))) : TO F P w0 K N dfs ops Q (⟨some d, .next x true, ty, pos, aft, g⟩ :: rest) σ L := by
  refine TO.step hg (by simp) fun a w ha hw => ?_
  have hit := hw.obj hk
  rw [posAt_some hp] at hit
  obtain ⟨h1, h2⟩ := posAt_next hp
  have hmem := List.mem_of_getElem? hp
  obtain ⟨g1, g2, _⟩ := pcs_pos s.data.toList p hmem
  have hlen : s.data.toList.length = s.size := by rw [Array.length_toList]; rfl
  obtain ⟨r, wd, W1, e1, e2, e3, e4, e5, e6, e7, e8⟩ := next_some P w it s p.i hit (by omega)
  rw [h2] at e6
  have hpe : p = ⟨p.i, wd, r⟩ := (List.cons.inj e6).1
  have hw' : p.w = wd := congrArg Pc.w hpe
  have hr : p.r = r := congrArg Pc.r hpe
  obtain ⟨C1, c1, c2⟩ := hw.focus hk
  refine ⟨.tuple #[.bool true, .int .i64 p.i, .int .i32 p.r], W1, by rw [hr]; simp [execOp, ha.ev hx, e1, Sem.run_bind], h _ _ (ha.put hd _) (c2 _ C1 W1 ⟨?_, fun j hj => .inl hj⟩ ⟨c1.1, by rw [h1, hw']; exact e3⟩)⟩
  exact e2.weaken (fun i _ hi => by subst hi; exact (c1.1 _).2 rfl)
theorem TO.nextEnd [WideF F] {it m : Nat} (hg : gd ops σ g = some true) (hd : d < N) (hx : ev σ x = some (.pointer (some ⟨it, 0, none⟩))) (hk : L[k]? = some (obj it (.stringIter s (posAt s m)))) (hm : (pcs s.data.toList).length ≤ m)
    (h : TO F P w0 K N dfs ops Q rest ((d, .tuple #[.bool false]) :: σ) L) : TO F P w0 K N dfs ops Q (⟨some d, .next x true, ty, pos, aft, g⟩ :: rest) σ L := by
  refine TO.step hg (by simp) fun a w ha hw => ?_
  have hit := hw.obj hk
  have e : posAt s m = s.size := by simp [posAt, List.getElem?_eq_none hm]
  rw [e] at hit
  exact ⟨_, w, by simp [execOp, ha.ev hx, (next_none P w it s s.size hit (by omega)).1, Sem.run_bind], h _ _ (ha.put hd _) hw⟩
end
end Go.Proofs.YtgfkogafkhbgnaaDoor
namespace Go.Proofs
open Go.Shelf
def Tryd.lays160_ren : Go.Shelf.Ren := ⟨fun | 160 => 75 | 232 => 92 | 231 => 91 | 227 => 83 | 234 => 94 | 233 => 93 | 236 => 96 | 235 => 95 | 228 => 84 | 271 => 111 | 151 => 110 | 197 => 109 | 120 => 117 | 152 => 81 | 260 => 116 | 137 => 99 | 119 => 100 | 224 => 101 | 225 => 102 | 217 => 112 | 266 => 118 | n => n, fun | 9 => 9 | 4 => 4 | 3 => 3 | 5 => 5 | 117 => 144 | 116 => 143 | 0 => 0 | 124 => 161 | 21 => 21 | 105 => 177 | 46 => 100 | 119 => 184 | 139 => 187 | 138 => 186 | n => n, fun | 3 => 1 | 4 => 2 | n => n⟩
theorem Tryd.lays160 : Go.Proofs.Lays.n160 Tryd.prog Tryd.lays160_ren := {
  mixed := by kernel_rfl
  f119 := Tryd.func100.trans (congrArg some (by kernel_rfl))
  f120 := Tryd.func117.trans (congrArg some (by kernel_rfl))
  f137 := Tryd.func99.trans (congrArg some (by kernel_rfl))
  f151 := Tryd.func110.trans (congrArg some (by kernel_rfl))
  f152 := Tryd.func81.trans (congrArg some (by kernel_rfl))
  f160 := Tryd.func75.trans (congrArg some (by kernel_rfl))
  f197 := Tryd.func109.trans (congrArg some (by kernel_rfl))
  f217 := Tryd.func112.trans (congrArg some (by kernel_rfl))
  f224 := Tryd.func101.trans (congrArg some (by kernel_rfl))
  f225 := Tryd.func102.trans (congrArg some (by kernel_rfl))
  f227 := Tryd.func83.trans (congrArg some (by kernel_rfl))
  f228 := Tryd.func84.trans (congrArg some (by kernel_rfl))
  f231 := Tryd.func91.trans (congrArg some (by kernel_rfl))
  f232 := Tryd.func92.trans (congrArg some (by kernel_rfl))
  f233 := Tryd.func93.trans (congrArg some (by kernel_rfl))
  f234 := Tryd.func94.trans (congrArg some (by kernel_rfl))
  f235 := Tryd.func95.trans (congrArg some (by kernel_rfl))
  f236 := Tryd.func96.trans (congrArg some (by kernel_rfl))
  f260 := Tryd.func116.trans (congrArg some (by kernel_rfl))
  f266 := Tryd.func118.trans (congrArg some (by kernel_rfl))
  f271 := Tryd.func111.trans (congrArg some (by kernel_rfl))
  t0 := Tryd.underlying0
  a0 := Tryd.isAgg0
  z0 := Tryd.sizeOf0
  v0 := Tryd.zeroValue0
  t3 := Tryd.underlying3
  a3 := Tryd.isAgg3
  z3 := Tryd.sizeOf3
  v3 := Tryd.zeroValue3
  t4 := Tryd.underlying4
  a4 := Tryd.isAgg4
  z4 := Tryd.sizeOf4
  v4 := Tryd.zeroValue4
  t5 := Tryd.underlying5
  a5 := Tryd.isAgg5
  z5 := Tryd.sizeOf5
  v5 := Tryd.zeroValue5
  t9 := Tryd.underlying9
  a9 := Tryd.isAgg9
  z9 := Tryd.sizeOf9
  v9 := Tryd.zeroValue9
  t21 := Tryd.underlying21
  a21 := Tryd.isAgg21
  z21 := Tryd.sizeOf21
  v21 := Tryd.zeroValue21
  t46 := Tryd.underlying100
  a46 := Tryd.isAgg100
  z46 := Tryd.sizeOf100
  v46 := Tryd.zeroValue100
  t105 := Tryd.underlying177
  a105 := Tryd.isAgg177
  z105 := Tryd.sizeOf177
  v105 := Tryd.zeroValue177
  t116 := Tryd.underlying143
  a116 := Tryd.isAgg143
  z116 := Tryd.sizeOf143
  t117 := Tryd.underlying144
  a117 := Tryd.isAgg144
  z117 := Tryd.sizeOf144
  v117 := Tryd.zeroValue144
  t119 := Tryd.underlying184
  a119 := Tryd.isAgg184
  z119 := Tryd.sizeOf184
  t124 := Tryd.underlying161
  a124 := Tryd.isAgg161
  z124 := Tryd.sizeOf161
  v124 := Tryd.zeroValue161
  t138 := Tryd.underlying186
  a138 := Tryd.isAgg186
  z138 := Tryd.sizeOf186
  v138 := Tryd.zeroValue186
  t139 := Tryd.underlying187
  a139 := Tryd.isAgg187
  z139 := Tryd.sizeOf187
  v139 := Tryd.zeroValue187
  g3 := by kernel_rfl
  g4 := by kernel_rfl }
def Tryd.lays119_ren : Go.Shelf.Ren := ⟨fun | 119 => 100 | n => n, fun | 21 => 21 | 4 => 4 | n => n, fun | n => n⟩
theorem Tryd.lays119 : Go.Proofs.Lays.n119 Tryd.prog Tryd.lays119_ren := {
  mixed := by kernel_rfl
  f119 := Tryd.func100.trans (congrArg some (by kernel_rfl))
  t4 := Tryd.underlying4
  a4 := Tryd.isAgg4
  z4 := Tryd.sizeOf4
  v4 := Tryd.zeroValue4
  t21 := Tryd.underlying21
  a21 := Tryd.isAgg21
  z21 := Tryd.sizeOf21
  v21 := Tryd.zeroValue21 }
/-- utf8.ValidRune: "ValidRune reports whether r can be legally encoded as UTF-8. Code points that are out of range or a surrogate half are illegal.": IT RETURNS 'Lib.validRune r'; the world is as it was. (LAID: no walk: one application.) -/
theorem Tryd.utf8_ValidRune (r : Int) (w : World) :
    Calls Tryd.prog 100 #[.int .i32 r] w fun e w' => e = .returned (.bool (Lib.validRune r)) ∧ w' = w := Any.utf8_ValidRune Tryd.lays119 r w
def Tryd.lays137_ren : Go.Shelf.Ren := ⟨fun | 137 => 99 | 217 => 112 | 266 => 118 | n => n, fun | 9 => 9 | 5 => 5 | 3 => 3 | n => n, fun | n => n⟩
theorem Tryd.lays137 : Go.Proofs.Lays.n137 Tryd.prog Tryd.lays137_ren := {
  mixed := by kernel_rfl
  f137 := Tryd.func99.trans (congrArg some (by kernel_rfl))
  f217 := Tryd.func112.trans (congrArg some (by kernel_rfl))
  f266 := Tryd.func118.trans (congrArg some (by kernel_rfl))
  t3 := Tryd.underlying3
  a3 := Tryd.isAgg3
  z3 := Tryd.sizeOf3
  v3 := Tryd.zeroValue3
  t5 := Tryd.underlying5
  a5 := Tryd.isAgg5
  z5 := Tryd.sizeOf5
  v5 := Tryd.zeroValue5
  t9 := Tryd.underlying9
  a9 := Tryd.isAgg9
  z9 := Tryd.sizeOf9
  v9 := Tryd.zeroValue9 }
open Go.RowKit in
/-- strings.IndexByte: "IndexByte returns the index of the first instance of c in s, or -1 if c is not present in s.": IT RETURNS 'Lib.indexByte s c'; the world is as it was. (LAID: no walk: one application.) -/
theorem Tryd.strings_IndexByte (s : ByteArray) (c : Int) (w : World) :
    Calls Tryd.prog 99 #[.string s, .int .u8 c] w fun e w' => e = .returned (.int .i64 (Lib.indexByte s.data.toList c.toNat.toUInt8)) ∧ w' = w := Any.strings_IndexByte Tryd.lays137 s c w
def Tryd.lays226_ren : Go.Shelf.Ren := ⟨fun | 226 => 82 | n => n, fun | 3 => 3 | 4 => 4 | n => n, fun | n => n⟩
theorem Tryd.lays226 : Go.Proofs.Lays.n226 Tryd.prog Tryd.lays226_ren := {
  mixed := by kernel_rfl
  f226 := Tryd.func82.trans (congrArg some (by kernel_rfl))
  t3 := Tryd.underlying3
  a3 := Tryd.isAgg3
  z3 := Tryd.sizeOf3
  v3 := Tryd.zeroValue3
  t4 := Tryd.underlying4
  a4 := Tryd.isAgg4
  z4 := Tryd.sizeOf4
  v4 := Tryd.zeroValue4 }
open Go.RowKit Go.Lib in
theorem Tryd.strings_shouldUseASCIISet (n : Int) (w : World) :
    Calls Tryd.prog 82 #[.int .i64 n] w fun e w' => e = .returned (.bool (decide (8 < n))) ∧ w' = w := Any.strings_shouldUseASCIISet Tryd.lays226 n w
def Tryd.lays153_ren : Go.Shelf.Ren := ⟨fun | 153 => 59 | 152 => 81 | 226 => 82 | 227 => 83 | 228 => 84 | 137 => 99 | 119 => 100 | 224 => 101 | 225 => 102 | 217 => 112 | 266 => 118 | n => n, fun | 9 => 9 | 3 => 3 | 4 => 4 | 5 => 5 | 21 => 21 | 117 => 144 | 116 => 143 | 0 => 0 | 46 => 100 | 124 => 161 | n => n, fun | n => n⟩
theorem Tryd.lays153 : Go.Proofs.Lays.n153 Tryd.prog Tryd.lays153_ren := {
  mixed := by kernel_rfl
  f119 := Tryd.func100.trans (congrArg some (by kernel_rfl))
  f137 := Tryd.func99.trans (congrArg some (by kernel_rfl))
  f152 := Tryd.func81.trans (congrArg some (by kernel_rfl))
  f153 := Tryd.func59.trans (congrArg some (by kernel_rfl))
  f217 := Tryd.func112.trans (congrArg some (by kernel_rfl))
  f224 := Tryd.func101.trans (congrArg some (by kernel_rfl))
  f225 := Tryd.func102.trans (congrArg some (by kernel_rfl))
  f226 := Tryd.func82.trans (congrArg some (by kernel_rfl))
  f227 := Tryd.func83.trans (congrArg some (by kernel_rfl))
  f228 := Tryd.func84.trans (congrArg some (by kernel_rfl))
  f266 := Tryd.func118.trans (congrArg some (by kernel_rfl))
  t0 := Tryd.underlying0
  a0 := Tryd.isAgg0
  z0 := Tryd.sizeOf0
  v0 := Tryd.zeroValue0
  t3 := Tryd.underlying3
  a3 := Tryd.isAgg3
  z3 := Tryd.sizeOf3
  v3 := Tryd.zeroValue3
  t4 := Tryd.underlying4
  a4 := Tryd.isAgg4
  z4 := Tryd.sizeOf4
  v4 := Tryd.zeroValue4
  t5 := Tryd.underlying5
  a5 := Tryd.isAgg5
  z5 := Tryd.sizeOf5
  v5 := Tryd.zeroValue5
  t9 := Tryd.underlying9
  a9 := Tryd.isAgg9
  z9 := Tryd.sizeOf9
  v9 := Tryd.zeroValue9
  t21 := Tryd.underlying21
  a21 := Tryd.isAgg21
  z21 := Tryd.sizeOf21
  v21 := Tryd.zeroValue21
  t46 := Tryd.underlying100
  a46 := Tryd.isAgg100
  z46 := Tryd.sizeOf100
  v46 := Tryd.zeroValue100
  t116 := Tryd.underlying143
  a116 := Tryd.isAgg143
  z116 := Tryd.sizeOf143
  t117 := Tryd.underlying144
  a117 := Tryd.isAgg144
  z117 := Tryd.sizeOf144
  v117 := Tryd.zeroValue144
  t124 := Tryd.underlying161
  a124 := Tryd.isAgg161
  z124 := Tryd.sizeOf161
  v124 := Tryd.zeroValue161 }
open Go.RowKit Go.Lib in
theorem Tryd.strings_IndexAny_long (hv116 : ∀ w, (zeroValue 143).run Tryd.prog w = .ok (.agg (Array.replicate 256 (.bool false))) w) (s chars : ByteArray) (w : World) (h2 : 2 ≤ chars.size) (h8 : 8 < s.size) (hs : s.size < 4294967281) (hcs : chars.size < 4294967281) (hascii : ∀ (j : Nat) b, chars.data.toList[j]? = some b → b.toNat < 128) :
    Calls Tryd.prog 59 #[.string s, .string chars] w fun e w' => e = .returned (.int .i64 (Lib.indexAny s.data.toList chars.data.toList)) ∧ w' = ((w.alloc (.cells (Lib.setCells chars.data.toList) 143)).alloc (.cells (Lib.setCells chars.data.toList) 143)) := Any.strings_IndexAny_long Tryd.lays153 hv116 (by kernel_rfl) s chars w h2 h8 hs hcs hascii
def Tryd.lays105_ren : Go.Shelf.Ren := ⟨fun | 105 => 15 | 212 => 53 | 99 => 16 | 165 => 54 | 166 => 55 | 170 => 56 | 169 => 57 | 263 => 77 | 264 => 78 | 206 => 58 | 240 => 79 | 241 => 80 | 276 => 97 | 277 => 98 | n => n, fun | 9 => 9 | 3 => 3 | 4 => 4 | 20 => 20 | 0 => 0 | 46 => 100 | 109 => 101 | 5 => 5 | 72 => 106 | 76 => 110 | 51 => 133 | 146 => 134 | 53 => 136 | 148 => 137 | 70 => 103 | 37 => 104 | 75 => 109 | 127 => 139 | 164 => 162 | 80 => 40 | n => n, fun | n => n⟩
theorem Tryd.lays105 : Go.Proofs.Lays.n105 Tryd.prog Tryd.lays105_ren := {
  mixed := by kernel_rfl
  f99 := Tryd.func16.trans (congrArg some (by kernel_rfl))
  f105 := Tryd.func15.trans (congrArg some (by kernel_rfl))
  f165 := Tryd.func54.trans (congrArg some (by kernel_rfl))
  f166 := Tryd.func55.trans (congrArg some (by kernel_rfl))
  f169 := Tryd.func57.trans (congrArg some (by kernel_rfl))
  f170 := Tryd.func56.trans (congrArg some (by kernel_rfl))
  f206 := Tryd.func58.trans (congrArg some (by kernel_rfl))
  f212 := Tryd.func53.trans (congrArg some (by kernel_rfl))
  f240 := Tryd.func79.trans (congrArg some (by kernel_rfl))
  f241 := Tryd.func80.trans (congrArg some (by kernel_rfl))
  f263 := Tryd.func77.trans (congrArg some (by kernel_rfl))
  f264 := Tryd.func78.trans (congrArg some (by kernel_rfl))
  f276 := Tryd.func97.trans (congrArg some (by kernel_rfl))
  f277 := Tryd.func98.trans (congrArg some (by kernel_rfl))
  t0 := Tryd.underlying0
  a0 := Tryd.isAgg0
  z0 := Tryd.sizeOf0
  v0 := Tryd.zeroValue0
  t3 := Tryd.underlying3
  a3 := Tryd.isAgg3
  z3 := Tryd.sizeOf3
  v3 := Tryd.zeroValue3
  t4 := Tryd.underlying4
  a4 := Tryd.isAgg4
  z4 := Tryd.sizeOf4
  v4 := Tryd.zeroValue4
  t5 := Tryd.underlying5
  a5 := Tryd.isAgg5
  z5 := Tryd.sizeOf5
  v5 := Tryd.zeroValue5
  t9 := Tryd.underlying9
  a9 := Tryd.isAgg9
  z9 := Tryd.sizeOf9
  v9 := Tryd.zeroValue9
  t20 := Tryd.underlying20
  a20 := Tryd.isAgg20
  z20 := Tryd.sizeOf20
  v20 := Tryd.zeroValue20
  t37 := Tryd.underlying104
  a37 := Tryd.isAgg104
  z37 := Tryd.sizeOf104
  v37 := Tryd.zeroValue104
  t46 := Tryd.underlying100
  a46 := Tryd.isAgg100
  z46 := Tryd.sizeOf100
  v46 := Tryd.zeroValue100
  t51 := Tryd.underlying133
  a51 := Tryd.isAgg133
  z51 := Tryd.sizeOf133
  v51 := Tryd.zeroValue133
  t53 := Tryd.underlying136
  a53 := Tryd.isAgg136
  z53 := Tryd.sizeOf136
  v53 := Tryd.zeroValue136
  t70 := Tryd.underlying103
  a70 := Tryd.isAgg103
  z70 := Tryd.sizeOf103
  v70 := Tryd.zeroValue103
  t72 := Tryd.underlying106
  a72 := Tryd.isAgg106
  z72 := Tryd.sizeOf106
  v72 := Tryd.zeroValue106
  t75 := Tryd.underlying109
  a75 := Tryd.isAgg109
  z75 := Tryd.sizeOf109
  v75 := Tryd.zeroValue109
  t76 := Tryd.underlying110
  a76 := Tryd.isAgg110
  z76 := Tryd.sizeOf110
  v76 := Tryd.zeroValue110
  t109 := Tryd.underlying101
  a109 := Tryd.isAgg101
  z109 := Tryd.sizeOf101
  v109 := Tryd.zeroValue101
  t127 := Tryd.underlying139
  a127 := Tryd.isAgg139
  z127 := Tryd.sizeOf139
  v127 := Tryd.zeroValue139
  t146 := Tryd.underlying134
  a146 := Tryd.isAgg134
  z146 := Tryd.sizeOf134
  v146 := Tryd.zeroValue134
  t148 := Tryd.underlying137
  a148 := Tryd.isAgg137
  z148 := Tryd.sizeOf137
  v148 := Tryd.zeroValue137
  t164 := Tryd.underlying162
  a164 := Tryd.isAgg162
  z164 := Tryd.sizeOf162
  v164 := Tryd.zeroValue162 }
theorem Tryd.Builder_Extra_105 : Builder.Extra Tryd.prog Tryd.lays105_ren := {
  sizeBuilder := by kernel_rfl
  liesBuilder := by kernel_rfl
  t5 := Tryd.underlying5
  a5 := Tryd.isAgg5
  z5 := Tryd.sizeOf5
  v5 := Tryd.zeroValue5
  infoByte := by kernel_rfl
  cellsByte := by kernel_rfl
  sizeByte := by kernel_rfl
  neB5 := by decide }
open Go.RowKit Go.Lib in
/-- **strings.Repeat: count ≥ 0, the result within one allocation: count copies of s.** (LAID: no walk: one application.) -/
theorem Tryd.strings_Repeat (s : ByteArray) (c : Nat) (w : World) (hc : c ≤ 9223372036854775807) (hlen : s.size * c ≤ 140737488355328) :
    Calls Tryd.prog 15 #[.string s, .int .i64 c] w fun e w' => e = .returned (.string ⟨(Lib.repeatL s.data.toList c).toArray⟩) ∧ Below w.heap.size w w' := Any.strings_Repeat Tryd.lays105 Tryd.Builder_Extra_105 s c w hc hlen
end Go.Proofs
namespace Go.Proofs.YtgfkogafkhbgnaaDoor
open Go.RowKit Go.Lib Go.Shelf
set_option linter.unusedVariables false
set_option linter.unusedSimpArgs false
theorem FnP.of_eq {P : Program} {f : FuncId} {vs : List Value} {v : Value} (h : ∀ w, Calls P f vs.toArray w fun e w' => e = .returned v ∧ w' = w) : FnP P f vs v := fun w => (h w).mono fun e w' ⟨h1, h2⟩ => ⟨h1, h2 ▸ Below.refl _ _⟩
theorem ibyte_p (s : ByteArray) (c : Int) : FnP Tryd.prog 99 [.string s, .int .u8 c] (.int .i64 (Lib.indexByte s.data.toList c.toNat.toUInt8)) := FnP.of_eq fun w => Tryd.strings_IndexByte s c w
theorem vrune_p (r : Int) : FnP Tryd.prog 100 [.int .i32 r] (.bool (Lib.validRune r)) := FnP.of_eq fun w => Tryd.utf8_ValidRune r w
theorem suse_p (n : Int) : FnP Tryd.prog 82 [.int .i64 n] (.bool (decide (8 < n))) := FnP.of_eq fun w => Tryd.strings_shouldUseASCIISet n w
def spacesB (n : Int) : ByteArray := ⟨(Lib.repeatL [32] n.toNat).toArray⟩
theorem spaces_p (n : Int) (h : 0 ≤ n ∧ n ≤ 140737488355328) : FnP Tryd.prog 15 [.string ⟨#[32]⟩, .int .i64 n] (.string (spacesB n)) := fun w => by
  obtain ⟨c, rfl⟩ : ∃ c : Nat, n = c := ⟨n.toNat, by omega⟩
  have h1 : (⟨#[32]⟩ : ByteArray).size = 1 := rfl
  exact Tryd.strings_Repeat ⟨#[32]⟩ c w (by omega) (by rw [h1, Nat.one_mul]; omega)
def trimST (s : ByteArray) : ByteArray := ⟨(Lib.trimS s.data.toList [32, 9]).toArray⟩
theorem trim_p (s : ByteArray) (hs : s.size ≤ 9223372036854775807) : FnP Tryd.prog 75 [.string s, .string ⟨#[32, 9]⟩] (.string (trimST s)) := fun w =>
  Any.strings_Trim_laid Tryd.lays160 (by kernel_rfl) s ⟨#[32, 9]⟩ w hs (by decide) (ascii_of_all (by decide))
theorem ialong_p (s : ByteArray) (h8 : 8 < s.size) (hs : s.size < 4294967281) : FnP Tryd.prog 59 [.string s, .string ⟨#[13, 10]⟩] (.int .i64 (Lib.indexAny s.data.toList [13, 10])) := fun w => by
  refine (Any.strings_IndexAny_long Tryd.lays153 (zero_of_info (n := 256) (by kernel_rfl)).1 (by kernel_rfl) s ⟨#[13, 10]⟩ w (by decide) h8 hs (by decide) (ascii_of_all (by decide))).mono fun e w' ⟨h1, h2⟩ => ⟨h1, ?_⟩
  rw [h2]
  exact ((Below.refl _ _).alloc (Nat.le_refl _) _).alloc (by simp) _
end Go.Proofs.YtgfkogafkhbgnaaDoor
namespace Go.Proofs.YtgfkogafkhbgnaaDoor
open Go.RowKit Go.Lib
set_option linter.unusedVariables false
set_option linter.unusedSimpArgs false
def strings_IndexRune_crlf_s1 (j1 : Option Int) (ag1 : Nat → Option Int) (m3 : Nat) : Option Int := bcond (decide (m3 < (pcs (⟨#[13, 10]⟩ : ByteArray).data.toList).length)) ( andThen ((pcs (⟨#[13, 10]⟩ : ByteArray).data.toList)[m3]?) fun (p1 : Pc) => bcond (((p1.r : Int) : Int) == 65533) ( some (p1.i : Int)
) ( ag1 (m3 + 1)
)
) ( j1
)
def strings_IndexRune_crlf_s3 (r1 : Int) (i1 : Int) (j4 : Option Int) (ag3 : Int → Option Int) (j7 : Int) : Option Int := bcond (decide ((j7 : Int) < ((Utf8.encode r1).size : Int))) ( grd (I64 (i1 - j7)) <| andThen (getB (⟨#[13, 10]⟩ : ByteArray) (i1 - j7)) fun (c4 : Int) => grd (I64 ((((Utf8.encode r1).size : Int) - 1) - j7)) <| andThen (getB (Utf8.encode r1) ((((Utf8.encode r1).size : Int) - 1) - j7)) fun (c5 : Int) => bcond ((c4 : Int) != c5) ( none
) ( grd (I64 (j7 + 1)) <| ag3 (j7 + 1)
)
) ( j4
)
def strings_IndexRune_crlf_s2 (r1 : Int) (j2 : Option Int) (ag2 : Option Int) : Option Int := bcond (decide (((((Utf8.encode r1).size : Int) - 1) : Int) < ((⟨#[13, 10]⟩ : ByteArray).size : Int))) ( joinK (fun (j3 : Int → Option Int) => andThen (getB (⟨#[13, 10]⟩ : ByteArray) (((Utf8.encode r1).size : Int) - 1)) fun (c1 : Int) => andThen (getB (Utf8.encode r1) (((Utf8.encode r1).size : Int) - 1)) fun (c2 : Int) => bcond ((c1 : Int) != c2) ( grd (I64 ((((Utf8.encode r1).size : Int) - 1) + 1)) <| grd (0 ≤ ((((Utf8.encode r1).size : Int) - 1) + 1 : Int) ∧ ((((Utf8.encode r1).size : Int) - 1) + 1 : Int) ≤ ((⟨#[13, 10]⟩ : ByteArray).size : Int) ∧ (((⟨#[13, 10]⟩ : ByteArray).size : Int) : Int) ≤ ((⟨#[13, 10]⟩ : ByteArray).size : Int)) <| andThen (getB (Utf8.encode r1) (((Utf8.encode r1).size : Int) - 1)) fun (c3 : Int) => bcond (decide (((Lib.indexByte (cutB (⟨#[13, 10]⟩ : ByteArray) ((((Utf8.encode r1).size : Int) - 1) + 1) ((⟨#[13, 10]⟩ : ByteArray).size : Int)).data.toList (c3 : Int).toNat.toUInt8) : Int) < 0)) ( some (-1)
) ( grd (I64 ((Lib.indexByte (cutB (⟨#[13, 10]⟩ : ByteArray) ((((Utf8.encode r1).size : Int) - 1) + 1) ((⟨#[13, 10]⟩ : ByteArray).size : Int)).data.toList (c3 : Int).toNat.toUInt8) + 1)) <| grd (I64 ((((Utf8.encode r1).size : Int) - 1) + ((Lib.indexByte (cutB (⟨#[13, 10]⟩ : ByteArray) ((((Utf8.encode r1).size : Int) - 1) + 1) ((⟨#[13, 10]⟩ : ByteArray).size : Int)).data.toList (c3 : Int).toNat.toUInt8) + 1))) <| j3 ((((Utf8.encode r1).size : Int) - 1) + ((Lib.indexByte (cutB (⟨#[13, 10]⟩ : ByteArray) ((((Utf8.encode r1).size : Int) - 1) + 1) ((⟨#[13, 10]⟩ : ByteArray).size : Int)).data.toList (c3 : Int).toNat.toUInt8) + 1))
)
) ( j3 (((Utf8.encode r1).size : Int) - 1)
)
) (fun (i1 : Int) => joinK (fun (j4 : Option Int) => loopG (fun _ => none) (strings_IndexRune_crlf_s3 r1 i1 j4) fuel 1
) ( grd (I64 (i1 - (((Utf8.encode r1).size : Int) - 1))) <| some (i1 - (((Utf8.encode r1).size : Int) - 1))
)
)
) ( j2
)
def strings_IndexRune_crlf_s4 (j8 : Option Int) (ag4 : Nat → Option Int) (m6 : Nat) : Option Int := bcond (decide (m6 < (pcs (⟨#[13, 10]⟩ : ByteArray).data.toList).length)) ( andThen ((pcs (⟨#[13, 10]⟩ : ByteArray).data.toList)[m6]?) fun (p2 : Pc) => bcond (((p2.r : Int) : Int) == 65533) ( some (p2.i : Int)
) ( ag4 (m6 + 1)
)
) ( j8
)
def strings_IndexRune_crlf_s6 (r1 : Int) (i2 : Int) (j11 : Option Int) (ag6 : Int → Option Int) (j14 : Int) : Option Int := bcond (decide ((j14 : Int) < ((Utf8.encode r1).size : Int))) ( grd (I64 (i2 - j14)) <| andThen (getB (⟨#[13, 10]⟩ : ByteArray) (i2 - j14)) fun (c9 : Int) => grd (I64 ((((Utf8.encode r1).size : Int) - 1) - j14)) <| andThen (getB (Utf8.encode r1) ((((Utf8.encode r1).size : Int) - 1) - j14)) fun (c10 : Int) => bcond ((c9 : Int) != c10) ( none
) ( grd (I64 (j14 + 1)) <| ag6 (j14 + 1)
)
) ( j11
)
def strings_IndexRune_crlf_s5 (r1 : Int) (j9 : Option Int) (ag5 : Option Int) : Option Int := bcond (decide (((((Utf8.encode r1).size : Int) - 1) : Int) < ((⟨#[13, 10]⟩ : ByteArray).size : Int))) ( joinK (fun (j10 : Int → Option Int) => andThen (getB (⟨#[13, 10]⟩ : ByteArray) (((Utf8.encode r1).size : Int) - 1)) fun (c6 : Int) => andThen (getB (Utf8.encode r1) (((Utf8.encode r1).size : Int) - 1)) fun (c7 : Int) => bcond ((c6 : Int) != c7) ( grd (I64 ((((Utf8.encode r1).size : Int) - 1) + 1)) <| grd (0 ≤ ((((Utf8.encode r1).size : Int) - 1) + 1 : Int) ∧ ((((Utf8.encode r1).size : Int) - 1) + 1 : Int) ≤ ((⟨#[13, 10]⟩ : ByteArray).size : Int) ∧ (((⟨#[13, 10]⟩ : ByteArray).size : Int) : Int) ≤ ((⟨#[13, 10]⟩ : ByteArray).size : Int)) <| andThen (getB (Utf8.encode r1) (((Utf8.encode r1).size : Int) - 1)) fun (c8 : Int) => bcond (decide (((Lib.indexByte (cutB (⟨#[13, 10]⟩ : ByteArray) ((((Utf8.encode r1).size : Int) - 1) + 1) ((⟨#[13, 10]⟩ : ByteArray).size : Int)).data.toList (c8 : Int).toNat.toUInt8) : Int) < 0)) ( some (-1)
) ( grd (I64 ((Lib.indexByte (cutB (⟨#[13, 10]⟩ : ByteArray) ((((Utf8.encode r1).size : Int) - 1) + 1) ((⟨#[13, 10]⟩ : ByteArray).size : Int)).data.toList (c8 : Int).toNat.toUInt8) + 1)) <| grd (I64 ((((Utf8.encode r1).size : Int) - 1) + ((Lib.indexByte (cutB (⟨#[13, 10]⟩ : ByteArray) ((((Utf8.encode r1).size : Int) - 1) + 1) ((⟨#[13, 10]⟩ : ByteArray).size : Int)).data.toList (c8 : Int).toNat.toUInt8) + 1))) <| j10 ((((Utf8.encode r1).size : Int) - 1) + ((Lib.indexByte (cutB (⟨#[13, 10]⟩ : ByteArray) ((((Utf8.encode r1).size : Int) - 1) + 1) ((⟨#[13, 10]⟩ : ByteArray).size : Int)).data.toList (c8 : Int).toNat.toUInt8) + 1))
)
) ( j10 (((Utf8.encode r1).size : Int) - 1)
)
) (fun (i2 : Int) => joinK (fun (j11 : Option Int) => loopG (fun _ => none) (strings_IndexRune_crlf_s6 r1 i2 j11) fuel 1
) ( grd (I64 (i2 - (((Utf8.encode r1).size : Int) - 1))) <| some (i2 - (((Utf8.encode r1).size : Int) - 1))
)
)
) ( j9
)
def strings_IndexRune_crlf_v (r1 : Int) : Option Int := bcond (decide ((0 : Int) ≤ r1)) ( bcond (decide ((r1 : Int) < 128)) ( some (Lib.indexByte (⟨#[13, 10]⟩ : ByteArray).data.toList (IntKind.u8.wrap r1 : Int).toNat.toUInt8)
) ( bcond ((r1 : Int) == 65533) ( joinK (fun (j1 : Option Int) => loopG (fun _ => none) (strings_IndexRune_crlf_s1 j1) fuel 0
) ( some (-1)
)
) ( bcond (!(Lib.validRune r1)) ( some (-1)
) ( joinK (fun (j2 : Option Int) => grd (I64 (((Utf8.encode r1).size : Int) - 1)) <| loopG none (strings_IndexRune_crlf_s2 r1 j2) fuel
) ( some (-1)
)
)
)
)
) ( bcond ((r1 : Int) == 65533) ( joinK (fun (j8 : Option Int) => loopG (fun _ => none) (strings_IndexRune_crlf_s4 j8) fuel 0
) ( some (-1)
)
) ( bcond (!(Lib.validRune r1)) ( some (-1)
) ( joinK (fun (j9 : Option Int) => grd (I64 (((Utf8.encode r1).size : Int) - 1)) <| loopG none (strings_IndexRune_crlf_s5 r1 j9) fuel
) ( some (-1)
)
)
)
)
set_option maxRecDepth 100000 in
set_option maxHeartbeats 4000000 in
theorem strings_IndexRune_crlf_fn {r1 : Int} {r : Int} (h : strings_IndexRune_crlf_v r1 = some r) : FnP Tryd.prog 81 [.string (⟨#[13, 10]⟩ : ByteArray), .int .i32 r1] (.int .i64 r) := by
 unfold strings_IndexRune_crlf_v at h
 refine FnP.intro Tryd.func81 rfl Tryd.ntmps81 (by simp) ?_
 intro w0 K
 refine TC.seq (TC.region (TO.assign rfl dc rfl (TO.nil (TX.next (TC.block (TC.seq (TC.region (TO.move rfl dc rfl (TO.bin rfl dc rfl rfl bin_leq (TO.move rfl dc rfl ?_))))))))))
 refine TO.split (s := 163) rfl (fun hb1 => ?_) (fun hb1 => ?_)
 ·
  have h := condT hb1 h
  refine TO.move rfl dc rfl (TO.bin rfl dc rfl rfl bin_lss (TO.pick (b := true) rfl dc rfl rfl (TO.assign rfl dc rfl (TO.nil (TX.next ?_)))))
  refine TC.condB rfl (fun hb2 => ?_) (fun hb2 => ?_)
  ·
   have h := condT hb2 h
   refine TC.seq (TC.region (TO.move rfl dc rfl (TO.move rfl dc rfl (TO.conv rfl dc rfl (conv_wrap Tryd.underlying21 Tryd.underlying5) (TO.callP (v := .int .i64 (Lib.indexByte (⟨#[13, 10]⟩ : ByteArray).data.toList (IntKind.u8.wrap r1 : Int).toNat.toUInt8)) (vs := [.string (⟨#[13, 10]⟩ : ByteArray), .int .u8 (IntKind.u8.wrap r1)]) rfl dc rfl rfl rfl en_99 (ibyte_p (⟨#[13, 10]⟩ : ByteArray) (IntKind.u8.wrap r1)) (TO.assign rfl dc rfl (TO.nil (TX.next (TC.ret (TX.blockRet ?_))))))))))
   cases h
   exact TX.fin (rs := [.tmp 4]) () (.inl rfl) Tryd.results81 (.cons (.tmp rfl) .nil) rfl Splits.nil
  ·
   have h := condF hb2 h
   refine TC.seq (TC.region (TO.move rfl dc rfl (TO.bin rfl dc rfl rfl bin_eql (TO.assign rfl dc rfl (TO.nil (TX.next ?_))))))
   refine TC.condB rfl (fun hb3 => ?_) (fun hb3 => ?_)
   ·
    have h := condT hb3 h
    obtain ⟨j1, hj1, h⟩ := joinE h
    refine TC.cutN (β := Unit) 0 rfl (fun b => j1 = some r) (fun b => []) (fun b => []) (fun b => []) (fun cut => ?_) ?_
    ·
     refine cut (TC.seq (TC.region (TO.move rfl dc rfl ?_)))
     refine TO.rangeStr Tryd.underlying9 rfl dc rfl (fun b1 => ?_)
     refine TO.nil (TX.next (TC.block ?_))
     refine TC.loopD (β := Nat × Nat) (fun b => loopG (fun _ => none) (strings_IndexRune_crlf_s1 j1) b.1 b.2 = some r) (fun b => []) (fun b => [(175, .pointer (some ⟨b1, 0, none⟩))]) (fun b => [obj b1 (.stringIter (⟨#[13, 10]⟩ : ByteArray) (posAt (⟨#[13, 10]⟩ : ByteArray) b.2))]) (fun b => b.1) (fuel, 0) h rfl (Sbs.cons rfl (Sbs.nil)) (Splits.of [0] kr rfl) ?_
     rintro ⟨n1, m3⟩ h
     cases n1 with
     | zero => exact noneE h
     | succ n1 =>
      obtain ⟨ag1, hag1⟩ : ∃ ag, ag = loopG (fun _ => none) (strings_IndexRune_crlf_s1 j1) n1 := ⟨_, rfl⟩
      have h : strings_IndexRune_crlf_s1 j1 ag1 m3 = some r := by rw [hag1]; exact h
      unfold strings_IndexRune_crlf_s1 at h
      show TC _ _ _ _ _ ([]) _ _ [(175, .pointer (some ⟨b1, 0, none⟩))] [obj b1 (.stringIter (⟨#[13, 10]⟩ : ByteArray) (posAt (⟨#[13, 10]⟩ : ByteArray) m3))]
      refine TC.seq (TC.region ?_)
      refine TO.bySplit (b := decide (m3 < (pcs (⟨#[13, 10]⟩ : ByteArray).data.toList).length)) (fun hb4 => ?_) (fun hb4 => ?_)
      ·
       have h := condT hb4 h
       obtain ⟨p1, hq1, h⟩ := andE h
       refine TO.nextStr (k := 0) (m := m3) (p := p1) rfl dc rfl rfl hq1 (TO.extract rfl dc rfl rfl (TO.nil (TX.next (TC.seq (TC.condT rfl (TC.skip (TX.next (TC.block (TC.seq (TC.region (TO.extract rfl dc rfl rfl (TO.extract rfl dc rfl rfl (TO.assign rfl dc rfl ?_)))))))))))))
       refine TO.assign rfl dc rfl (TO.nil (TX.next (TC.seq (TC.region (TO.move rfl dc rfl (TO.bin rfl dc rfl rfl bin_eql (TO.nil (TX.next ?_))))))))
       refine TC.condB rfl (fun hb5 => ?_) (fun hb5 => ?_)
       ·
        have h := condT hb5 h
        refine TC.seq (TC.region (TO.move rfl dc rfl (TO.assign rfl dc rfl (TO.nil (TX.next (TC.ret (TX.blockRet (TX.thenRet (TX.blockRet (TX.thenRet (TX.blockRet ?_)))))))))))
        cases h
        exact TX.fin (rs := [.tmp 4]) () (.inl rfl) Tryd.results81 (.cons (.tmp rfl) .nil) rfl Splits.nil
       ·
        have h := condF hb5 h
        refine TC.skip (TX.blockNormal ?_)
        subst hag1
        exact TX.againD (n1, m3 + 1) h (Nat.lt_succ_self _) rfl (Sbs.cons rfl (Sbs.nil)) (Splits.of [0] kr rfl)
      ·
       have h := condF hb4 h
       refine TO.nextEnd (k := 0) (m := m3) rfl dc rfl rfl (Nat.le_of_not_lt (of_decide_eq_false hb4)) (TO.extract rfl dc rfl rfl (TO.nil (TX.next (TC.seq (TC.condF rfl (TC.exit (TX.thenExit (TX.thenExit (TX.blockHere ?_)))))))))
       exact TX.meetD () h rfl (Sbs.nil) Splits.nil
    ·
     rintro _ h
     rw [hj1] at h
     show TC _ _ _ _ _ ([]) _ _ [] []
     refine TC.seq (TC.region (TO.assign rfl dc rfl (TO.nil (TX.next (TC.ret (TX.blockRet ?_))))))
     cases h
     exact TX.fin (rs := [.tmp 4]) () (.inl rfl) Tryd.results81 (.cons (.tmp rfl) .nil) rfl Splits.nil
   ·
    have h := condF hb3 h
    refine TC.seq (TC.region (TO.move rfl dc rfl (TO.callP (v := .bool (Lib.validRune r1)) (vs := [.int .i32 r1]) rfl dc rfl rfl rfl en_100 (vrune_p r1) (TO.un rfl dc rfl un_not (TO.assign rfl dc rfl (TO.nil (TX.next ?_)))))))
    refine TC.condB rfl (fun hb6 => ?_) (fun hb6 => ?_)
    ·
     have h := condT hb6 h
     refine TC.seq (TC.region (TO.assign rfl dc rfl (TO.nil (TX.next (TC.ret (TX.blockRet ?_))))))
     cases h
     exact TX.fin (rs := [.tmp 4]) () (.inl rfl) Tryd.results81 (.cons (.tmp rfl) .nil) rfl Splits.nil
    ·
     have h := condF hb6 h
     refine TC.scope (β := Unit) (l := 1) (fun _ => False) (fun _ => []) (fun _ => []) rfl ?_ ?_
     ·
      obtain ⟨j2, hj2, h⟩ := joinE h
      refine TC.cutN (β := Unit) 4 rfl (fun b => j2 = some r) (fun b => []) (fun b => []) (fun b => []) (fun cut => ?_) ?_
      ·
       refine TC.seq (TC.region (TO.move rfl dc rfl (TO.conv rfl dc rfl (conv_rune Tryd.underlying21 Tryd.underlying9) (TO.assign rfl dc rfl (TO.nil (TX.next (TC.seq (TC.region (TO.move rfl dc rfl (TO.lenStr rfl dc rfl Tryd.underlying9 ?_))))))))))
       obtain ⟨hg1, h⟩ := grdE h
       refine TO.bin rfl dc rfl rfl (bin_sub (r := ((Utf8.encode r1).size : Int) - 1) (IntWalk.i64_in _ hg1)) (TO.assign rfl dc rfl (TO.nil (TX.next (TC.seq (TC.region (TO.move rfl dc rfl (TO.assign rfl dc rfl (TO.nil (TX.next (TC.seq (TC.region (TO.assign rfl dc rfl (TO.nil ?_)))))))))))))
       refine TX.next (cut (TC.block ?_))
       refine TC.loopD (β := Nat) (fun b => loopG none (strings_IndexRune_crlf_s2 r1 j2) b = some r) (fun b => []) (fun b => [(0, .string (⟨#[13, 10]⟩ : ByteArray)), (7, .string (Utf8.encode r1)), (8, .int .i64 (((Utf8.encode r1).size : Int) - 1)), (9, .int .i64 (((Utf8.encode r1).size : Int) - 1))]) (fun b => []) (fun b => b) fuel h rfl (Sbs.cons rfl (Sbs.cons rfl (Sbs.cons rfl (Sbs.cons rfl (Sbs.nil))))) Splits.nil ?_
       rintro n2 h
       cases n2 with
       | zero => exact noneE h
       | succ n2 =>
        obtain ⟨ag2, hag2⟩ : ∃ ag, ag = loopG none (strings_IndexRune_crlf_s2 r1 j2) n2 := ⟨_, rfl⟩
        have h : strings_IndexRune_crlf_s2 r1 j2 ag2 = some r := by rw [hag2]; exact h
        unfold strings_IndexRune_crlf_s2 at h
        show TC _ _ _ _ _ ([]) _ _ [(0, .string (⟨#[13, 10]⟩ : ByteArray)), (7, .string (Utf8.encode r1)), (8, .int .i64 (((Utf8.encode r1).size : Int) - 1)), (9, .int .i64 (((Utf8.encode r1).size : Int) - 1))] []
        refine TC.seq (TC.seq (TC.region (TO.move rfl dc rfl (TO.move rfl dc rfl (TO.lenStr rfl dc rfl Tryd.underlying9 (TO.bin rfl dc rfl rfl bin_lss (TO.nil (TX.next ?_))))))))
        refine TC.condB rfl (fun hb7 => ?_) (fun hb7 => ?_)
        ·
         have h := condT hb7 h
         refine TC.skip (TX.next (TC.block ?_))
         refine TC.scope (β := Unit) (l := 0) (fun _ => False) (fun _ => []) (fun _ => []) rfl ?_ ?_
         ·
          obtain ⟨j3, hj3, h⟩ := joinE h
          refine TC.cutN (β := Int) 0 rfl (fun b => j3 b = some r) (fun b => []) (fun b => [(0, .string (⟨#[13, 10]⟩ : ByteArray)), (7, .string (Utf8.encode r1)), (8, .int .i64 (((Utf8.encode r1).size : Int) - 1)), (9, .int .i64 b)]) (fun b => []) (fun cut => ?_) ?_
          ·
           refine cut (TC.seq ?_)
           obtain ⟨c1, hq2, h⟩ := andE h
           obtain ⟨c2, hq3, h⟩ := andE h
           refine TC.drawN 6 [(0, 27, .string (⟨#[13, 10]⟩ : ByteArray)), (1, 28, .int .i64 (((Utf8.encode r1).size : Int) - 1)), (2, 29, .int .u8 c1), (3, 30, .string (Utf8.encode r1)), (4, 31, .int .i64 (((Utf8.encode r1).size : Int) - 1)), (5, 32, .int .u8 c2)] mixed kr kr dc (by rfl) kr kr (DrawPre.cons ?_ (DrawPre.cons ?_ (DrawPre.cons ?_ (DrawPre.cons ?_ (DrawPre.cons ?_ (DrawPre.cons ?_ DrawPre.nil)))))) ?_
           ·
            intro D hn hd hcl hu hi
            refine TO.move rfl dc (dl_old (by rfl) rfl) ?_
            exact TX.quiet 0 hu hi rfl
           ·
            intro D hn hd hcl hu hi
            refine TO.move rfl dc (dl_old (by rfl) rfl) ?_
            exact TX.quiet 1 hu hi rfl
           ·
            intro D hn hd hcl hu hi
            refine TO.index rfl dc (dl_lookup (m := 0) hu rfl (hd 0 dc)) (dl_lookup (m := 1) hu rfl (hd 1 dc)) (index_stringI Tryd.underlying9 hq2) ?_
            exact TX.quiet 2 hu hi rfl
           ·
            intro D hn hd hcl hu hi
            refine TO.move rfl dc (dl_old (by rfl) rfl) ?_
            exact TX.quiet 3 hu hi rfl
           ·
            intro D hn hd hcl hu hi
            refine TO.move rfl dc (dl_old (by rfl) rfl) ?_
            exact TX.quiet 4 hu hi rfl
           ·
            intro D hn hd hcl hu hi
            refine TO.index rfl dc (dl_lookup (m := 3) hu rfl (hd 3 dc)) (dl_lookup (m := 4) hu rfl (hd 4 dc)) (index_stringI Tryd.underlying9 hq3) ?_
            exact TX.quiet 5 hu hi rfl
           refine TO.bin rfl dc rfl rfl bin_neq (TO.nil (TX.next ?_))
           refine TC.condB rfl (fun hb8 => ?_) (fun hb8 => ?_)
           ·
            have h := condT hb8 h
            refine TC.seq ?_
            obtain ⟨hg2, h⟩ := grdE h
            obtain ⟨hg3, h⟩ := grdE h
            obtain ⟨c3, hq4, h⟩ := andE h
            refine TC.drawN 7 [(0, 34, .string (⟨#[13, 10]⟩ : ByteArray)), (1, 35, .int .i64 (((Utf8.encode r1).size : Int) - 1)), (2, 36, .int .i64 ((((Utf8.encode r1).size : Int) - 1) + 1)), (3, 37, .string (cutB (⟨#[13, 10]⟩ : ByteArray) ((((Utf8.encode r1).size : Int) - 1) + 1) ((⟨#[13, 10]⟩ : ByteArray).size : Int))), (4, 38, .string (Utf8.encode r1)), (5, 39, .int .i64 (((Utf8.encode r1).size : Int) - 1)), (6, 40, .int .u8 c3)] mixed kr kr dc (by rfl) kr kr (DrawPre.cons ?_ (DrawPre.cons ?_ (DrawPre.cons ?_ (DrawPre.cons ?_ (DrawPre.cons ?_ (DrawPre.cons ?_ (DrawPre.cons ?_ DrawPre.nil))))))) ?_
            ·
             intro D hn hd hcl hu hi
             refine TO.move rfl dc (dl_old (by rfl) rfl) ?_
             exact TX.quiet 0 hu hi rfl
            ·
             intro D hn hd hcl hu hi
             refine TO.move rfl dc (dl_old (by rfl) rfl) ?_
             exact TX.quiet 1 hu hi rfl
            ·
             intro D hn hd hcl hu hi
             refine TO.bin rfl dc (dl_lookup (m := 1) hu rfl (hd 1 dc)) rfl (bin_add (r := (((Utf8.encode r1).size : Int) - 1) + 1) (IntWalk.i64_in _ hg2)) ?_
             exact TX.quiet 2 hu hi rfl
            ·
             intro D hn hd hcl hu hi
             refine TO.slice rfl dc (dl_lookup (m := 0) hu rfl (hd 0 dc)) (evO.some (dl_lookup (m := 2) hu rfl (hd 2 dc))) evO.none (slice_stringI (i := (((Utf8.encode r1).size : Int) - 1) + 1) (j := ((⟨#[13, 10]⟩ : ByteArray).size : Int)) Tryd.underlying9 (.inr rfl) (.inl ⟨rfl, rfl⟩) hg3) ?_
             exact TX.quiet 3 hu hi rfl
            ·
             intro D hn hd hcl hu hi
             refine TO.move rfl dc (dl_old (by rfl) rfl) ?_
             exact TX.quiet 4 hu hi rfl
            ·
             intro D hn hd hcl hu hi
             refine TO.move rfl dc (dl_old (by rfl) rfl) ?_
             exact TX.quiet 5 hu hi rfl
            ·
             intro D hn hd hcl hu hi
             refine TO.index rfl dc (dl_lookup (m := 4) hu rfl (hd 4 dc)) (dl_lookup (m := 5) hu rfl (hd 5 dc)) (index_stringI Tryd.underlying9 hq4) ?_
             exact TX.quiet 6 hu hi rfl
            refine TO.callP (v := .int .i64 (Lib.indexByte (cutB (⟨#[13, 10]⟩ : ByteArray) ((((Utf8.encode r1).size : Int) - 1) + 1) ((⟨#[13, 10]⟩ : ByteArray).size : Int)).data.toList (c3 : Int).toNat.toUInt8)) (vs := [.string (cutB (⟨#[13, 10]⟩ : ByteArray) ((((Utf8.encode r1).size : Int) - 1) + 1) ((⟨#[13, 10]⟩ : ByteArray).size : Int)), .int .u8 c3]) rfl dc rfl rfl rfl en_99 (ibyte_p (cutB (⟨#[13, 10]⟩ : ByteArray) ((((Utf8.encode r1).size : Int) - 1) + 1) ((⟨#[13, 10]⟩ : ByteArray).size : Int)) c3) (TO.assign rfl dc rfl (TO.nil (TX.next (TC.seq (TC.seq (TC.region (TO.move rfl dc rfl (TO.bin rfl dc rfl rfl bin_lss (TO.nil (TX.next ?_))))))))))
            refine TC.condB rfl (fun hb9 => ?_) (fun hb9 => ?_)
            ·
             have h := condT hb9 h
             refine TC.seq (TC.region (TO.assign rfl dc rfl (TO.nil (TX.next (TC.ret (TX.thenRet (TX.thenRet (TX.jumpOn (by simp) (TX.blockRet (TX.thenRet (TX.blockRet (TX.thenRet (TX.jumpOn (by simp) ?_)))))))))))))
             refine TX.blockRet ?_
             cases h
             exact TX.fin (rs := [.tmp 4]) () (.inl rfl) Tryd.results81 (.cons (.tmp rfl) .nil) rfl Splits.nil
            ·
             have h := condF hb9 h
             refine TC.skip (TX.next (TC.region (TO.move rfl dc rfl (TO.move rfl dc rfl ?_))))
             obtain ⟨hg4, h⟩ := grdE h
             refine TO.bin rfl dc rfl rfl (bin_add (r := (Lib.indexByte (cutB (⟨#[13, 10]⟩ : ByteArray) ((((Utf8.encode r1).size : Int) - 1) + 1) ((⟨#[13, 10]⟩ : ByteArray).size : Int)).data.toList (c3 : Int).toNat.toUInt8) + 1) (IntWalk.i64_in _ hg4)) ?_
             obtain ⟨hg5, h⟩ := grdE h
             refine TO.bin rfl dc rfl rfl (bin_add (r := (((Utf8.encode r1).size : Int) - 1) + ((Lib.indexByte (cutB (⟨#[13, 10]⟩ : ByteArray) ((((Utf8.encode r1).size : Int) - 1) + 1) ((⟨#[13, 10]⟩ : ByteArray).size : Int)).data.toList (c3 : Int).toNat.toUInt8) + 1)) (IntWalk.i64_in _ hg5)) (TO.assign rfl dc rfl (TO.nil ?_))
             exact TX.meetD ((((Utf8.encode r1).size : Int) - 1) + ((Lib.indexByte (cutB (⟨#[13, 10]⟩ : ByteArray) ((((Utf8.encode r1).size : Int) - 1) + 1) ((⟨#[13, 10]⟩ : ByteArray).size : Int)).data.toList (c3 : Int).toNat.toUInt8) + 1)) h rfl (Sbs.cons rfl (Sbs.cons rfl (Sbs.cons rfl (Sbs.cons rfl (Sbs.nil))))) Splits.nil
           ·
            have h := condF hb8 h
            refine TC.skip ?_
            exact TX.meetD (((Utf8.encode r1).size : Int) - 1) h rfl (Sbs.cons rfl (Sbs.cons rfl (Sbs.cons rfl (Sbs.cons rfl (Sbs.nil))))) Splits.nil
          ·
           rintro i1 h
           rw [hj3] at h
           show TC _ _ _ _ _ ([]) _ _ [(0, .string (⟨#[13, 10]⟩ : ByteArray)), (7, .string (Utf8.encode r1)), (8, .int .i64 (((Utf8.encode r1).size : Int) - 1)), (9, .int .i64 i1)] []
           obtain ⟨j4, hj4, h⟩ := joinE h
           refine TC.cutN (β := Unit) 0 rfl (fun b => j4 = some r) (fun b => []) (fun b => [(8, .int .i64 (((Utf8.encode r1).size : Int) - 1)), (9, .int .i64 i1)]) (fun b => []) (fun cut => ?_) ?_
           ·
            refine cut (TC.seq (TC.region (TO.assign rfl dc rfl (TO.nil (TX.next (TC.block ?_))))))
            refine TC.loopD (β := Nat × Int) (fun b => loopG (fun _ => none) (strings_IndexRune_crlf_s3 r1 i1 j4) b.1 b.2 = some r) (fun b => []) (fun b => [(0, .string (⟨#[13, 10]⟩ : ByteArray)), (7, .string (Utf8.encode r1)), (8, .int .i64 (((Utf8.encode r1).size : Int) - 1)), (9, .int .i64 i1), (12, .int .i64 b.2)]) (fun b => []) (fun b => b.1) (fuel, 1) h rfl (Sbs.cons rfl (Sbs.cons rfl (Sbs.cons rfl (Sbs.cons rfl (Sbs.cons rfl (Sbs.nil)))))) Splits.nil ?_
            rintro ⟨n3, j7⟩ h
            cases n3 with
            | zero => exact noneE h
            | succ n3 =>
             obtain ⟨ag3, hag3⟩ : ∃ ag, ag = loopG (fun _ => none) (strings_IndexRune_crlf_s3 r1 i1 j4) n3 := ⟨_, rfl⟩
             have h : strings_IndexRune_crlf_s3 r1 i1 j4 ag3 j7 = some r := by rw [hag3]; exact h
             unfold strings_IndexRune_crlf_s3 at h
             show TC _ _ _ _ _ ([]) _ _ [(0, .string (⟨#[13, 10]⟩ : ByteArray)), (7, .string (Utf8.encode r1)), (8, .int .i64 (((Utf8.encode r1).size : Int) - 1)), (9, .int .i64 i1), (12, .int .i64 j7)] []
             refine TC.seq (TC.seq (TC.region (TO.move rfl dc rfl (TO.move rfl dc rfl (TO.lenStr rfl dc rfl Tryd.underlying9 (TO.bin rfl dc rfl rfl bin_lss (TO.nil (TX.next ?_))))))))
             refine TC.condB rfl (fun hb10 => ?_) (fun hb10 => ?_)
             ·
              have h := condT hb10 h
              refine TC.skip (TX.next (TC.seq (TC.block (TC.seq ?_))))
              obtain ⟨hg6, h⟩ := grdE h
              obtain ⟨c4, hq5, h⟩ := andE h
              obtain ⟨hg7, h⟩ := grdE h
              obtain ⟨c5, hq6, h⟩ := andE h
              refine TC.drawN 10 [(0, 54, .string (⟨#[13, 10]⟩ : ByteArray)), (1, 55, .int .i64 i1), (2, 56, .int .i64 j7), (3, 57, .int .i64 (i1 - j7)), (4, 58, .int .u8 c4), (5, 59, .string (Utf8.encode r1)), (6, 60, .int .i64 (((Utf8.encode r1).size : Int) - 1)), (7, 61, .int .i64 j7), (8, 62, .int .i64 ((((Utf8.encode r1).size : Int) - 1) - j7)), (9, 63, .int .u8 c5)] mixed kr kr dc (by rfl) kr kr (DrawPre.cons ?_ (DrawPre.cons ?_ (DrawPre.cons ?_ (DrawPre.cons ?_ (DrawPre.cons ?_ (DrawPre.cons ?_ (DrawPre.cons ?_ (DrawPre.cons ?_ (DrawPre.cons ?_ (DrawPre.cons ?_ DrawPre.nil)))))))))) ?_
              ·
               intro D hn hd hcl hu hi
               refine TO.move rfl dc (dl_old (by rfl) rfl) ?_
               exact TX.quiet 0 hu hi rfl
              ·
               intro D hn hd hcl hu hi
               refine TO.move rfl dc (dl_old (by rfl) rfl) ?_
               exact TX.quiet 1 hu hi rfl
              ·
               intro D hn hd hcl hu hi
               refine TO.move rfl dc (dl_old (by rfl) rfl) ?_
               exact TX.quiet 2 hu hi rfl
              ·
               intro D hn hd hcl hu hi
               refine TO.bin rfl dc (dl_lookup (m := 1) hu rfl (hd 1 dc)) (dl_lookup (m := 2) hu rfl (hd 2 dc)) (bin_sub (r := i1 - j7) (IntWalk.i64_in _ hg6)) ?_
               exact TX.quiet 3 hu hi rfl
              ·
               intro D hn hd hcl hu hi
               refine TO.index rfl dc (dl_lookup (m := 0) hu rfl (hd 0 dc)) (dl_lookup (m := 3) hu rfl (hd 3 dc)) (index_stringI Tryd.underlying9 hq5) ?_
               exact TX.quiet 4 hu hi rfl
              ·
               intro D hn hd hcl hu hi
               refine TO.move rfl dc (dl_old (by rfl) rfl) ?_
               exact TX.quiet 5 hu hi rfl
              ·
               intro D hn hd hcl hu hi
               refine TO.move rfl dc (dl_old (by rfl) rfl) ?_
               exact TX.quiet 6 hu hi rfl
              ·
               intro D hn hd hcl hu hi
               refine TO.move rfl dc (dl_old (by rfl) rfl) ?_
               exact TX.quiet 7 hu hi rfl
              ·
               intro D hn hd hcl hu hi
               refine TO.bin rfl dc (dl_lookup (m := 6) hu rfl (hd 6 dc)) (dl_lookup (m := 7) hu rfl (hd 7 dc)) (bin_sub (r := (((Utf8.encode r1).size : Int) - 1) - j7) (IntWalk.i64_in _ hg7)) ?_
               exact TX.quiet 8 hu hi rfl
              ·
               intro D hn hd hcl hu hi
               refine TO.index rfl dc (dl_lookup (m := 5) hu rfl (hd 5 dc)) (dl_lookup (m := 8) hu rfl (hd 8 dc)) (index_stringI Tryd.underlying9 hq6) ?_
               exact TX.quiet 9 hu hi rfl
              refine TO.bin rfl dc rfl rfl bin_neq (TO.nil (TX.next ?_))
              refine TC.condB rfl (fun hb11 => ?_) (fun hb11 => ?_)
              ·
               have h := condT hb11 h
               exact noneE h
              ·
               have h := condF hb11 h
               refine TC.skip (TX.blockNormal (TX.next (TC.region (TO.move rfl dc rfl ?_))))
               obtain ⟨hg8, h⟩ := grdE h
               refine TO.bin rfl dc rfl rfl (bin_add (r := j7 + 1) (IntWalk.i64_in _ hg8)) (TO.assign rfl dc rfl (TO.nil ?_))
               subst hag3
               exact TX.againD (n3, j7 + 1) h (Nat.lt_succ_self _) rfl (Sbs.cons rfl (Sbs.cons rfl (Sbs.cons rfl (Sbs.cons rfl (Sbs.cons rfl (Sbs.nil)))))) Splits.nil
             ·
              have h := condF hb10 h
              refine TC.exit (TX.thenExit (TX.thenExit (TX.blockHere ?_)))
              exact TX.meetD () h rfl (Sbs.cons rfl (Sbs.cons rfl (Sbs.nil))) Splits.nil
           ·
            rintro _ h
            rw [hj4] at h
            show TC _ _ _ _ _ ([]) _ _ [(8, .int .i64 (((Utf8.encode r1).size : Int) - 1)), (9, .int .i64 i1)] []
            refine TC.seq (TC.seq (TC.region (TO.move rfl dc rfl (TO.move rfl dc rfl ?_))))
            obtain ⟨hg9, h⟩ := grdE h
            refine TO.bin rfl dc rfl rfl (bin_sub (r := i1 - (((Utf8.encode r1).size : Int) - 1)) (IntWalk.i64_in _ hg9)) (TO.assign rfl dc rfl (TO.nil (TX.next (TC.ret (TX.thenRet (TX.jumpOn (by simp) (TX.blockRet (TX.thenRet (TX.blockRet (TX.thenRet (TX.jumpOn (by simp) (TX.blockRet ?_))))))))))))
            cases h
            exact TX.fin (rs := [.tmp 4]) () (.inl rfl) Tryd.results81 (.cons (.tmp rfl) .nil) rfl Splits.nil
         ·
          exact fun b hb => hb.elim
        ·
         have h := condF hb7 h
         refine TC.exit (TX.thenExit (TX.thenExit (TX.blockHere ?_)))
         exact TX.meetD () h rfl (Sbs.nil) Splits.nil
      ·
       rintro _ h
       rw [hj2] at h
       show TC _ _ _ _ _ ([]) _ _ [] []
       refine TC.seq (TC.seq (TC.region (TO.assign rfl dc rfl (TO.nil (TX.next (TC.ret (TX.thenRet (TX.jumpOn (by simp) (TX.blockRet ?_)))))))))
       cases h
       exact TX.fin (rs := [.tmp 4]) () (.inl rfl) Tryd.results81 (.cons (.tmp rfl) .nil) rfl Splits.nil
     ·
      exact fun b hb => hb.elim
 ·
  have h := condF hb1 h
  refine TO.skip rfl dc (TO.skip rfl dc (TO.pick (b := false) rfl dc rfl rfl (TO.assign rfl dc rfl (TO.nil (TX.next (TC.condF rfl (TC.seq (TC.region (TO.move rfl dc rfl (TO.bin rfl dc rfl rfl bin_eql (TO.assign rfl dc rfl (TO.nil (TX.next ?_)))))))))))))
  refine TC.condB rfl (fun hb12 => ?_) (fun hb12 => ?_)
  ·
   have h := condT hb12 h
   obtain ⟨j8, hj8, h⟩ := joinE h
   refine TC.cutN (β := Unit) 0 rfl (fun b => j8 = some r) (fun b => []) (fun b => []) (fun b => []) (fun cut => ?_) ?_
   ·
    refine cut (TC.seq (TC.region (TO.move rfl dc rfl ?_)))
    refine TO.rangeStr Tryd.underlying9 rfl dc rfl (fun b2 => ?_)
    refine TO.nil (TX.next (TC.block ?_))
    refine TC.loopD (β := Nat × Nat) (fun b => loopG (fun _ => none) (strings_IndexRune_crlf_s4 j8) b.1 b.2 = some r) (fun b => []) (fun b => [(175, .pointer (some ⟨b2, 0, none⟩))]) (fun b => [obj b2 (.stringIter (⟨#[13, 10]⟩ : ByteArray) (posAt (⟨#[13, 10]⟩ : ByteArray) b.2))]) (fun b => b.1) (fuel, 0) h rfl (Sbs.cons rfl (Sbs.nil)) (Splits.of [0] kr rfl) ?_
    rintro ⟨n4, m6⟩ h
    cases n4 with
    | zero => exact noneE h
    | succ n4 =>
     obtain ⟨ag4, hag4⟩ : ∃ ag, ag = loopG (fun _ => none) (strings_IndexRune_crlf_s4 j8) n4 := ⟨_, rfl⟩
     have h : strings_IndexRune_crlf_s4 j8 ag4 m6 = some r := by rw [hag4]; exact h
     unfold strings_IndexRune_crlf_s4 at h
     show TC _ _ _ _ _ ([]) _ _ [(175, .pointer (some ⟨b2, 0, none⟩))] [obj b2 (.stringIter (⟨#[13, 10]⟩ : ByteArray) (posAt (⟨#[13, 10]⟩ : ByteArray) m6))]
     refine TC.seq (TC.region ?_)
     refine TO.bySplit (b := decide (m6 < (pcs (⟨#[13, 10]⟩ : ByteArray).data.toList).length)) (fun hb13 => ?_) (fun hb13 => ?_)
     ·
      have h := condT hb13 h
      obtain ⟨p2, hq7, h⟩ := andE h
      refine TO.nextStr (k := 0) (m := m6) (p := p2) rfl dc rfl rfl hq7 (TO.extract rfl dc rfl rfl (TO.nil (TX.next (TC.seq (TC.condT rfl (TC.skip (TX.next (TC.block (TC.seq (TC.region (TO.extract rfl dc rfl rfl (TO.extract rfl dc rfl rfl (TO.assign rfl dc rfl ?_)))))))))))))
      refine TO.assign rfl dc rfl (TO.nil (TX.next (TC.seq (TC.region (TO.move rfl dc rfl (TO.bin rfl dc rfl rfl bin_eql (TO.nil (TX.next ?_))))))))
      refine TC.condB rfl (fun hb14 => ?_) (fun hb14 => ?_)
      ·
       have h := condT hb14 h
       refine TC.seq (TC.region (TO.move rfl dc rfl (TO.assign rfl dc rfl (TO.nil (TX.next (TC.ret (TX.blockRet (TX.thenRet (TX.blockRet (TX.thenRet (TX.blockRet ?_)))))))))))
       cases h
       exact TX.fin (rs := [.tmp 4]) () (.inl rfl) Tryd.results81 (.cons (.tmp rfl) .nil) rfl Splits.nil
      ·
       have h := condF hb14 h
       refine TC.skip (TX.blockNormal ?_)
       subst hag4
       exact TX.againD (n4, m6 + 1) h (Nat.lt_succ_self _) rfl (Sbs.cons rfl (Sbs.nil)) (Splits.of [0] kr rfl)
     ·
      have h := condF hb13 h
      refine TO.nextEnd (k := 0) (m := m6) rfl dc rfl rfl (Nat.le_of_not_lt (of_decide_eq_false hb13)) (TO.extract rfl dc rfl rfl (TO.nil (TX.next (TC.seq (TC.condF rfl (TC.exit (TX.thenExit (TX.thenExit (TX.blockHere ?_)))))))))
      exact TX.meetD () h rfl (Sbs.nil) Splits.nil
   ·
    rintro _ h
    rw [hj8] at h
    show TC _ _ _ _ _ ([]) _ _ [] []
    refine TC.seq (TC.region (TO.assign rfl dc rfl (TO.nil (TX.next (TC.ret (TX.blockRet ?_))))))
    cases h
    exact TX.fin (rs := [.tmp 4]) () (.inl rfl) Tryd.results81 (.cons (.tmp rfl) .nil) rfl Splits.nil
  ·
   have h := condF hb12 h
   refine TC.seq (TC.region (TO.move rfl dc rfl (TO.callP (v := .bool (Lib.validRune r1)) (vs := [.int .i32 r1]) rfl dc rfl rfl rfl en_100 (vrune_p r1) (TO.un rfl dc rfl un_not (TO.assign rfl dc rfl (TO.nil (TX.next ?_)))))))
   refine TC.condB rfl (fun hb15 => ?_) (fun hb15 => ?_)
   ·
    have h := condT hb15 h
    refine TC.seq (TC.region (TO.assign rfl dc rfl (TO.nil (TX.next (TC.ret (TX.blockRet ?_))))))
    cases h
    exact TX.fin (rs := [.tmp 4]) () (.inl rfl) Tryd.results81 (.cons (.tmp rfl) .nil) rfl Splits.nil
   ·
    have h := condF hb15 h
    refine TC.scope (β := Unit) (l := 1) (fun _ => False) (fun _ => []) (fun _ => []) rfl ?_ ?_
    ·
     obtain ⟨j9, hj9, h⟩ := joinE h
     refine TC.cutN (β := Unit) 4 rfl (fun b => j9 = some r) (fun b => []) (fun b => []) (fun b => []) (fun cut => ?_) ?_
     ·
      refine TC.seq (TC.region (TO.move rfl dc rfl (TO.conv rfl dc rfl (conv_rune Tryd.underlying21 Tryd.underlying9) (TO.assign rfl dc rfl (TO.nil (TX.next (TC.seq (TC.region (TO.move rfl dc rfl (TO.lenStr rfl dc rfl Tryd.underlying9 ?_))))))))))
      obtain ⟨hg10, h⟩ := grdE h
      refine TO.bin rfl dc rfl rfl (bin_sub (r := ((Utf8.encode r1).size : Int) - 1) (IntWalk.i64_in _ hg10)) (TO.assign rfl dc rfl (TO.nil (TX.next (TC.seq (TC.region (TO.move rfl dc rfl (TO.assign rfl dc rfl (TO.nil (TX.next (TC.seq (TC.region (TO.assign rfl dc rfl (TO.nil ?_)))))))))))))
      refine TX.next (cut (TC.block ?_))
      refine TC.loopD (β := Nat) (fun b => loopG none (strings_IndexRune_crlf_s5 r1 j9) b = some r) (fun b => []) (fun b => [(0, .string (⟨#[13, 10]⟩ : ByteArray)), (7, .string (Utf8.encode r1)), (8, .int .i64 (((Utf8.encode r1).size : Int) - 1)), (9, .int .i64 (((Utf8.encode r1).size : Int) - 1))]) (fun b => []) (fun b => b) fuel h rfl (Sbs.cons rfl (Sbs.cons rfl (Sbs.cons rfl (Sbs.cons rfl (Sbs.nil))))) Splits.nil ?_
      rintro n5 h
      cases n5 with
      | zero => exact noneE h
      | succ n5 =>
       obtain ⟨ag5, hag5⟩ : ∃ ag, ag = loopG none (strings_IndexRune_crlf_s5 r1 j9) n5 := ⟨_, rfl⟩
       have h : strings_IndexRune_crlf_s5 r1 j9 ag5 = some r := by rw [hag5]; exact h
       unfold strings_IndexRune_crlf_s5 at h
       show TC _ _ _ _ _ ([]) _ _ [(0, .string (⟨#[13, 10]⟩ : ByteArray)), (7, .string (Utf8.encode r1)), (8, .int .i64 (((Utf8.encode r1).size : Int) - 1)), (9, .int .i64 (((Utf8.encode r1).size : Int) - 1))] []
       refine TC.seq (TC.seq (TC.region (TO.move rfl dc rfl (TO.move rfl dc rfl (TO.lenStr rfl dc rfl Tryd.underlying9 (TO.bin rfl dc rfl rfl bin_lss (TO.nil (TX.next ?_))))))))
       refine TC.condB rfl (fun hb16 => ?_) (fun hb16 => ?_)
       ·
        have h := condT hb16 h
        refine TC.skip (TX.next (TC.block ?_))
        refine TC.scope (β := Unit) (l := 0) (fun _ => False) (fun _ => []) (fun _ => []) rfl ?_ ?_
        ·
         obtain ⟨j10, hj10, h⟩ := joinE h
         refine TC.cutN (β := Int) 0 rfl (fun b => j10 b = some r) (fun b => []) (fun b => [(0, .string (⟨#[13, 10]⟩ : ByteArray)), (7, .string (Utf8.encode r1)), (8, .int .i64 (((Utf8.encode r1).size : Int) - 1)), (9, .int .i64 b)]) (fun b => []) (fun cut => ?_) ?_
         ·
          refine cut (TC.seq ?_)
          obtain ⟨c6, hq8, h⟩ := andE h
          obtain ⟨c7, hq9, h⟩ := andE h
          refine TC.drawN 6 [(0, 27, .string (⟨#[13, 10]⟩ : ByteArray)), (1, 28, .int .i64 (((Utf8.encode r1).size : Int) - 1)), (2, 29, .int .u8 c6), (3, 30, .string (Utf8.encode r1)), (4, 31, .int .i64 (((Utf8.encode r1).size : Int) - 1)), (5, 32, .int .u8 c7)] mixed kr kr dc (by rfl) kr kr (DrawPre.cons ?_ (DrawPre.cons ?_ (DrawPre.cons ?_ (DrawPre.cons ?_ (DrawPre.cons ?_ (DrawPre.cons ?_ DrawPre.nil)))))) ?_
          ·
           intro D hn hd hcl hu hi
           refine TO.move rfl dc (dl_old (by rfl) rfl) ?_
           exact TX.quiet 0 hu hi rfl
          ·
           intro D hn hd hcl hu hi
           refine TO.move rfl dc (dl_old (by rfl) rfl) ?_
           exact TX.quiet 1 hu hi rfl
          ·
           intro D hn hd hcl hu hi
           refine TO.index rfl dc (dl_lookup (m := 0) hu rfl (hd 0 dc)) (dl_lookup (m := 1) hu rfl (hd 1 dc)) (index_stringI Tryd.underlying9 hq8) ?_
           exact TX.quiet 2 hu hi rfl
          ·
           intro D hn hd hcl hu hi
           refine TO.move rfl dc (dl_old (by rfl) rfl) ?_
           exact TX.quiet 3 hu hi rfl
          ·
           intro D hn hd hcl hu hi
           refine TO.move rfl dc (dl_old (by rfl) rfl) ?_
           exact TX.quiet 4 hu hi rfl
          ·
           intro D hn hd hcl hu hi
           refine TO.index rfl dc (dl_lookup (m := 3) hu rfl (hd 3 dc)) (dl_lookup (m := 4) hu rfl (hd 4 dc)) (index_stringI Tryd.underlying9 hq9) ?_
           exact TX.quiet 5 hu hi rfl
          refine TO.bin rfl dc rfl rfl bin_neq (TO.nil (TX.next ?_))
          refine TC.condB rfl (fun hb17 => ?_) (fun hb17 => ?_)
          ·
           have h := condT hb17 h
           refine TC.seq ?_
           obtain ⟨hg11, h⟩ := grdE h
           obtain ⟨hg12, h⟩ := grdE h
           obtain ⟨c8, hq10, h⟩ := andE h
           refine TC.drawN 7 [(0, 34, .string (⟨#[13, 10]⟩ : ByteArray)), (1, 35, .int .i64 (((Utf8.encode r1).size : Int) - 1)), (2, 36, .int .i64 ((((Utf8.encode r1).size : Int) - 1) + 1)), (3, 37, .string (cutB (⟨#[13, 10]⟩ : ByteArray) ((((Utf8.encode r1).size : Int) - 1) + 1) ((⟨#[13, 10]⟩ : ByteArray).size : Int))), (4, 38, .string (Utf8.encode r1)), (5, 39, .int .i64 (((Utf8.encode r1).size : Int) - 1)), (6, 40, .int .u8 c8)] mixed kr kr dc (by rfl) kr kr (DrawPre.cons ?_ (DrawPre.cons ?_ (DrawPre.cons ?_ (DrawPre.cons ?_ (DrawPre.cons ?_ (DrawPre.cons ?_ (DrawPre.cons ?_ DrawPre.nil))))))) ?_
           ·
            intro D hn hd hcl hu hi
            refine TO.move rfl dc (dl_old (by rfl) rfl) ?_
            exact TX.quiet 0 hu hi rfl
           ·
            intro D hn hd hcl hu hi
            refine TO.move rfl dc (dl_old (by rfl) rfl) ?_
            exact TX.quiet 1 hu hi rfl
           ·
            intro D hn hd hcl hu hi
            refine TO.bin rfl dc (dl_lookup (m := 1) hu rfl (hd 1 dc)) rfl (bin_add (r := (((Utf8.encode r1).size : Int) - 1) + 1) (IntWalk.i64_in _ hg11)) ?_
            exact TX.quiet 2 hu hi rfl
           ·
            intro D hn hd hcl hu hi
            refine TO.slice rfl dc (dl_lookup (m := 0) hu rfl (hd 0 dc)) (evO.some (dl_lookup (m := 2) hu rfl (hd 2 dc))) evO.none (slice_stringI (i := (((Utf8.encode r1).size : Int) - 1) + 1) (j := ((⟨#[13, 10]⟩ : ByteArray).size : Int)) Tryd.underlying9 (.inr rfl) (.inl ⟨rfl, rfl⟩) hg12) ?_
            exact TX.quiet 3 hu hi rfl
           ·
            intro D hn hd hcl hu hi
            refine TO.move rfl dc (dl_old (by rfl) rfl) ?_
            exact TX.quiet 4 hu hi rfl
           ·
            intro D hn hd hcl hu hi
            refine TO.move rfl dc (dl_old (by rfl) rfl) ?_
            exact TX.quiet 5 hu hi rfl
           ·
            intro D hn hd hcl hu hi
            refine TO.index rfl dc (dl_lookup (m := 4) hu rfl (hd 4 dc)) (dl_lookup (m := 5) hu rfl (hd 5 dc)) (index_stringI Tryd.underlying9 hq10) ?_
            exact TX.quiet 6 hu hi rfl
           refine TO.callP (v := .int .i64 (Lib.indexByte (cutB (⟨#[13, 10]⟩ : ByteArray) ((((Utf8.encode r1).size : Int) - 1) + 1) ((⟨#[13, 10]⟩ : ByteArray).size : Int)).data.toList (c8 : Int).toNat.toUInt8)) (vs := [.string (cutB (⟨#[13, 10]⟩ : ByteArray) ((((Utf8.encode r1).size : Int) - 1) + 1) ((⟨#[13, 10]⟩ : ByteArray).size : Int)), .int .u8 c8]) rfl dc rfl rfl rfl en_99 (ibyte_p (cutB (⟨#[13, 10]⟩ : ByteArray) ((((Utf8.encode r1).size : Int) - 1) + 1) ((⟨#[13, 10]⟩ : ByteArray).size : Int)) c8) (TO.assign rfl dc rfl (TO.nil (TX.next (TC.seq (TC.seq (TC.region (TO.move rfl dc rfl (TO.bin rfl dc rfl rfl bin_lss (TO.nil (TX.next ?_))))))))))
           refine TC.condB rfl (fun hb18 => ?_) (fun hb18 => ?_)
           ·
            have h := condT hb18 h
            refine TC.seq (TC.region (TO.assign rfl dc rfl (TO.nil (TX.next (TC.ret (TX.thenRet (TX.thenRet (TX.jumpOn (by simp) (TX.blockRet (TX.thenRet (TX.blockRet (TX.thenRet (TX.jumpOn (by simp) ?_)))))))))))))
            refine TX.blockRet ?_
            cases h
            exact TX.fin (rs := [.tmp 4]) () (.inl rfl) Tryd.results81 (.cons (.tmp rfl) .nil) rfl Splits.nil
           ·
            have h := condF hb18 h
            refine TC.skip (TX.next (TC.region (TO.move rfl dc rfl (TO.move rfl dc rfl ?_))))
            obtain ⟨hg13, h⟩ := grdE h
            refine TO.bin rfl dc rfl rfl (bin_add (r := (Lib.indexByte (cutB (⟨#[13, 10]⟩ : ByteArray) ((((Utf8.encode r1).size : Int) - 1) + 1) ((⟨#[13, 10]⟩ : ByteArray).size : Int)).data.toList (c8 : Int).toNat.toUInt8) + 1) (IntWalk.i64_in _ hg13)) ?_
            obtain ⟨hg14, h⟩ := grdE h
            refine TO.bin rfl dc rfl rfl (bin_add (r := (((Utf8.encode r1).size : Int) - 1) + ((Lib.indexByte (cutB (⟨#[13, 10]⟩ : ByteArray) ((((Utf8.encode r1).size : Int) - 1) + 1) ((⟨#[13, 10]⟩ : ByteArray).size : Int)).data.toList (c8 : Int).toNat.toUInt8) + 1)) (IntWalk.i64_in _ hg14)) (TO.assign rfl dc rfl (TO.nil ?_))
            exact TX.meetD ((((Utf8.encode r1).size : Int) - 1) + ((Lib.indexByte (cutB (⟨#[13, 10]⟩ : ByteArray) ((((Utf8.encode r1).size : Int) - 1) + 1) ((⟨#[13, 10]⟩ : ByteArray).size : Int)).data.toList (c8 : Int).toNat.toUInt8) + 1)) h rfl (Sbs.cons rfl (Sbs.cons rfl (Sbs.cons rfl (Sbs.cons rfl (Sbs.nil))))) Splits.nil
          ·
           have h := condF hb17 h
           refine TC.skip ?_
           exact TX.meetD (((Utf8.encode r1).size : Int) - 1) h rfl (Sbs.cons rfl (Sbs.cons rfl (Sbs.cons rfl (Sbs.cons rfl (Sbs.nil))))) Splits.nil
         ·
          rintro i2 h
          rw [hj10] at h
          show TC _ _ _ _ _ ([]) _ _ [(0, .string (⟨#[13, 10]⟩ : ByteArray)), (7, .string (Utf8.encode r1)), (8, .int .i64 (((Utf8.encode r1).size : Int) - 1)), (9, .int .i64 i2)] []
          obtain ⟨j11, hj11, h⟩ := joinE h
          refine TC.cutN (β := Unit) 0 rfl (fun b => j11 = some r) (fun b => []) (fun b => [(8, .int .i64 (((Utf8.encode r1).size : Int) - 1)), (9, .int .i64 i2)]) (fun b => []) (fun cut => ?_) ?_
          ·
           refine cut (TC.seq (TC.region (TO.assign rfl dc rfl (TO.nil (TX.next (TC.block ?_))))))
           refine TC.loopD (β := Nat × Int) (fun b => loopG (fun _ => none) (strings_IndexRune_crlf_s6 r1 i2 j11) b.1 b.2 = some r) (fun b => []) (fun b => [(0, .string (⟨#[13, 10]⟩ : ByteArray)), (7, .string (Utf8.encode r1)), (8, .int .i64 (((Utf8.encode r1).size : Int) - 1)), (9, .int .i64 i2), (12, .int .i64 b.2)]) (fun b => []) (fun b => b.1) (fuel, 1) h rfl (Sbs.cons rfl (Sbs.cons rfl (Sbs.cons rfl (Sbs.cons rfl (Sbs.cons rfl (Sbs.nil)))))) Splits.nil ?_
           rintro ⟨n6, j14⟩ h
           cases n6 with
           | zero => exact noneE h
           | succ n6 =>
            obtain ⟨ag6, hag6⟩ : ∃ ag, ag = loopG (fun _ => none) (strings_IndexRune_crlf_s6 r1 i2 j11) n6 := ⟨_, rfl⟩
            have h : strings_IndexRune_crlf_s6 r1 i2 j11 ag6 j14 = some r := by rw [hag6]; exact h
            unfold strings_IndexRune_crlf_s6 at h
            show TC _ _ _ _ _ ([]) _ _ [(0, .string (⟨#[13, 10]⟩ : ByteArray)), (7, .string (Utf8.encode r1)), (8, .int .i64 (((Utf8.encode r1).size : Int) - 1)), (9, .int .i64 i2), (12, .int .i64 j14)] []
            refine TC.seq (TC.seq (TC.region (TO.move rfl dc rfl (TO.move rfl dc rfl (TO.lenStr rfl dc rfl Tryd.underlying9 (TO.bin rfl dc rfl rfl bin_lss (TO.nil (TX.next ?_))))))))
            refine TC.condB rfl (fun hb19 => ?_) (fun hb19 => ?_)
            ·
             have h := condT hb19 h
             refine TC.skip (TX.next (TC.seq (TC.block (TC.seq ?_))))
             obtain ⟨hg15, h⟩ := grdE h
             obtain ⟨c9, hq11, h⟩ := andE h
             obtain ⟨hg16, h⟩ := grdE h
             obtain ⟨c10, hq12, h⟩ := andE h
             refine TC.drawN 10 [(0, 54, .string (⟨#[13, 10]⟩ : ByteArray)), (1, 55, .int .i64 i2), (2, 56, .int .i64 j14), (3, 57, .int .i64 (i2 - j14)), (4, 58, .int .u8 c9), (5, 59, .string (Utf8.encode r1)), (6, 60, .int .i64 (((Utf8.encode r1).size : Int) - 1)), (7, 61, .int .i64 j14), (8, 62, .int .i64 ((((Utf8.encode r1).size : Int) - 1) - j14)), (9, 63, .int .u8 c10)] mixed kr kr dc (by rfl) kr kr (DrawPre.cons ?_ (DrawPre.cons ?_ (DrawPre.cons ?_ (DrawPre.cons ?_ (DrawPre.cons ?_ (DrawPre.cons ?_ (DrawPre.cons ?_ (DrawPre.cons ?_ (DrawPre.cons ?_ (DrawPre.cons ?_ DrawPre.nil)))))))))) ?_
             ·
              intro D hn hd hcl hu hi
              refine TO.move rfl dc (dl_old (by rfl) rfl) ?_
              exact TX.quiet 0 hu hi rfl
             ·
              intro D hn hd hcl hu hi
              refine TO.move rfl dc (dl_old (by rfl) rfl) ?_
              exact TX.quiet 1 hu hi rfl
             ·
              intro D hn hd hcl hu hi
              refine TO.move rfl dc (dl_old (by rfl) rfl) ?_
              exact TX.quiet 2 hu hi rfl
             ·
              intro D hn hd hcl hu hi
              refine TO.bin rfl dc (dl_lookup (m := 1) hu rfl (hd 1 dc)) (dl_lookup (m := 2) hu rfl (hd 2 dc)) (bin_sub (r := i2 - j14) (IntWalk.i64_in _ hg15)) ?_
              exact TX.quiet 3 hu hi rfl
             ·
              intro D hn hd hcl hu hi
              refine TO.index rfl dc (dl_lookup (m := 0) hu rfl (hd 0 dc)) (dl_lookup (m := 3) hu rfl (hd 3 dc)) (index_stringI Tryd.underlying9 hq11) ?_
              exact TX.quiet 4 hu hi rfl
             ·
              intro D hn hd hcl hu hi
              refine TO.move rfl dc (dl_old (by rfl) rfl) ?_
              exact TX.quiet 5 hu hi rfl
             ·
              intro D hn hd hcl hu hi
              refine TO.move rfl dc (dl_old (by rfl) rfl) ?_
              exact TX.quiet 6 hu hi rfl
             ·
              intro D hn hd hcl hu hi
              refine TO.move rfl dc (dl_old (by rfl) rfl) ?_
              exact TX.quiet 7 hu hi rfl
             ·
              intro D hn hd hcl hu hi
              refine TO.bin rfl dc (dl_lookup (m := 6) hu rfl (hd 6 dc)) (dl_lookup (m := 7) hu rfl (hd 7 dc)) (bin_sub (r := (((Utf8.encode r1).size : Int) - 1) - j14) (IntWalk.i64_in _ hg16)) ?_
              exact TX.quiet 8 hu hi rfl
             ·
              intro D hn hd hcl hu hi
              refine TO.index rfl dc (dl_lookup (m := 5) hu rfl (hd 5 dc)) (dl_lookup (m := 8) hu rfl (hd 8 dc)) (index_stringI Tryd.underlying9 hq12) ?_
              exact TX.quiet 9 hu hi rfl
             refine TO.bin rfl dc rfl rfl bin_neq (TO.nil (TX.next ?_))
             refine TC.condB rfl (fun hb20 => ?_) (fun hb20 => ?_)
             ·
              have h := condT hb20 h
              exact noneE h
             ·
              have h := condF hb20 h
              refine TC.skip (TX.blockNormal (TX.next (TC.region (TO.move rfl dc rfl ?_))))
              obtain ⟨hg17, h⟩ := grdE h
              refine TO.bin rfl dc rfl rfl (bin_add (r := j14 + 1) (IntWalk.i64_in _ hg17)) (TO.assign rfl dc rfl (TO.nil ?_))
              subst hag6
              exact TX.againD (n6, j14 + 1) h (Nat.lt_succ_self _) rfl (Sbs.cons rfl (Sbs.cons rfl (Sbs.cons rfl (Sbs.cons rfl (Sbs.cons rfl (Sbs.nil)))))) Splits.nil
            ·
             have h := condF hb19 h
             refine TC.exit (TX.thenExit (TX.thenExit (TX.blockHere ?_)))
             exact TX.meetD () h rfl (Sbs.cons rfl (Sbs.cons rfl (Sbs.nil))) Splits.nil
          ·
           rintro _ h
           rw [hj11] at h
           show TC _ _ _ _ _ ([]) _ _ [(8, .int .i64 (((Utf8.encode r1).size : Int) - 1)), (9, .int .i64 i2)] []
           refine TC.seq (TC.seq (TC.region (TO.move rfl dc rfl (TO.move rfl dc rfl ?_))))
           obtain ⟨hg18, h⟩ := grdE h
           refine TO.bin rfl dc rfl rfl (bin_sub (r := i2 - (((Utf8.encode r1).size : Int) - 1)) (IntWalk.i64_in _ hg18)) (TO.assign rfl dc rfl (TO.nil (TX.next (TC.ret (TX.thenRet (TX.jumpOn (by simp) (TX.blockRet (TX.thenRet (TX.blockRet (TX.thenRet (TX.jumpOn (by simp) (TX.blockRet ?_))))))))))))
           cases h
           exact TX.fin (rs := [.tmp 4]) () (.inl rfl) Tryd.results81 (.cons (.tmp rfl) .nil) rfl Splits.nil
        ·
         exact fun b hb => hb.elim
       ·
        have h := condF hb16 h
        refine TC.exit (TX.thenExit (TX.thenExit (TX.blockHere ?_)))
        exact TX.meetD () h rfl (Sbs.nil) Splits.nil
     ·
      rintro _ h
      rw [hj9] at h
      show TC _ _ _ _ _ ([]) _ _ [] []
      refine TC.seq (TC.seq (TC.region (TO.assign rfl dc rfl (TO.nil (TX.next (TC.ret (TX.thenRet (TX.jumpOn (by simp) (TX.blockRet ?_)))))))))
      cases h
      exact TX.fin (rs := [.tmp 4]) () (.inl rfl) Tryd.results81 (.cons (.tmp rfl) .nil) rfl Splits.nil
    ·
     exact fun b hb => hb.elim
def strings_IndexAny_crlf_s1 (s1 : ByteArray) (j3 : Option Int) (ag1 : Nat → Option Int) (m3 : Nat) : Option Int := bcond (decide (m3 < (pcs s1.data.toList).length)) ( andThen ((pcs s1.data.toList)[m3]?) fun (p1 : Pc) => andThen (strings_IndexRune_crlf_v (p1.r : Int)) fun (r2 : Int) => bcond (decide ((0 : Int) ≤ r2)) ( some (p1.i : Int)
) ( ag1 (m3 + 1)
)
) ( j3
)
def strings_IndexAny_crlf_v (s1 : ByteArray) : Option Int := bcond (decide ((⟨#[13, 10]⟩ : ByteArray) = (⟨#[]⟩ : ByteArray))) ( some (-1)
) ( bcond ((((⟨#[13, 10]⟩ : ByteArray).size : Int) : Int) == 1) ( joinK (fun (j1 : Int → Option Int) => andThen (getB (⟨#[13, 10]⟩ : ByteArray) 0) fun (c1 : Int) => grd (I32 c1) <| bcond (decide ((128 : Int) ≤ c1)) ( j1 65533
) ( j1 c1
)
) (fun (r1 : Int) => none
)
) ( joinK (fun (j2 : Option Int) => bcond (decide (8 < ((s1.size : Int) : Int))) ( none
) ( j2
)
) ( joinK (fun (j3 : Option Int) => loopG (fun _ => none) (strings_IndexAny_crlf_s1 s1 j3) fuel 0
) ( some (-1)
)
)
)
)
set_option maxRecDepth 100000 in
set_option maxHeartbeats 4000000 in
theorem strings_IndexAny_crlf_fn {s1 : ByteArray} {r : Int} (h : strings_IndexAny_crlf_v s1 = some r) : FnP Tryd.prog 59 [.string s1, .string (⟨#[13, 10]⟩ : ByteArray)] (.int .i64 r) := by
 unfold strings_IndexAny_crlf_v at h
 refine FnP.intro Tryd.func59 rfl Tryd.ntmps59 (by simp) ?_
 intro w0 K
 refine TC.seq (TC.region (TO.assign rfl dc rfl (TO.nil (TX.next (TC.seq (TC.seq (TC.region (TO.move rfl dc rfl (TO.bin rfl dc rfl rfl bin_seql (TO.nil (TX.next ?_)))))))))))
 refine TC.condB rfl (fun hb1 => ?_) (fun hb1 => ?_)
 ·
  have h := condT hb1 h
  refine TC.seq (TC.region (TO.assign rfl dc rfl (TO.nil (TX.next (TC.ret (TX.thenRet ?_))))))
  cases h
  exact TX.fin (rs := [.tmp 4]) () (.inl rfl) Tryd.results59 (.cons (.tmp rfl) .nil) rfl Splits.nil
 ·
  have h := condF hb1 h
  refine TC.skip (TX.next (TC.seq (TC.seq (TC.region (TO.move rfl dc rfl (TO.lenStr rfl dc rfl Tryd.underlying9 (TO.bin rfl dc rfl rfl bin_eql (TO.nil (TX.next ?_)))))))))
  refine TC.condB rfl (fun hb2 => ?_) (fun hb2 => ?_)
  ·
   have h := condT hb2 h
   obtain ⟨j1, hj1, h⟩ := joinE h
   refine TC.cutN (β := Int) 1 rfl (fun b => j1 b = some r) (fun b => []) (fun b => [(0, .string s1), (5, .int .i32 b)]) (fun b => []) (fun cut => ?_) ?_
   ·
    refine TC.seq (TC.region (TO.move rfl dc rfl ?_))
    obtain ⟨c1, hq1, h⟩ := andE h
    refine TO.index rfl dc rfl rfl (index_stringI Tryd.underlying9 hq1) ?_
    obtain ⟨hg1, h⟩ := grdE h
    refine TO.conv rfl dc rfl (conv_int (r := c1) Tryd.underlying5 Tryd.underlying21 (IntWalk.i32_in _ hg1)) (TO.assign rfl dc rfl (TO.nil (TX.next (cut (TC.seq (TC.region (TO.move rfl dc rfl (TO.bin rfl dc rfl rfl bin_geq (TO.nil (TX.next ?_))))))))))
    refine TC.condB rfl (fun hb3 => ?_) (fun hb3 => ?_)
    ·
     have h := condT hb3 h
     refine TC.region (TO.assign rfl dc rfl (TO.nil ?_))
     exact TX.meetD 65533 h rfl (Sbs.cons rfl (Sbs.cons rfl (Sbs.nil))) Splits.nil
    ·
     have h := condF hb3 h
     refine TC.skip ?_
     exact TX.meetD c1 h rfl (Sbs.cons rfl (Sbs.cons rfl (Sbs.nil))) Splits.nil
   ·
    rintro r1 h
    rw [hj1] at h
    show TC _ _ _ _ _ ([]) _ _ [(0, .string s1), (5, .int .i32 r1)] []
    refine TC.seq ?_
    exact noneE h
  ·
   have h := condF hb2 h
   refine TC.skip (TX.next ?_)
   obtain ⟨j2, hj2, h⟩ := joinE h
   refine TC.cutN (β := Unit) 0 rfl (fun b => j2 = some r) (fun b => []) (fun b => [(0, .string s1), (1, .string (⟨#[13, 10]⟩ : ByteArray))]) (fun b => []) (fun cut => ?_) ?_
   ·
    refine cut (TC.seq (TC.region (TO.move rfl dc rfl (TO.lenStr rfl dc rfl Tryd.underlying9 (TO.callP (v := .bool (decide (8 < ((s1.size : Int) : Int)))) (vs := [.int .i64 (s1.size : Int)]) rfl dc rfl rfl rfl en_82 (suse_p (s1.size : Int)) (TO.nil (TX.next ?_)))))))
    refine TC.condB rfl (fun hb4 => ?_) (fun hb4 => ?_)
    ·
     have h := condT hb4 h
     refine TC.seq ?_
     exact noneE h
    ·
     have h := condF hb4 h
     refine TC.skip ?_
     exact TX.meetD () h rfl (Sbs.cons rfl (Sbs.cons rfl (Sbs.nil))) Splits.nil
   ·
    rintro _ h
    rw [hj2] at h
    show TC _ _ _ _ _ ([]) _ _ [(0, .string s1), (1, .string (⟨#[13, 10]⟩ : ByteArray))] []
    obtain ⟨j3, hj3, h⟩ := joinE h
    refine TC.cutN (β := Unit) 0 rfl (fun b => j3 = some r) (fun b => []) (fun b => []) (fun b => []) (fun cut => ?_) ?_
    ·
     refine cut (TC.seq (TC.region (TO.move rfl dc rfl ?_)))
     refine TO.rangeStr Tryd.underlying9 rfl dc rfl (fun b1 => ?_)
     refine TO.nil (TX.next (TC.block ?_))
     refine TC.loopD (β := Nat × Nat) (fun b => loopG (fun _ => none) (strings_IndexAny_crlf_s1 s1 j3) b.1 b.2 = some r) (fun b => []) (fun b => [(1, .string (⟨#[13, 10]⟩ : ByteArray)), (45, .pointer (some ⟨b1, 0, none⟩))]) (fun b => [obj b1 (.stringIter s1 (posAt s1 b.2))]) (fun b => b.1) (fuel, 0) h rfl (Sbs.cons rfl (Sbs.cons rfl (Sbs.nil))) (Splits.of [0] kr rfl) ?_
     rintro ⟨n1, m3⟩ h
     cases n1 with
     | zero => exact noneE h
     | succ n1 =>
      obtain ⟨ag1, hag1⟩ : ∃ ag, ag = loopG (fun _ => none) (strings_IndexAny_crlf_s1 s1 j3) n1 := ⟨_, rfl⟩
      have h : strings_IndexAny_crlf_s1 s1 j3 ag1 m3 = some r := by rw [hag1]; exact h
      unfold strings_IndexAny_crlf_s1 at h
      show TC _ _ _ _ _ ([]) _ _ [(1, .string (⟨#[13, 10]⟩ : ByteArray)), (45, .pointer (some ⟨b1, 0, none⟩))] [obj b1 (.stringIter s1 (posAt s1 m3))]
      refine TC.seq (TC.region ?_)
      refine TO.bySplit (b := decide (m3 < (pcs s1.data.toList).length)) (fun hb5 => ?_) (fun hb5 => ?_)
      ·
       have h := condT hb5 h
       obtain ⟨p1, hq2, h⟩ := andE h
       refine TO.nextStr (k := 0) (m := m3) (p := p1) rfl dc rfl rfl hq2 (TO.extract rfl dc rfl rfl (TO.nil (TX.next (TC.seq (TC.condT rfl (TC.skip (TX.next (TC.block (TC.seq (TC.region (TO.extract rfl dc rfl rfl (TO.extract rfl dc rfl rfl (TO.assign rfl dc rfl ?_)))))))))))))
       refine TO.assign rfl dc rfl (TO.nil (TX.next (TC.seq (TC.region (TO.move rfl dc rfl (TO.move rfl dc rfl ?_))))))
       obtain ⟨r2, hq3, h⟩ := andE h
       refine TO.callP (v := .int .i64 r2) (vs := [.string (⟨#[13, 10]⟩ : ByteArray), .int .i32 (p1.r : Int)]) rfl dc rfl rfl rfl en_81 (strings_IndexRune_crlf_fn hq3) (TO.bin rfl dc rfl rfl bin_geq (TO.nil (TX.next ?_)))
       refine TC.condB rfl (fun hb6 => ?_) (fun hb6 => ?_)
       ·
        have h := condT hb6 h
        refine TC.seq (TC.region (TO.move rfl dc rfl (TO.assign rfl dc rfl (TO.nil (TX.next (TC.ret (TX.blockRet (TX.thenRet (TX.blockRet (TX.thenRet ?_))))))))))
        cases h
        exact TX.fin (rs := [.tmp 4]) () (.inl rfl) Tryd.results59 (.cons (.tmp rfl) .nil) rfl Splits.nil
       ·
        have h := condF hb6 h
        refine TC.skip (TX.blockNormal ?_)
        subst hag1
        exact TX.againD (n1, m3 + 1) h (Nat.lt_succ_self _) rfl (Sbs.cons rfl (Sbs.cons rfl (Sbs.nil))) (Splits.of [0] kr rfl)
      ·
       have h := condF hb5 h
       refine TO.nextEnd (k := 0) (m := m3) rfl dc rfl rfl (Nat.le_of_not_lt (of_decide_eq_false hb5)) (TO.extract rfl dc rfl rfl (TO.nil (TX.next (TC.seq (TC.condF rfl (TC.exit (TX.thenExit (TX.thenExit (TX.blockHere ?_)))))))))
       exact TX.meetD () h rfl (Sbs.nil) Splits.nil
    ·
     rintro _ h
     rw [hj3] at h
     show TC _ _ _ _ _ ([]) _ _ [] []
     refine TC.seq (TC.region (TO.assign rfl dc rfl (TO.nil (TX.next (TC.ret ?_)))))
     cases h
     exact TX.fin (rs := [.tmp 4]) () (.inl rfl) Tryd.results59 (.cons (.tmp rfl) .nil) rfl Splits.nil
end Go.Proofs.YtgfkogafkhbgnaaDoor
namespace Go.Proofs.YtgfkogafkhbgnaaDoor
open Go.RowKit Go.Lib

/-- A piece: its rune, its bytes. -/
structure Tok where
  r : Nat
  bs : List UInt8
  deriving DecidableEq
def Tok.broken (t : Tok) : Bool := t.r == 65533 && t.bs.length == 1
/-- A rune's own form. -/
def Tok.valid (t : Tok) : Prop := (t.r < 55296 ∨ (57343 < t.r ∧ t.r ≤ 1114111)) ∧ t.bs = encodeRune t.r
def flat (ts : List Tok) : List UInt8 := ts.flatMap Tok.bs
def toksF : Nat → List UInt8 → List Tok
  | 0, _ => []
  | f + 1, l => if l = [] then [] else ⟨(decodeL l).1, l.take (decodeL l).2⟩ :: toksF f (l.drop (decodeL l).2)
def toks (l : List UInt8) : List Tok := toksF l.length l

theorem flat_cons (t : Tok) (ts : List Tok) : flat (t :: ts) = t.bs ++ flat ts := by simp [flat]
theorem flat_append (a b : List Tok) : flat (a ++ b) = flat a ++ flat b := by simp [flat]
theorem toksF_enough : ∀ (f g : Nat) (l : List UInt8), l.length ≤ f → l.length ≤ g → toksF f l = toksF g l := by
  intro f
  induction f with
  | zero =>
    intro g l h1 h2
    have : l = [] := List.eq_nil_of_length_eq_zero (by omega)
    subst this
    cases g <;> simp [toksF]
  | succ f ih =>
    intro g l h1 h2
    cases g with
    | zero =>
      have : l = [] := List.eq_nil_of_length_eq_zero (by omega)
      subst this
      simp [toksF]
    | succ g =>
      by_cases hl : l = []
      · simp [toksF, hl]
      · simp only [toksF, hl, if_false]
        have := dec_pos l
        have hlen : 0 < l.length := List.length_pos_iff.2 hl
        rw [ih g _ (by simp; omega) (by simp; omega)]
theorem toks_nil : toks [] = [] := by simp [toks, toksF]
theorem toks_cons (l : List UInt8) (h : l ≠ []) : toks l = ⟨(decodeL l).1, l.take (decodeL l).2⟩ :: toks (l.drop (decodeL l).2) := by
  have hlen : 0 < l.length := List.length_pos_iff.2 h
  unfold toks
  obtain ⟨n, hn⟩ : ∃ n, l.length = n + 1 := ⟨l.length - 1, by omega⟩
  rw [hn]
  simp only [toksF, h, if_false]
  have := dec_pos l
  rw [toksF_enough n (l.drop (decodeL l).2).length _ (by simp; omega) (Nat.le_refl _)]
/-- Induction over a text, piece by piece. -/
theorem dec_induction {P : List UInt8 → Prop} (h0 : P []) (h1 : ∀ l, l ≠ [] → P (l.drop (decodeL l).2) → P l) : ∀ l, P l := by
  have key : ∀ (n : Nat) (l : List UInt8), l.length ≤ n → P l := by
    intro n
    induction n with
    | zero => intro l hl; rw [List.eq_nil_of_length_eq_zero (by omega : l.length = 0)]; exact h0
    | succ n ih =>
      intro l hl
      by_cases hn : l = []
      · rw [hn]; exact h0
      · have := dec_pos l
        exact h1 l hn (ih _ (by simp; omega))
  exact fun l => key l.length l (Nat.le_refl _)
theorem bs_ne {t : Tok} (h : t.valid ∨ t.broken = true) : t.bs ≠ [] := by
  rcases h with h | h
  · rw [h.2]; intro e; have := (encodeRune_len (t.r : Int)).1; rw [e] at this; simp at this
  · intro e; unfold Tok.broken at h; rw [e] at h; simp at h

/-- A byte that may go on a form. -/
def contB (b : UInt8) : Bool := b.toNat / 64 == 2
/-- What can't go on a form that stands ahead of it. -/
def Stop : List UInt8 → Prop
  | [] => True
  | b :: _ => contB b = false
theorem decodeN_stop1 {n b0 b1 b2 b3 c1 c2 c3 m : Nat} (h1 : n ≤ 1 ∨ b1 / 64 ≠ 2) (h2 : m ≤ 1 ∨ c1 / 64 ≠ 2) : decodeN n b0 b1 b2 b3 = decodeN m b0 c1 c2 c3 := by
  unfold decodeN
  have e1 : ¬ (1 < n ∧ b1 / 64 = 2) := by omega
  have e2 : ¬ (1 < m ∧ c1 / 64 = 2) := by omega
  simp only [e1, e2, and_false, false_and, if_false]
theorem decodeN_stop2 {n b0 b1 b2 b3 c2 c3 m : Nat} (hn : 1 < n) (hm : 1 < m) (h1 : n ≤ 2 ∨ b2 / 64 ≠ 2) (h2 : m ≤ 2 ∨ c2 / 64 ≠ 2) : decodeN n b0 b1 b2 b3 = decodeN m b0 b1 c2 c3 := by
  unfold decodeN
  have e1 : ¬ (2 < n ∧ b2 / 64 = 2) := by omega
  have e2 : ¬ (2 < m ∧ c2 / 64 = 2) := by omega
  simp only [e1, e2, and_false, false_and, if_false, hn, hm, true_and]
theorem decodeN_stop3 {n b0 b1 b2 b3 c3 m : Nat} (hn : 2 < n) (hm : 2 < m) (h1 : n ≤ 3 ∨ b3 / 64 ≠ 2) (h2 : m ≤ 3 ∨ c3 / 64 ≠ 2) : decodeN n b0 b1 b2 b3 = decodeN m b0 b1 b2 c3 := by
  unfold decodeN
  have e1 : ¬ (3 < n ∧ b3 / 64 = 2) := by omega
  have e2 : ¬ (3 < m ∧ c3 / 64 = 2) := by omega
  have h1n : 1 < n := by omega
  have h1m : 1 < m := by omega
  simp only [e1, e2, and_false, if_false, hn, hm, h1n, h1m, true_and]
theorem decodeN_stop4 {n b0 b1 b2 b3 m : Nat} (hn : 3 < n) (hm : 3 < m) : decodeN n b0 b1 b2 b3 = decodeN m b0 b1 b2 b3 := by
  unfold decodeN
  have h1n : 1 < n := by omega
  have h1m : 1 < m := by omega
  have h2n : 2 < n := by omega
  have h2m : 2 < m := by omega
  simp only [hn, hm, h1n, h1m, h2n, h2m, true_and]
theorem stop_get {x : List UInt8} (h : Stop x) (n : Nat) : n + x.length ≤ n ∨ (x.getD 0 0).toNat / 64 ≠ 2 := by
  cases x with
  | nil => simp
  | cons b x => right; simpa [Stop, contB] using h
/-- What stands behind a stop does not matter. -/
theorem dec_stop (l x : List UInt8) (hl : l ≠ []) (hx : Stop x) : decodeL (l ++ x) = decodeL l := by
  rw [decodeL_N, decodeL_N]
  rcases l with _ | ⟨a, _ | ⟨b, _ | ⟨c, _ | ⟨d, l⟩⟩⟩⟩
  · exact absurd rfl hl
  · refine decodeN_stop1 ?_ (.inl (by simp))
    rcases stop_get hx 1 with h | h
    · left; simp only [List.length_append, List.length_cons, List.length_nil]; omega
    · right; simpa using h
  · refine decodeN_stop2 (by simp) (by simp) ?_ (.inl (by simp))
    rcases stop_get hx 2 with h | h
    · left; simp only [List.length_append, List.length_cons, List.length_nil]; omega
    · right; simpa using h
  · refine decodeN_stop3 (by simp) (by simp) ?_ (.inl (by simp))
    rcases stop_get hx 3 with h | h
    · left; simp only [List.length_append, List.length_cons, List.length_nil]; omega
    · right; simpa using h
  · exact decodeN_stop4 (by simp) (by simp)
theorem toks_append (l x : List UInt8) (hx : Stop x) : toks (l ++ x) = toks l ++ toks x := by
  induction l using dec_induction with
  | h0 => rw [toks_nil]; rfl
  | h1 l hn ih =>
    have hle := dec_le l hn
    have hne : l ++ x ≠ [] := by simp [hn]
    rw [toks_cons _ hne, toks_cons l hn, dec_stop l x hn hx, List.drop_append_of_le_length hle, ih, List.take_append_of_le_length hle]
    rfl

theorem encZ_shape (r : Nat) (hv : r < 55296 ∨ (57343 < r ∧ r ≤ 1114111)) :
    (r ≤ 127 ∧ encodeRuneZ r = [(r : Int)]) ∨ (128 ≤ r ∧ r ≤ 2047 ∧ encodeRuneZ r = [192 + (r : Int) / 64, 128 + (r : Int) % 64]) ∨
    (2048 ≤ r ∧ r ≤ 65535 ∧ encodeRuneZ r = [224 + (r : Int) / 4096, 128 + (r : Int) / 64 % 64, 128 + (r : Int) % 64]) ∨
    (65536 ≤ r ∧ r ≤ 1114111 ∧ encodeRuneZ r = [240 + (r : Int) / 262144, 128 + (r : Int) / 4096 % 64, 128 + (r : Int) / 64 % 64, 128 + (r : Int) % 64]) := by
  by_cases h1 : r ≤ 127
  · exact .inl ⟨h1, encodeRuneZ_one (by omega) (by omega)⟩
  · by_cases h2 : r ≤ 2047
    · exact .inr (.inl ⟨by omega, h2, encodeRuneZ_two (by omega) (by omega)⟩)
    · by_cases h3 : r ≤ 65535
      · exact .inr (.inr (.inl ⟨by omega, h3, encodeRuneZ_three (by omega)⟩))
      · exact .inr (.inr (.inr ⟨by omega, by omega, encodeRuneZ_four (by omega) (by omega)⟩))
theorem u8_toNat (z : Int) (_h0 : 0 ≤ z) (h1 : z < 256) : (z.toNat.toUInt8).toNat = z.toNat := by
  simp; omega
theorem dec_enc (r : Nat) (hv : r < 55296 ∨ (57343 < r ∧ r ≤ 1114111)) (x : List UInt8) : decodeL (encodeRune r ++ x) = (r, (encodeRune r).length) := by
  rw [decodeL_N]
  rcases encZ_shape r hv with ⟨h, e⟩ | ⟨h, h', e⟩ | ⟨h, h', e⟩ | ⟨h, h', e⟩
  · have hl : encodeRune r = [((r : Int).toNat.toUInt8)] := by simp only [encodeRune, e, List.map_cons, List.map_nil]
    rw [hl]
    simp only [List.cons_append, List.nil_append, List.getD_cons_zero, List.length_cons]
    rw [u8_toNat _ (by omega) (by omega)]
    unfold decodeN
    simp only [Int.toNat_natCast]
    rw [if_pos (by omega)]
    simp
  · have hl : encodeRune r = [((192 + (r : Int) / 64).toNat.toUInt8), ((128 + (r : Int) % 64).toNat.toUInt8)] := by simp only [encodeRune, e, List.map_cons, List.map_nil]
    rw [hl]
    simp only [List.cons_append, List.nil_append, List.getD_cons_zero, List.getD_cons_succ, List.length_cons]
    rw [u8_toNat _ (by omega) (by omega), u8_toNat _ (by omega) (by omega)]
    have a1 : (192 + (r : Int) / 64).toNat = 192 + r / 64 := by omega
    have a2 : (128 + (r : Int) % 64).toNat = 128 + r % 64 := by omega
    rw [a1, a2]
    unfold decodeN
    have c1 : ¬ 192 + r / 64 < 128 := by omega
    have c2 : (192 + r / 64) / 32 = 6 := by omega
    have c3 : (128 + r % 64) / 64 = 2 := by omega
    have c4 : (192 + r / 64) % 32 * 64 + (128 + r % 64) % 64 = r := by omega
    have c5 : 128 ≤ r := by omega
    rw [if_neg c1, if_pos ⟨c2, by omega, c3⟩, c4, if_pos c5]
    rfl
  · have hl : encodeRune r = [((224 + (r : Int) / 4096).toNat.toUInt8), ((128 + (r : Int) / 64 % 64).toNat.toUInt8), ((128 + (r : Int) % 64).toNat.toUInt8)] := by simp only [encodeRune, e, List.map_cons, List.map_nil]
    rw [hl]
    simp only [List.cons_append, List.nil_append, List.getD_cons_zero, List.getD_cons_succ, List.length_cons]
    rw [u8_toNat _ (by omega) (by omega), u8_toNat _ (by omega) (by omega), u8_toNat _ (by omega) (by omega)]
    have a1 : (224 + (r : Int) / 4096).toNat = 224 + r / 4096 := by omega
    have a2 : (128 + (r : Int) / 64 % 64).toNat = 128 + r / 64 % 64 := by omega
    have a3 : (128 + (r : Int) % 64).toNat = 128 + r % 64 := by omega
    rw [a1, a2, a3]
    unfold decodeN
    have c1 : ¬ 224 + r / 4096 < 128 := by omega
    have c2 : (224 + r / 4096) / 32 ≠ 6 := by omega
    have c2' : (224 + r / 4096) / 16 = 14 := by omega
    have c3 : (128 + r / 64 % 64) / 64 = 2 := by omega
    have c3' : (128 + r % 64) / 64 = 2 := by omega
    have c4 : (224 + r / 4096) % 16 * 4096 + (128 + r / 64 % 64) % 64 * 64 + (128 + r % 64) % 64 = r := by omega
    have c5 : 2048 ≤ r := by omega
    rw [if_neg c1, if_neg (fun h => c2 h.1), if_pos ⟨c2', ⟨by omega, c3⟩, ⟨by omega, c3'⟩⟩, c4, if_pos ⟨c5, by omega⟩]
    rfl
  · have hl : encodeRune r = [((240 + (r : Int) / 262144).toNat.toUInt8), ((128 + (r : Int) / 4096 % 64).toNat.toUInt8), ((128 + (r : Int) / 64 % 64).toNat.toUInt8), ((128 + (r : Int) % 64).toNat.toUInt8)] := by simp only [encodeRune, e, List.map_cons, List.map_nil]
    rw [hl]
    simp only [List.cons_append, List.nil_append, List.getD_cons_zero, List.getD_cons_succ, List.length_cons]
    rw [u8_toNat _ (by omega) (by omega), u8_toNat _ (by omega) (by omega), u8_toNat _ (by omega) (by omega), u8_toNat _ (by omega) (by omega)]
    have a1 : (240 + (r : Int) / 262144).toNat = 240 + r / 262144 := by omega
    have a2 : (128 + (r : Int) / 4096 % 64).toNat = 128 + r / 4096 % 64 := by omega
    have a2' : (128 + (r : Int) / 64 % 64).toNat = 128 + r / 64 % 64 := by omega
    have a3 : (128 + (r : Int) % 64).toNat = 128 + r % 64 := by omega
    rw [a1, a2, a2', a3]
    unfold decodeN
    have c1 : ¬ 240 + r / 262144 < 128 := by omega
    have c2 : (240 + r / 262144) / 32 ≠ 6 := by omega
    have c2' : (240 + r / 262144) / 16 ≠ 14 := by omega
    have c2'' : (240 + r / 262144) / 8 = 30 := by omega
    have c3 : (128 + r / 4096 % 64) / 64 = 2 := by omega
    have c3' : (128 + r / 64 % 64) / 64 = 2 := by omega
    have c3'' : (128 + r % 64) / 64 = 2 := by omega
    have c4 : (240 + r / 262144) % 8 * 262144 + (128 + r / 4096 % 64) % 64 * 4096 + (128 + r / 64 % 64) % 64 * 64 + (128 + r % 64) % 64 = r := by omega
    have c5 : 65536 ≤ r := by omega
    rw [if_neg c1, if_neg (fun h => c2 h.1), if_neg (fun h => c2' h.1), if_pos ⟨c2'', ⟨by omega, c3⟩, ⟨by omega, c3'⟩, ⟨by omega, c3''⟩⟩, c4, if_pos ⟨c5, by omega⟩]
    rfl
/-- A rune's form stops what stands ahead of it. -/
theorem stop_enc (r : Nat) (hv : r < 55296 ∨ (57343 < r ∧ r ≤ 1114111)) (x : List UInt8) : Stop (encodeRune r ++ x) := by
  rcases encZ_shape r hv with ⟨h, e⟩ | ⟨h, h', e⟩ | ⟨h, h', e⟩ | ⟨h, h', e⟩ <;>
  · simp only [encodeRune, e, List.map_cons, List.map_nil, List.cons_append, Stop, contB, beq_eq_false_iff_ne, ne_eq]
    rw [u8_toNat _ (by omega) (by omega)]
    omega
theorem toks_valid {t : Tok} (h : t.valid) (x : List UInt8) : toks (t.bs ++ x) = t :: toks x := by
  have hne : t.bs ++ x ≠ [] := by simp [bs_ne (.inl h)]
  rw [toks_cons _ hne]
  rw [h.2, dec_enc t.r h.1 x, ← h.2]
  simp
theorem toks_valids {vs : List Tok} (h : ∀ t ∈ vs, t.valid) (x : List UInt8) : toks (flat vs ++ x) = vs ++ toks x := by
  induction vs with
  | nil => rfl
  | cons t vs ih =>
    rw [flat_cons, List.append_assoc, toks_valid (h t (List.mem_cons_self ..)), ih (fun q hq => h q (List.mem_cons_of_mem _ hq))]
    rfl
theorem stop_valids {vs : List Tok} (hne : vs ≠ []) (h : ∀ t ∈ vs, t.valid) (x : List UInt8) : Stop (flat vs ++ x) := by
  cases vs with
  | nil => exact absurd rfl hne
  | cons t vs =>
    have := h t (List.mem_cons_self ..)
    rw [flat_cons, List.append_assoc, this.2]
    exact stop_enc t.r this.1 _

/-- The pieces are their own text's. -/
def Good (ts : List Tok) : Prop := toks (flat ts) = ts
theorem good_tail {t : Tok} {ts : List Tok} (h : Good (t :: ts)) : Good ts := by
  unfold Good at *
  by_cases hn : flat (t :: ts) = []
  · rw [hn, toks_nil] at h; cases h
  · rw [toks_cons _ hn] at h
    have h1 : (⟨(decodeL (flat (t :: ts))).1, (flat (t :: ts)).take (decodeL (flat (t :: ts))).2⟩ : Tok) = t := by injection h
    have h2 : toks ((flat (t :: ts)).drop (decodeL (flat (t :: ts))).2) = ts := by injection h
    have h3 : (flat (t :: ts)).take (decodeL (flat (t :: ts))).2 = t.bs := congrArg Tok.bs h1
    have h4 := List.take_append_drop (decodeL (flat (t :: ts))).2 (flat (t :: ts))
    rw [h3] at h4
    have h5 : (flat (t :: ts)).drop (decodeL (flat (t :: ts))).2 = flat ts := by
      rw [flat_cons] at h4 ⊢
      exact List.append_cancel_left h4
    rw [← h5]; exact h2
theorem good_drop {a ts : List Tok} (h : Good (a ++ ts)) : Good ts := by
  induction a with
  | nil => exact h
  | cons t a ih => exact ih (good_tail h)
/-- Broken bytes stay, valid pieces become other valid ones. -/
inductive Sub : List Tok → List Tok → Prop
  | nil : Sub [] []
  | brk {b : Tok} {ts us : List Tok} : b.broken = true → Sub ts us → Sub (b :: ts) (b :: us)
  | val {gs vs ts us : List Tok} : gs ≠ [] → vs ≠ [] → (∀ t ∈ gs, t.valid) → (∀ t ∈ vs, t.valid) → Sub ts us → Sub (gs ++ ts) (vs ++ us)
theorem Sub.one {t : Tok} {vs ts us : List Tok} (ht : t.valid) (hn : vs ≠ []) (hv : ∀ t ∈ vs, t.valid) (h : Sub ts us) : Sub (t :: ts) (vs ++ us) :=
  Sub.val (gs := [t]) (by simp) hn (by simpa using ht) hv h
/-- How a list that is put in another's place begins. -/
theorem Sub.head {ts us : List Tok} (h : Sub ts us) : ∃ B ts' us', (∀ b ∈ B, b.broken = true) ∧ ts = B ++ ts' ∧ us = B ++ us' ∧ Stop (flat ts') ∧ Stop (flat us') := by
  induction h with
  | nil => exact ⟨[], [], [], by simp, rfl, rfl, trivial, trivial⟩
  | brk hb _ ih =>
    obtain ⟨B, ts', us', h1, rfl, rfl, h4, h5⟩ := ih
    exact ⟨_ :: B, ts', us', by simpa [hb] using h1, rfl, rfl, h4, h5⟩
  | @val gs vs ts us h1 h2 h3 h4 _ ih =>
    exact ⟨[], gs ++ ts, vs ++ us, by simp, rfl, rfl, by rw [flat_append]; exact stop_valids h1 h3 _, by rw [flat_append]; exact stop_valids h2 h4 _⟩
theorem Sub.good {ts us : List Tok} (h : Sub ts us) (hg : Good ts) : Good us := by
  induction h with
  | nil => exact hg
  | @brk b ts us hb hs ih =>
    have ih' := ih (good_tail hg)
    obtain ⟨B, ts', us', h1, rfl, rfl, h4, h5⟩ := hs.head
    unfold Good at *
    have hne : b.bs ≠ [] := bs_ne (.inr hb)
    have e1 : flat (b :: (B ++ ts')) = flat (b :: B) ++ flat ts' := by rw [← List.cons_append, flat_append]
    have e2 : flat (b :: (B ++ us')) = flat (b :: B) ++ flat us' := by rw [← List.cons_append, flat_append]
    rw [e1, toks_append _ _ h4] at hg
    rw [e2, toks_append _ _ h5]
    have g1 : toks (flat ts') = ts' := by
      have := good_drop (a := B) (ts := ts') (by
        have hh : Good (b :: (B ++ ts')) := by unfold Good; rw [e1, toks_append _ _ h4]; exact hg
        exact good_tail hh)
      exact this
    rw [flat_append, toks_append _ _ h5] at ih'
    have g2 : toks (flat us') = us' := good_drop (a := B) (by unfold Good; rw [flat_append, toks_append _ _ h5]; exact ih')
    rw [g1, ← List.cons_append] at hg
    rw [g2, ← List.cons_append]
    rw [List.append_cancel_right hg]
  | @val gs vs ts us h1 h2 h3 h4 _ ih =>
    unfold Good
    rw [flat_append, toks_valids h4, show toks (flat us) = us from ih (good_drop hg)]

/-! ### The pieces with their places -/
def place : Nat → List Tok → List Pc
  | _, [] => []
  | i, t :: ts => ⟨i, t.bs.length, t.r⟩ :: place (i + t.bs.length) ts
end Go.Proofs.YtgfkogafkhbgnaaDoor
namespace Go.Proofs.YtgfkogafkhbgnaaDoor
open Go.RowKit Go.Lib
set_option linter.unusedVariables false
set_option linter.unusedSimpArgs false
section
variable {R S : Type} {c : Prop} [Decidable c] {o x z : Option R} {p : Option S} {f : S → Option R} {b : Bool} {y : Option R}
theorem grdI (h : c) (ho : o = x) : grd c o = x := (grd_pos h).trans ho
theorem thenI {a : S} (h : p = some a) (hf : f a = x) : andThen p f = x := (and_some h).trans hf
theorem condTI (hb : b = true) (h : x = z) : bcond b x y = z := (bcond_T hb).trans h
theorem condFI (hb : b = false) (h : y = z) : bcond b x y = z := (bcond_F hb).trans h
theorem joinI {T : Type} {t : T → Option R} {k : T} (h : t k = x) : joinK t k = x := h
theorem fuel_eq (k : Nat) (h : k ≤ 1000) : ∃ n, fuel = n + k ∧ 18446744073709550000 ≤ n := ⟨18446744073709551616 - k, by unfold fuel; omega, by omega⟩
end
/-- A rune that has a form. -/
def vr (r : Int) : Prop := (0 ≤ r ∧ r < 55296) ∨ (57343 < r ∧ r ≤ 1114111)
instance (r : Int) : Decidable (vr r) := by unfold vr; infer_instance
def wd (r : Int) : Int := if vr r then (if r < 128 then 1 else if r < 2048 then 2 else if r < 65536 then 3 else 4) else 0
theorem u8w (x : Int) (h : 0 ≤ x ∧ x ≤ 255) : IntKind.u8.wrap x = x := IntWalk.u8_in x h
end Go.Proofs.YtgfkogafkhbgnaaDoor
namespace Go.Proofs.YtgfkogafkhbgnaaDoor
open Go.RowKit Go.Lib
set_option linter.unusedVariables false
set_option linter.unusedSimpArgs false
section
variable {R X A B : Type} {xs : List X}
end
end Go.Proofs.YtgfkogafkhbgnaaDoor
namespace Go.Proofs.YtgfkogafkhbgnaaDoor
open Go.RowKit Go.Lib Go.Shelf
set_option linter.unusedVariables false
set_option linter.unusedSimpArgs false
/-- Where a rune is among the two. -/
def idxE (r : Int) : Int := if r = 13 then 0 else if r = 10 then 1 else -1
theorem idx_ascii : ∀ n : Nat, n < 128 → Lib.indexByte [13, 10] (n : Int).toNat.toUInt8 = idxE (n : Int) := by decide +kernel
theorem crlf_pcs : pcs (⟨#[13, 10]⟩ : ByteArray).data.toList = [⟨0, 1, 13⟩, ⟨1, 1, 10⟩] := by decide +kernel
theorem lost_loop (j : Option Int) : loopG (fun _ => none) (strings_IndexRune_crlf_s1 j) fuel 0 = j := by
  obtain ⟨n, hn, _⟩ := fuel_eq 3 (by decide)
  rw [hn]
  rw [show n + 3 = n + 2 + 1 from rfl, loopG_succ]
  unfold strings_IndexRune_crlf_s1
  rw [crlf_pcs]
  refine condTI rfl (thenI rfl (condFI (by decide) ?_))
  rw [show n + 2 = n + 1 + 1 from rfl, loopG_succ]
  refine condTI rfl (thenI rfl (condFI (by decide) ?_))
  rw [loopG_succ]
  exact condFI rfl rfl
theorem enc_big (r : Nat) (hv : r < 55296 ∨ (57343 < r ∧ r ≤ 1114111)) (h : 128 ≤ r) : 2 ≤ (encodeRune (r : Int)).length ∧ (encodeRune (r : Int)).length ≤ 4 ∧ ∀ x ∈ encodeRune (r : Int), 128 ≤ x.toNat := by
  unfold encodeRune
  rcases encZ_shape r hv with ⟨h1, _⟩ | ⟨h1, h2, e⟩ | ⟨h1, h2, e⟩ | ⟨h1, h2, e⟩
  · omega
  all_goals
    rw [e]
    refine ⟨by simp, by simp, fun x hx => ?_⟩
    simp only [List.map_cons, List.map_nil, List.mem_cons, List.not_mem_nil, or_false] at hx
  · rcases hx with rfl | rfl <;> rw [u8_toNat _ (by omega) (by omega)] <;> omega
  · rcases hx with rfl | rfl | rfl <;> rw [u8_toNat _ (by omega) (by omega)] <;> omega
  · rcases hx with rfl | rfl | rfl | rfl <;> rw [u8_toNat _ (by omega) (by omega)] <;> omega
theorem enc_one (r : Nat) (h : r < 128) : encodeRune (r : Int) = [r.toUInt8] := by
  unfold encodeRune; rw [encodeRuneZ_one (by omega) (by omega)]; simp
theorem getB_all {e : ByteArray} (h2 : ∀ x ∈ e.data.toList, 128 ≤ x.toNat) {i : Int} (h0 : 0 ≤ i) (hi : i < (e.size : Int)) : ∃ c, getB e i = some c ∧ 128 ≤ c := by
  obtain ⟨n, rfl⟩ : ∃ n : Nat, i = n := ⟨i.toNat, by omega⟩
  have hn : n < e.size := by omega
  refine ⟨((e[n]'hn).toNat : Int), getB_of rfl hn, ?_⟩
  have h3 : 128 ≤ (e[n]'hn).toNat := h2 _ (Array.mem_toList_iff.2 (Array.getElem_mem hn))
  omega
theorem getB_enc {r : Nat} (hv : r < 55296 ∨ (57343 < r ∧ r ≤ 1114111)) (h : 128 ≤ r) {i : Int} (h0 : 0 ≤ i) (hi : i < ((Utf8.encode (r : Int)).size : Int)) : ∃ c, getB (Utf8.encode (r : Int)) i = some c ∧ 128 ≤ c :=
  getB_all (by rw [encode_list]; exact (enc_big r hv h).2.2) h0 hi
theorem irune_v (r : Nat) (hv : r < 55296 ∨ (57343 < r ∧ r ≤ 1114111)) : strings_IndexRune_crlf_v (r : Int) = some (idxE (r : Int)) := by
  unfold strings_IndexRune_crlf_v
  refine condTI (decide_eq_true (by omega)) ?_
  by_cases h1 : r < 128
  · refine condTI (decide_eq_true (by omega)) ?_
    rw [u8w _ (by omega)]
    exact congrArg some (idx_ascii r h1)
  · have he : idxE (r : Int) = -1 := by unfold idxE; rw [if_neg (by omega), if_neg (by omega)]
    rw [he]
    refine condFI (decide_eq_false (by omega)) ?_
    by_cases h2 : r = 65533
    · refine condTI (beq_iff_eq.2 (by omega)) (joinI ?_)
      exact lost_loop _
    · refine condFI (beq_eq_false_iff_ne.2 (by omega)) ?_
      have hval : Lib.validRune (r : Int) = true := by
        unfold Lib.validRune; simp; omega
      refine condFI (by rw [hval]; rfl) (joinI ?_)
      obtain ⟨hs2, hs4, _⟩ := enc_big r hv (by omega)
      rw [← encode_size] at hs2 hs4
      refine grdI ⟨by omega, by omega⟩ ?_
      obtain ⟨n, hn, _⟩ := fuel_eq 1 (by decide)
      rw [hn, loopG_succ]
      unfold strings_IndexRune_crlf_s2
      have hz : ((⟨#[13, 10]⟩ : ByteArray).size : Int) = 2 := rfl
      by_cases h3 : (Utf8.encode (r : Int)).size = 2
      · refine condTI (decide_eq_true (by rw [hz]; omega)) (joinI ?_)
        obtain ⟨c, hc, hc128⟩ := getB_enc hv (by omega) (i := ((Utf8.encode (r : Int)).size : Int) - 1) (by omega) (by omega)
        refine thenI (a := 10) (by rw [h3]; rfl) (thenI hc (condTI (bne_iff_ne.2 (by omega)) ?_))
        refine grdI ⟨by omega, by omega⟩ (grdI ⟨by omega, by rw [hz]; omega, Int.le_refl _⟩ (thenI hc (condTI ?_ rfl)))
        have : (cutB (⟨#[13, 10]⟩ : ByteArray) (((Utf8.encode (r : Int)).size : Int) - 1 + 1) ((⟨#[13, 10]⟩ : ByteArray).size : Int)).data.toList = [] := by rw [h3]; decide +kernel
        rw [this]
        rfl
      · refine condFI (decide_eq_false (by rw [hz]; omega)) rfl
/-- Does a text hold one of the two? -/
def isE (b : UInt8) : Bool := b == 13 || b == 10
def anyEnd (s : ByteArray) : Bool := s.data.toList.any isE
theorem isE_big {b : UInt8} (h : 128 ≤ b.toNat) : isE b = false := by
  unfold isE
  have h1 : (b == 13) = false := beq_eq_false_iff_ne.2 (by rintro rfl; exact absurd h (by decide))
  have h2 : (b == 10) = false := beq_eq_false_iff_ne.2 (by rintro rfl; exact absurd h (by decide))
  rw [h1, h2]; rfl
theorem idxE_hit (r : Int) : decide (0 ≤ idxE r) = (decide (r = 13) || decide (r = 10)) := by
  unfold idxE
  by_cases h1 : r = 13
  · subst h1; rfl
  · by_cases h2 : r = 10
    · subst h2; rfl
    · rw [if_neg h1, if_neg h2]; simp [h1, h2]
theorem piece_hit (l : List UInt8) (h : l ≠ []) : decide (0 ≤ idxE ((decodeL l).1 : Int)) = (l.take (decodeL l).2).any isE := by
  rw [idxE_hit]
  obtain ⟨b, t, rfl⟩ := List.exists_cons_of_ne_nil h
  by_cases hb : b.toNat < 128
  · rw [decodeL_ascii b t hb]
    simp only [List.take_succ_cons, List.take_zero, List.any_cons, List.any_nil, Bool.or_false]
    unfold isE
    congr 1
    · rw [Bool.eq_iff_iff, decide_eq_true_iff, beq_iff_eq]
      exact ⟨fun h => UInt8.toNat.inj (by show b.toNat = 13; omega), fun h => by subst h; rfl⟩
    · rw [Bool.eq_iff_iff, decide_eq_true_iff, beq_iff_eq]
      exact ⟨fun h => UInt8.toNat.inj (by show b.toNat = 10; omega), fun h => by subst h; rfl⟩
  · have hd := decOk (b :: t) (by simp)
    generalize (decodeL (b :: t)).1 = r at hd ⊢
    generalize (decodeL (b :: t)).2 = w at hd ⊢
    obtain ⟨w, rfl⟩ : ∃ v, w = v + 1 := ⟨w - 1, by have := hd.pos; omega⟩
    have hall : 128 ≤ r ∧ ∀ x ∈ (b :: t).take (w + 1), 128 ≤ x.toNat := by
      by_cases hbr : r = 65533 ∧ w + 1 = 1
      · obtain ⟨rfl, hw⟩ := hbr
        obtain rfl : w = 0 := by omega
        refine ⟨by omega, fun x hx => ?_⟩
        simp at hx; subst hx; omega
      · have he := hd.bytes hbr
        have hr : 128 ≤ r := by
          rcases Nat.lt_or_ge r 128 with h1 | h1
          · rw [enc_one r h1, List.take_succ_cons] at he
            have h2 : r.toUInt8 = b := (List.cons.inj he).1
            have h3 : b.toNat = r := by rw [← h2]; simp; omega
            omega
          · exact h1
        refine ⟨hr, ?_⟩
        rw [← he]
        exact (enc_big r hd.valid hr).2.2
    rw [decide_eq_false (show ¬ (r : Int) = 13 by omega), decide_eq_false (show ¬ (r : Int) = 10 by omega)]
    symm
    rw [Bool.or_false, List.any_eq_false]
    intro x hx
    rw [isE_big (hall.2 x hx)]
    decide
theorem short_loop (s : ByteArray) (j : Option Int) : ∀ (n m : Nat), (pcs s.data.toList).length - m < n → (∀ p ∈ pcs s.data.toList, strings_IndexRune_crlf_v (p.r : Int) = some (idxE (p.r : Int))) →
    ∃ x : Option Int, loopG (fun _ => none) (strings_IndexAny_crlf_s1 s j) n m = x ∧ ((((pcs s.data.toList).drop m).any (fun p => decide (0 ≤ idxE (p.r : Int))) = true ∧ ∃ k : Nat, x = some (k : Int)) ∨ (((pcs s.data.toList).drop m).any (fun p => decide (0 ≤ idxE (p.r : Int))) = false ∧ x = j)) := by
  intro n
  induction n with
  | zero => intro m h; omega
  | succ n ih =>
    intro m hm hp
    rw [loopG_succ]
    rcases Nat.lt_or_ge m (pcs s.data.toList).length with h1 | h1
    · obtain ⟨p, hq⟩ : ∃ p, (pcs s.data.toList)[m]? = some p := ⟨_, List.getElem?_eq_getElem h1⟩
      have hd : (pcs s.data.toList).drop m = p :: (pcs s.data.toList).drop (m + 1) := by
        rw [List.drop_eq_getElem_cons h1]; congr 1
        rw [List.getElem?_eq_getElem h1] at hq; exact Option.some.inj hq
      rw [hd, List.any_cons]
      cases hh : decide (0 ≤ idxE (p.r : Int)) with
      | true =>
        refine ⟨some (p.i : Int), ?_, .inl ⟨rfl, p.i, rfl⟩⟩
        unfold strings_IndexAny_crlf_s1
        exact condTI (decide_eq_true h1) (thenI hq (thenI (hp p (List.mem_of_getElem? hq)) (condTI hh rfl)))
      | false =>
        obtain ⟨x, hx, h3⟩ := ih (m + 1) (by omega) hp
        refine ⟨x, ?_, by rw [Bool.false_or]; exact h3⟩
        conv => lhs; unfold strings_IndexAny_crlf_s1
        refine condTI (decide_eq_true h1) (thenI hq (thenI (hp p (List.mem_of_getElem? hq)) (condFI hh hx)))
    · rw [List.drop_eq_nil_of_le h1]
      refine ⟨j, ?_, .inr ⟨rfl, rfl⟩⟩
      unfold strings_IndexAny_crlf_s1
      exact condFI (decide_eq_false (by omega)) rfl
theorem pcsFrom_any : ∀ (n : Nat) (l : List UInt8) (i : Nat), l.length ≤ n → (pcsFrom i l).any (fun p => decide (0 ≤ idxE (p.r : Int))) = l.any isE
  | 0, l, i, h => by
    obtain rfl : l = [] := List.length_eq_zero_iff.1 (by omega)
    rw [pcsFrom_nil]; rfl
  | n + 1, l, i, h => by
    by_cases hl : l = []
    · subst hl; rw [pcsFrom_nil]; rfl
    · have hw := dec_pos l
      have hle := dec_le l hl
      rw [pcsFrom_cons i l hl, List.any_cons, pcsFrom_any n _ _ (by rw [List.length_drop]; omega)]
      show (decide (0 ≤ idxE ((decodeL l).1 : Int)) || _) = _
      rw [piece_hit l hl, ← List.any_append, List.take_append_drop]
theorem pcsFrom_len : ∀ (n : Nat) (l : List UInt8) (i : Nat), l.length ≤ n → (pcsFrom i l).length ≤ l.length
  | 0, l, i, h => by
    obtain rfl : l = [] := List.length_eq_zero_iff.1 (by omega)
    rw [pcsFrom_nil]; exact Nat.le_refl _
  | n + 1, l, i, h => by
    by_cases hl : l = []
    · subst hl; rw [pcsFrom_nil]; exact Nat.le_refl _
    · have hw := dec_pos l
      have hle := dec_le l hl
      rw [pcsFrom_cons i l hl, List.length_cons]
      have := pcsFrom_len n (l.drop (decodeL l).2) (i + (decodeL l).2) (by rw [List.length_drop]; omega)
      rw [List.length_drop] at this
      omega
theorem pcs_valid (l : List UInt8) : ∀ p ∈ pcs l, p.r < 55296 ∨ (57343 < p.r ∧ p.r ≤ 1114111) := by
  have key : ∀ (n : Nat) (l : List UInt8) (i : Nat), l.length ≤ n → ∀ p ∈ pcsFrom i l, p.r < 55296 ∨ (57343 < p.r ∧ p.r ≤ 1114111) := by
    intro n
    induction n with
    | zero =>
      intro l i h p hp
      obtain rfl : l = [] := List.length_eq_zero_iff.1 (by omega)
      rw [pcsFrom_nil] at hp; cases hp
    | succ n ih =>
      intro l i h p hp
      by_cases hl : l = []
      · subst hl; rw [pcsFrom_nil] at hp; cases hp
      · have hw := dec_pos l
        have hle := dec_le l hl
        rw [pcsFrom_cons i l hl] at hp
        rcases List.mem_cons.1 hp with rfl | hp
        · exact dec_valid l
        · exact ih _ _ (by rw [List.length_drop]; omega) p hp
  exact key _ l 0 (Nat.le_refl _)
theorem iany_v (s : ByteArray) (h8 : s.size ≤ 8) : ∃ r, strings_IndexAny_crlf_v s = some r ∧ decide (0 ≤ r) = anyEnd s := by
  unfold strings_IndexAny_crlf_v
  obtain ⟨x, hx, h⟩ := short_loop s (some (-1)) fuel 0 (by
    have := pcsFrom_len s.data.toList.length s.data.toList 0 (Nat.le_refl _)
    have h2 : s.data.toList.length = s.size := by rw [Array.length_toList]; rfl
    have h3 : (pcs s.data.toList).length ≤ s.data.toList.length := this
    have h4 : (9 : Nat) < fuel := by unfold fuel; omega
    omega) (fun p hp => irune_v p.r (pcs_valid _ p hp))
  have hany := pcsFrom_any s.data.toList.length s.data.toList 0 (Nat.le_refl _)
  rw [List.drop_zero] at h
  have e : ∀ r, x = some r → bcond (decide ((⟨#[13, 10]⟩ : ByteArray) = (⟨#[]⟩ : ByteArray))) (some (-1)) (bcond ((((⟨#[13, 10]⟩ : ByteArray).size : Int) : Int) == 1) (joinK (fun (j1 : Int → Option Int) => andThen (getB (⟨#[13, 10]⟩ : ByteArray) 0) fun (c1 : Int) => grd (I32 c1) <| bcond (decide ((128 : Int) ≤ c1)) (j1 65533) (j1 c1)) (fun (r1 : Int) => none)) (joinK (fun (j2 : Option Int) => bcond (decide (8 < ((s.size : Int) : Int))) (none) (j2)) (joinK (fun (j3 : Option Int) => loopG (fun _ => none) (strings_IndexAny_crlf_s1 s j3) fuel 0) (some (-1))))) = some r := fun r hr =>
    condFI (by decide) (condFI (by decide) (joinI (condFI (decide_eq_false (by omega)) (joinI (hx.trans hr)))))
  rcases h with ⟨h1, k, rfl⟩ | ⟨h1, rfl⟩
  · exact ⟨(k : Int), e _ rfl, by rw [decide_eq_true (by omega)]; exact (hany.symm.trans h1).symm⟩
  · exact ⟨-1, e _ rfl, by rw [decide_eq_false (by omega)]; exact (hany.symm.trans h1).symm⟩
def iaV (s : ByteArray) : Int := if 8 < s.size then Lib.indexAny s.data.toList [13, 10] else (strings_IndexAny_crlf_v s).getD 0
theorem iany_p (s : ByteArray) (h : s.size ≤ 4294967280) : FnP Tryd.prog 59 [.string s, .string (⟨#[13, 10]⟩ : ByteArray)] (.int .i64 (iaV s)) := by
  unfold iaV
  split
  · rename_i h8; exact ialong_p s h8 (by omega)
  · rename_i h8
    obtain ⟨r, hr, _⟩ := iany_v s (by omega)
    rw [hr]
    exact strings_IndexAny_crlf_fn hr
theorem ia_hit (s : ByteArray) : decide (0 ≤ iaV s) = anyEnd s := by
  unfold iaV
  split
  · rename_i h8
    unfold anyEnd
    generalize s.data.toList = l
    induction l with
    | nil => rfl
    | cons b l ih =>
      have hge := Lib.indexAny_ge [13, 10] l
      have hc : ([13, 10] : List UInt8).contains b = isE b := by unfold isE; simp only [List.contains_cons, List.contains_nil, Bool.or_false]
      rw [Lib.indexAny, hc, List.any_cons]
      cases hb : isE b with
      | true => rfl
      | false =>
        rw [Bool.false_or, ← ih, if_neg (by decide)]
        split
        · rename_i h2; rw [beq_iff_eq.1 h2]
        · rename_i h2
          have h3 : Lib.indexAny l [13, 10] ≠ -1 := fun e => h2 (by rw [e]; rfl)
          rw [decide_eq_true (by omega), decide_eq_true (by omega)]
  · rename_i h8
    obtain ⟨r, hr, h1⟩ := iany_v s (by omega)
    rw [hr]; exact h1
end Go.Proofs.YtgfkogafkhbgnaaDoor
namespace Go.Proofs.YtgfkogafkhbgnaaDoor
open Go.RowKit Go.Lib
set_option linter.unusedVariables false
set_option linter.unusedSimpArgs false
/-- They hold at the world w, on blocks that are none of K. -/
def Rd (w : World) (K : Nat → Prop) (RD : List Asn) : Prop := ∀ A ∈ RD, ∃ C, A.P C w ∧ ∀ k, C k → ¬ K k
theorem Rd.nil {w : World} {K : Nat → Prop} : Rd w K [] := fun A h => by cases h
theorem Rd.ext {w0 w : World} {K C : Nat → Prop} {RD : List Asn} (h : Rd w0 K RD) (hx : Ext K C w0 w) : Rd w C RD := fun A hA => by
  obtain ⟨D, h1, h2⟩ := h A hA
  have hlt := A.lt h1
  refine ⟨D, A.loc h1 hx.1.size (fun k hk => hx.1.keep k (hlt k hk) (h2 k hk)), fun k hk hc => ?_⟩
  rcases hx.2 k hc with h | h
  · exact h2 k hk h
  · have := hlt k hk; omega
theorem Rd.append {w : World} {K : Nat → Prop} {A B : List Asn} (h1 : Rd w K A) (h2 : Rd w K B) : Rd w K (A ++ B) := fun X hX => by
  rcases List.mem_append.1 hX with h | h
  · exact h1 X h
  · exact h2 X h
theorem Rd.at {w0 w : World} {K : Nat → Prop} {L RD : List Asn} {A : Asn} {i : Nat} (h : Rd w0 K RD) (hw : Holds w0 K L w) (hi : RD[i]? = some A) : ∃ C, A.P C w := by
  obtain ⟨C, _, hx⟩ := hw
  obtain ⟨D, h1, _⟩ := h.ext hx A (List.mem_of_getElem? hi)
  exact ⟨D, h1⟩
/-- What follows of read-only assertions. -/
theorem Rd.more {w : World} {K : Nat → Prop} {RD As : List Asn} {A : Asn} {i : Nat} (h : Rd w K RD) (hi : RD[i]? = some A) (hE : ∀ C, A.P C w → ∀ B ∈ As, ∃ D, B.P D w ∧ ∀ k, D k → C k) : Rd w K (RD ++ As) := by
  refine h.append fun B hB => ?_
  obtain ⟨C, h1, h2⟩ := h A (List.mem_of_getElem? hi)
  obtain ⟨D, h3, h4⟩ := hE C h1 B hB
  exact ⟨D, h3, fun k hk => h2 k (h4 k hk)⟩
theorem sepL.each {w : World} : ∀ {L : List Asn} {C : Nat → Prop}, sepL L C w → ∀ B ∈ L, ∃ D, B.P D w ∧ ∀ k, D k → C k
  | [], _, _, B, hB => by cases hB
  | A :: L, C, ⟨C1, C2, h1, h2, h3, h4⟩, B, hB => by
    rcases List.mem_cons.1 hB with rfl | hB
    · exact ⟨C1, h1, fun k hk => (h4 k).2 (.inl hk)⟩
    · obtain ⟨D, g1, g2⟩ := sepL.each h2 B hB
      exact ⟨D, g1, fun k hk => (h4 k).2 (.inr (g2 k hk))⟩
/-- Where read-only assertions come from: entries of one's own (R), or read-only ones (RD0). -/
inductive RdS (R RD0 : List Asn) : List Asn → Prop
  | nil : RdS R RD0 []
  | own {A : Asn} {As R' RD : List Asn} (hs : Splits R As R') (hE : ∀ C w, sepL As C w → A.P C w) (h : RdS R RD0 RD) : RdS R RD0 (A :: RD)
  | ro {A : Asn} {RD : List Asn} (i : Nat) (hi : RD0[i]? = some A) (h : RdS R RD0 RD) : RdS R RD0 (A :: RD)
theorem RdS.rd {w0 w : World} {K C1 C2 : Nat → Prop} {R RD0 RD : List Asn} (h : RdS R RD0 RD) (hR : sepL R C2 w) (hd : ∀ k, C1 k → ¬ C2 k) (h0 : Rd w C1 RD0) : Rd w C1 RD := by
  induction h with
  | nil => exact Rd.nil
  | @own A As R' RD hs hE h ih =>
    intro B hB
    rcases List.mem_cons.1 hB with rfl | hB
    · obtain ⟨D1, D2, g1, g2, g3, g4⟩ := hs C2 w hR
      exact ⟨D1, hE D1 w g1, fun k hk hc => hd k hc ((g4 k).2 (.inl hk))⟩
    · exact ih B hB
  | @ro A RD i hi h ih =>
    intro B hB
    rcases List.mem_cons.1 hB with rfl | hB
    · exact h0 _ (List.mem_of_getElem? hi)
    · exact ih B hB
/-- The contract of a function that reads RD. -/
def FnR (P : Program) (f : FuncId) (vs : List Value) (RD As : List Asn) {β : Type} (V : β → Value) (Bs : β → List Asn) : Prop :=
  ∀ w C, Rd w C RD → FnW P f vs As V Bs w C
section
variable {F : Fence} {P : Program} {w0 : World} {K : Nat → Prop} {N : Nat} {dfs : List Deferred} {ops : Array Oper} {Q : Exit → Act → World → Prop} {rest : List Oper} {σ σ' : List (Nat × Value)} {L L' R As Bs : List Asn} {o : Oper} {v : Value}
  {d : Nat} {t : TypeId} {op : Op} {ty : TypeId} {pos : String} {aft : Array Edge} {g : Option (Nat × Bool)} {x y z : Operand} {c c1 c2 : Code} {k : Nat} {A B : Asn} {RO : List (Nat × Obj)} {RD RD0 : List Asn} {e : TypeId} {ex : Exit}
theorem FnR.intro {f : FuncId} {fn : Func} {vs : List Value} {β : Type} {V : β → Value} {Bs : β → List Asn} (hf : P.funcs[f]? = some fn) (hb : fn.body = some c) (hn : fn.ntmps = N) (hN : vs.length ≤ N)
    (h : ∀ w0 K, Rd w0 K RD → TC Fence.wide P w0 K N [] (bodyPostM Fence.wide 0 P fn (FR P V Bs w0 K)) c (argSlots vs) As) : FnR P f vs RD As V Bs :=
  fun w C hR => FnW.intro hf hb hn hN (h w C hR)
theorem TO.callAnyR [WideF F] {xs : List Operand} {ats : Array TypeId} {f : FuncId} {first cap : Array Value} {vs vs' : List Value} {β : Type} {V : β → Value} {Bs : β → List Asn} {dst : Option Nat} (hRd : Rd w0 K RD0)
    (hg : gd ops σ g = some true) (hx : ev σ x = some (.func (.func f) first cap)) (hxs : evL σ xs = some vs) (hv : first.toList ++ vs ++ cap.toList = vs')
    (hent : ∀ args w, (callFunc f args).run P w = .ok (.enter f args) w) (hF : FnR P f vs' RD As V Bs) (hs : Splits L As R) (hS : RdS R RD0 RD)
    (h : ∀ b a w a', a' = a.put dst (V b) → At N dfs σ a → Holds w0 K (R ++ Bs b) w → wpListIn F 0 P ops Q rest a' w) :
    TO F P w0 K N dfs ops Q (⟨dst, .call { callee := .value x, args := xs.toArray, argTypes := ats }, ty, pos, aft, g⟩ :: rest) σ L := by
  intro a w ha hw
  simp only [wpListIn, gd_wanted (o := ⟨dst, .call { callee := .value x, args := xs.toArray, argTypes := ats }, ty, pos, aft, g⟩) ha hg, if_true]
  refine ⟨fun f _ => WideF.fn f, ?_⟩
  have h1 : (execOp a.eval ⟨dst, .call { callee := .value x, args := xs.toArray, argTypes := ats }, ty, pos, aft, g⟩).run P w = .ok (.enter f vs'.toArray) w := by
    have e : first ++ vs.toArray ++ cap = vs'.toArray := by rw [← hv]; simp
    simp only [execOp, resolve, List.map_toArray, ha.evL hxs, ha.ev hx, Deferred.ofValue, Sem.run_bind, Sem.run_pure, Result.andThen_ok, invoke, e, hent]
  rw [Oper.semAt_plain F _ _ (by simp), h1]
  refine ⟨(fun h => by rw [WideF.depth (F := F)] at h; cases h), ?_⟩
  obtain ⟨C1, C2, hA, g2, g3, hx0, hstep⟩ := hw.split2 hs
  have hRd1 : Rd w C1 RD0 := hRd.ext hx0
  refine WideF.calls ((hF w C1 (hS.rd (w0 := w0) (K := K) g2 g3 hRd1) hA).mono ?_)
  rintro e w' ⟨b, rfl, C', hB, hx'⟩
  exact h b a w' _ rfl ha (hstep _ _ _ hx' hB)
theorem TO.callR [WideF F] {xs : List Operand} {ats : Array TypeId} {f : FuncId} {first cap : Array Value} {vs vs' : List Value} {β : Type} {V : β → Value} {Bs : β → List Asn} (hRd : Rd w0 K RD0)
    (hg : gd ops σ g = some true) (hd : d < N) (hx : ev σ x = some (.func (.func f) first cap)) (hxs : evL σ xs = some vs) (hv : first.toList ++ vs ++ cap.toList = vs')
    (hent : ∀ args w, (callFunc f args).run P w = .ok (.enter f args) w) (hF : FnR P f vs' RD As V Bs) (hs : Splits L As R) (hS : RdS R RD0 RD)
    (h : ∀ b, TO F P w0 K N dfs ops Q rest ((d, V b) :: σ) (R ++ Bs b)) :
    TO F P w0 K N dfs ops Q (⟨some d, .call { callee := .value x, args := xs.toArray, argTypes := ats }, ty, pos, aft, g⟩ :: rest) σ L :=
  TO.callAnyR hRd hg hx hxs hv hent hF hs hS fun b a w a' ha' ha hw => by subst ha'; exact h b _ _ (ha.put hd _) hw
/-- A call that gives a plain value: the entries stay as they are. -/
theorem TO.callPR [WideF F] {xs : List Operand} {ats : Array TypeId} {f : FuncId} {first cap : Array Value} {vs vs' : List Value} (hRd : Rd w0 K RD0)
    (hg : gd ops σ g = some true) (hd : d < N) (hx : ev σ x = some (.func (.func f) first cap)) (hxs : evL σ xs = some vs) (hv : first.toList ++ vs ++ cap.toList = vs')
    (hent : ∀ args w, (callFunc f args).run P w = .ok (.enter f args) w) (hF : FnR P f vs' RD [] (fun _ : Unit => v) (fun _ => [])) (hS : RdS L RD0 RD)
    (h : TO F P w0 K N dfs ops Q rest ((d, v) :: σ) L) :
    TO F P w0 K N dfs ops Q (⟨some d, .call { callee := .value x, args := xs.toArray, argTypes := ats }, ty, pos, aft, g⟩ :: rest) σ L :=
  TO.callAnyR hRd hg hx hxs hv hent hF Splits.nil hS fun b a w a' ha' ha hw => by
    subst ha'
    rw [List.append_nil] at hw
    exact h _ _ (ha.put hd _) hw
/-! ### Reading -/
section
variable {i : Nat}
theorem TO.loadRd [WideF F] {b j : Nat} {l : List Value} {e : TypeId} (hr : Rd w0 K RD) (hi : RD[i]? = some (cells b l e)) (hT : ScalarOk P t) (hg : gd ops σ g = some true) (hd : d < N) (hx : ev σ x = some (.pointer (some ⟨b, j, none⟩))) (hj : l[j]? = some v)
    (h : TO F P w0 K N dfs ops Q rest ((d, v) :: σ) L) : TO F P w0 K N dfs ops Q (⟨some d, .load t x, ty, pos, aft, g⟩ :: rest) σ L := by
  obtain ⟨dd, hu, hrow⟩ := hT
  exact TO.val hg hd (by simp) (fun a w ha hw => by
    obtain ⟨C, hC⟩ := hr.at hw hi
    have hc : w.cell? ⟨b, j, none⟩ = some v := cell_at hC.2 (by simpa using hj)
    cases dd <;> simp_all [execOp, ha.ev hx, Instr.loadAt, Instr.sureAddr, loadVar, isAgg, Sem.run_bind, run_underlying hu]) h
variable {α : Type} {enc : α → List Value} {size : Nat} {vv : Value} {xs : List α}
theorem vec_capR {w : World} {C : Nat → Prop} (h : (vec enc e size vv xs).P C w) : Vw vv xs size 0 vv xs := by
  have hw : Holds w (fun _ => False) [vec enc e size vv xs] w → Vw vv xs size 0 vv xs := fun hh => vec_cap (k := 0) hh rfl
  have : Holds w C [vec enc e size vv xs] w := ⟨C, sepL.one h, Ext.refl _ _⟩
  exact vec_cap (k := 0) this rfl
theorem Rd.vw {w : World} (hr : Rd w K RD) (hi : RD[i]? = some (vec enc e size vv xs)) : Vw vv xs size 0 vv xs := by
  obtain ⟨C, hC, _⟩ := hr _ (List.mem_of_getElem? hi)
  exact vec_capR hC
theorem TO.loadVecRd [WideF F] {n j off : Nat} {q : α} (hr : Rd w0 K RD) (hi : RD[i]? = some (vec enc e size vv xs)) (hT : ScalarOk P t) (hz : ∀ x, (enc x).length = size) (hg : gd ops σ g = some true) (hd : d < N) (hx : ev σ x = some (.pointer (some ⟨vblk vv, off, none⟩)))
    (hq : xs[n]? = some q) (ho : off = n * size + j) (hj : j < size) (hv : (enc q)[j]? = some v) (h : TO F P w0 K N dfs ops Q rest ((d, v) :: σ) L) :
    TO F P w0 K N dfs ops Q (⟨some d, .load t x, ty, pos, aft, g⟩ :: rest) σ L := by
  subst ho
  obtain ⟨dd, hu, hr'⟩ := hT
  refine TO.val hg hd (by simp) (fun a w ha hw => ?_) h
  obtain ⟨C, hC⟩ := hr.at hw hi
  have hV : Vec enc e size vv xs C w := hC
  have hc := hV.cellAt hz hq hj hv
  have h1 := ha.ev hx
  cases dd <;> simp_all [execOp, Instr.loadAt, Instr.sureAddr, loadVar, isAgg, Sem.run_bind, run_underlying hu]
theorem TO.loadsVecRd [WideF F] {m j off n : Nat} {q : α} {cs : List Value} (hr : Rd w0 K RD) (hi : RD[i]? = some (vec enc e size vv xs)) (hT : RowOk P t n) (hz : ∀ x, (enc x).length = size) (hg : gd ops σ g = some true) (hd : d < N) (hx : ev σ x = some (.pointer (some ⟨vblk vv, off, none⟩)))
    (hq : xs[m]? = some q) (ho : off = m * size + j) (hcs : ((enc q).drop j).take n = cs) (hn : cs.length = n)
    (h : TO F P w0 K N dfs ops Q rest ((d, .agg cs.toArray) :: σ) L) : TO F P w0 K N dfs ops Q (⟨some d, .load t x, ty, pos, aft, g⟩ :: rest) σ L := by
  subst ho; subst hn
  obtain ⟨dd, hu, hr', hi'⟩ := hT
  refine TO.val hg hd (by simp) (fun a w ha hw => ?_) h
  obtain ⟨C, hC⟩ := hr.at hw hi
  have hV : Vec enc e size vv xs C w := hC
  have hc : w.rangeAt (vblk vv) (m * size + j) cs := fun n u hn => by
    rw [← hcs] at hn
    rw [List.getElem?_take] at hn
    split at hn
    · rw [List.getElem?_drop] at hn
      have hl : j + n < size := by rw [← hz q]; exact (List.getElem?_eq_some_iff.1 hn).1
      have := hV.cellAt hz hq hl hn
      rwa [← Nat.add_assoc] at this
    · cases hn
  simp only [execOp, ha.ev hx, Sem.run_bind, run_loadAt_mid w _ _ t cs dd hc hu hr' hi']; rfl
end
end
/-! ### A record behind a pointer -/
section
variable {α η : Type} {enc : α × η → List Value} {nest : α × η → List Asn} {t : TypeId} {p : Value} {x : α}
/-- The pointer p is nil, or leads to a block of its own with a record in it, and what that owns. -/
def pobj (enc : α × η → List Value) (nest : α × η → List Asn) (t : TypeId) (p : Value) : Option α → Asn
  | none => fact (p = .pointer none)
  | some x => exA fun bh : Nat × η => star (fact (p = .pointer (some ⟨bh.1, 0, none⟩)) :: cells bh.1 (enc (x, bh.2)) t :: nest (x, bh.2))
theorem fact_sep {q : Prop} {L : List Asn} {C : Nat → Prop} {w : World} : sepL (fact q :: L) C w ↔ q ∧ sepL L C w := by
  constructor
  · rintro ⟨C1, C2, ⟨h1, hq⟩, h2, h3, h4⟩
    have : C = C2 := funext fun k => propext ⟨fun h => ((h4 k).1 h).resolve_left (h1 k), fun h => (h4 k).2 (.inr h)⟩
    subst this
    exact ⟨hq, h2⟩
  · rintro ⟨hq, h⟩
    exact ⟨fun _ => False, C, ⟨fun _ h => h, hq⟩, h, fun _ h => h.elim, fun k => by simp⟩
theorem pobj_some {C : Nat → Prop} {w : World} : (pobj enc nest t p (some x)).P C w ↔ ∃ b h, p = .pointer (some ⟨b, 0, none⟩) ∧ sepL (cells b (enc (x, h)) t :: nest (x, h)) C w := by
  constructor
  · rintro ⟨⟨b, h⟩, hh⟩
    obtain ⟨h1, h2⟩ := fact_sep.1 hh
    exact ⟨b, h, h1, h2⟩
  · rintro ⟨b, h, h1, h2⟩
    exact ⟨⟨b, h⟩, fact_sep.2 ⟨h1, h2⟩⟩
theorem pobj_mk {b : Nat} {hd : η} {w : World} {C : Nat → Prop} (h : sepL (cells b (enc (x, hd)) t :: nest (x, hd)) C w) : (pobj enc nest t (.pointer (some ⟨b, 0, none⟩)) (some x)).P C w := pobj_some.2 ⟨b, hd, rfl, h⟩
theorem Entl.objMk {b : Nat} {hd : η} : Entl (cells b (enc (x, hd)) t :: nest (x, hd)) (fun _ : Unit => [pobj enc nest t (.pointer (some ⟨b, 0, none⟩)) (some x)]) (fun _ => True) := fun C w h => ⟨(), trivial, sepL.one1.2 (pobj_mk h)⟩
end
end Go.Proofs.YtgfkogafkhbgnaaDoor
namespace Go.Proofs.YtgfkogafkhbgnaaDoor
open Go.RowKit Go.Lib
set_option linter.unusedVariables false
set_option linter.unusedSimpArgs false
section
variable {α : Type} {enc : α → List Value} {size k : Nat} {vv : Value} {xs : List α}
/-- From record k on, the records xs lie in vv's block. -/
def roRow (enc : α → List Value) (size : Nat) (vv : Value) (k : Nat) (xs : List α) : Asn :=
  ⟨fun C w => (∀ b, C b → b < w.heap.size) ∧ ∀ i x j v, k ≤ i → xs[i]? = some x → (enc x)[j]? = some v → C (vblk vv) ∧ w.cell? ⟨vblk vv, i * size + j, none⟩ = some v,
   fun h b hb => h.1 b hb,
   fun {C w w'} h hs hk => ⟨fun b hb => Nat.lt_of_lt_of_le (h.1 b hb) hs, fun i x j v hi hx hv => by
     obtain ⟨h1, h2⟩ := h.2 i x j v hi hx hv
     refine ⟨h1, ?_⟩
     rw [← h2]
     unfold World.cell?
     simp only [hk _ h1]⟩⟩
theorem roRow_vec {e : TypeId} (hz : ∀ x, (enc x).length = size) {C : Nat → Prop} {w : World} (h : (vec enc e size vv xs).P C w) : (roRow enc size vv 0 xs).P C w := by
  have hV : Vec enc e size vv xs C w := h
  refine ⟨(vec enc e size vv xs).lt h, fun i x j v _ hx hv => ?_⟩
  have hj : j < size := by rw [← hz x]; exact (List.getElem?_eq_some_iff.1 hv).1
  refine ⟨?_, hV.cellAt hz hx hj hv⟩
  rcases hV.shape with ⟨_, h2, _⟩ | ⟨g, cap, rfl, _⟩
  · rw [h2] at hx; simp at hx
  · rw [hV.2]; rfl
variable {F : Fence} {P : Program} {w0 : World} {K : Nat → Prop} {N : Nat} {dfs : List Deferred} {ops : Array Oper} {Q : Exit → Act → World → Prop} {rest : List Oper} {σ : List (Nat × Value)} {L RD : List Asn} {v : Value}
  {d i : Nat} {t ty : TypeId} {pos : String} {aft : Array Edge} {g : Option (Nat × Bool)} {x : Operand}
theorem TO.loadRowRd [WideF F] {n j off : Nat} {q : α} (hr : Rd w0 K RD) (hi : RD[i]? = some (roRow enc size vv k xs)) (hle : k ≤ n) (hT : ScalarOk P t) (hg : gd ops σ g = some true) (hd : d < N) (hx : ev σ x = some (.pointer (some ⟨vblk vv, off, none⟩)))
    (hq : xs[n]? = some q) (ho : off = n * size + j) (hv : (enc q)[j]? = some v) (h : TO F P w0 K N dfs ops Q rest ((d, v) :: σ) L) :
    TO F P w0 K N dfs ops Q (⟨some d, .load t x, ty, pos, aft, g⟩ :: rest) σ L := by
  subst ho
  obtain ⟨dd, hu, hr'⟩ := hT
  refine TO.val hg hd (by simp) (fun a w ha hw => ?_) h
  obtain ⟨C, hC⟩ := hr.at hw hi
  have hc := (hC.2 n q j v hle hq hv).2
  have h1 := ha.ev hx
  cases dd <;> simp_all [execOp, Instr.loadAt, Instr.sureAddr, loadVar, isAgg, Sem.run_bind, run_underlying hu]
end
end Go.Proofs.YtgfkogafkhbgnaaDoor
namespace Go.Proofs.YtgfkogafkhbgnaaDoor
open Go.RowKit Go.Lib
set_option linter.unusedVariables false
set_option linter.unusedSimpArgs false
section
variable {F : Fence} {P : Program} {w0 : World} {K : Nat → Prop} {N : Nat} {dfs : List Deferred} {ops : Array Oper} {Q : Exit → Act → World → Prop} {rest : List Oper} {σ : List (Nat × Value)} {L : List Asn} {c : Code} {ex : Exit} {k : Nat}
  {α η : Type} {enc : α × η → List Value} {nest : α × η → List Asn} {t : TypeId} {p : Value} {m : Option α} {x : α}
theorem TX.newObj (enc : α × η → List Value) (nest : α × η → List Asn) (t : TypeId) (h : TX w0 K N dfs Q ex σ (L ++ [pobj enc nest t (.pointer none) none])) : TX w0 K N dfs Q ex σ L := fun a w ha hw =>
  h a w ha (hw.grow (C' := fun _ => False) (Ext.refl _ _) (sepL.one (A := pobj enc nest t (.pointer none) none) ⟨fun _ h => h, rfl⟩))
theorem Entl.objOpen (h : m = some x) : Entl [pobj enc nest t p m] (fun bh : Nat × η => cells bh.1 (enc (x, bh.2)) t :: nest (x, bh.2)) (fun bh => p = .pointer (some ⟨bh.1, 0, none⟩)) := fun C w hh => by
  subst h
  obtain ⟨b, hd, h2, h3⟩ := pobj_some.1 (sepL.one1.1 hh)
  exact ⟨(b, hd), h2, h3⟩
end
end Go.Proofs.YtgfkogafkhbgnaaDoor
namespace Go.Proofs.YtgfkogafkhbgnaaDoor
open Go.RowKit Go.Lib
set_option linter.unusedVariables false
set_option linter.unusedSimpArgs false
section
variable {F : Fence} {P : Program} {w0 : World} {K : Nat → Prop} {N : Nat} {dfs : List Deferred} {ops : Array Oper} {Q : Exit → Act → World → Prop} {rest : List Oper} {σ σ' : List (Nat × Value)} {L L' R As Bs : List Asn} {o : Oper} {v : Value}
  {d : Nat} {t : TypeId} {op : Op} {ty : TypeId} {pos : String} {aft : Array Edge} {g : Option (Nat × Bool)} {x y z : Operand} {c c1 c2 : Code} {k : Nat} {A B : Asn} {RO : List (Nat × Obj)} {RD RD0 : List Asn}
/-- g over caps goes through xs; it reads RD. -/
def ItrR (P : Program) (gf : FuncId) (caps : List Value) {α : Type} (enc : α → List Value) (xs : List α) (RD : List Asn) : Prop :=
  ∀ (w : World) (D : Nat → Prop), (∀ A ∈ RD, ∃ C, A.P C w ∧ ∀ k, C k → D k) → (∀ k, D k → k < w.heap.size) → Yields P gf caps.toArray (fun x => (enc x).toArray) xs D w
theorem ItrR.intro {gf : FuncId} {fn : Func} {caps : List Value} {α : Type} {enc : α → List Value} {xs : List α} (hf : P.funcs[gf]? = some fn) (hb : fn.body = some c) (hn : fn.ntmps = N) (hN : caps.length + 1 ≤ N)
    (h : ∀ l w0 K (I X : List α → Asn), Rd w0 K RD → YC P l enc xs I X w0 K →
      TC Fence.wide P w0 K N [] (bodyPostM Fence.wide 0 P fn (FY xs I X w0 K)) c (argSlots (.func (.yield l) #[] #[] :: caps)) [I []]) : ItrR P gf caps enc xs RD := by
  subst hn
  intro w D hRD hDlt l I X C0 W hD hsz hC0 hIl hXl hy h0
  have hRo : Rd W C0 RD := fun A hA => by
    obtain ⟨C, h1, h2⟩ := hRD A hA
    exact ⟨C, A.loc h1 hsz (fun k hk => (hD k (h2 k hk)).2), fun k hk hc => (hC0 k hc).2 (h2 k hk)⟩
  have := h l W C0 (fun pre => locA (I pre) (fun C W W' => hIl pre C W W')) (fun pre => locA (X pre) (fun C W W' => hXl pre C W W')) hRo (fun pre x post C W1 hxs he hi => by
    obtain ⟨f1, t1, a1, b1, hr1, hr2⟩ := hy pre x post C W1 hxs he hi.1
    refine ⟨f1, t1, a1, b1, hr1, hr2.mono ?_⟩
    rintro e w2 ⟨b, rfl, C', hx, hc⟩
    have hlt : ∀ k, C' k → k < w2.heap.size := fun k hk => by
      have := hx.1.size
      rcases hx.2 k hk with h | h
      · have := hi.2 k h; omega
      · exact h.2
    exact ⟨b, rfl, C', hx, hc.imp (fun h => ⟨h.1, h.2, hlt⟩) (fun h => ⟨h.1, h.2, hlt⟩)⟩)
  have hs : (Value.func (.yield l) #[] #[] :: caps).toArray = #[.func (.yield l) #[] #[]] ++ caps.toArray := by simp
  rw [← hs]
  refine (calls_of_body hf hb (this _ W (At.start _ (by simpa using hN)) ⟨C0, sepL.one ⟨h0, fun k hk => (hC0 k hk).1⟩, Ext.refl _ _⟩)).mono ?_
  rintro e w' ⟨he, hh⟩
  refine ⟨he, ?_⟩
  rcases hh with ⟨C', hh, hx⟩ | ⟨pre, x, post, hxs, C', hh, hx⟩
  · obtain ⟨C1, C2, g1, g2, _, g4⟩ := hh
    have : C' = C1 := funext fun k => propext (by rw [g4]; exact ⟨fun h => h.resolve_right (g2 k), .inl⟩)
    subst this
    exact ⟨C', hx, .inl g1.1⟩
  · obtain ⟨C1, C2, g1, g2, _, g4⟩ := hh
    have : C' = C1 := funext fun k => propext (by rw [g4]; exact ⟨fun h => h.resolve_right (g2 k), .inl⟩)
    subst this
    exact ⟨C', hx, .inr ⟨pre, x, post, hxs, g1.1⟩⟩
section
variable {α β γ δ : Type}
/-- A range over such an iterator, in a function's own body. -/
theorem TC.rangeR {gf : FuncId} {caps : List Value} {enc : α → List Value} {xs : List α} {ps : List Nat} {assign body : Code} (hRd : Rd w0 K RD0) (hRo : Ro w0 K RO)
    (hg : ev σ x = some (.func (.func gf) #[] caps.toArray)) (hent : ∀ args w, (callFunc gf args).run P w = .ok (.enter gf args) w) (hY : ItrR P gf caps enc xs RD)
    (Inv : List α → β → Prop) (LI : List α → β → List Asn) (X : Code → List α → γ → Prop) (LX : Code → List α → γ → List Asn) (σJ : List α → α → β → δ → List (Nat × Value)) (LJ : List α → α → β → δ → List Asn) (b0 : β)
    (h0 : Inv [] b0) (hs : Splits L (LI [] b0) R) (hS : RdS R RD0 RD) (hps : ∀ x, (enc x).length = ps.length) (hpN : ∀ p ∈ ps, p < N)
    (hassign : ∀ l r pre e post b w1 K1, xs = pre ++ e :: post → Ext K K1 w0 w1 → Ro w1 K1 (RO ++ [(l, .loop r)]) → Inv pre b →
      TC (Fence.wide.inRound l) P w1 K1 N [] (Exit.then (fun a w => ∃ j, St w1 K1 N [] (σJ pre e b j) (LJ pre e b j) a w) (fun _ _ _ => False)) assign (zipSlots ps (enc e) σ) (LI pre b))
    (hbody : ∀ l r pre e post b j w1 K1, xs = pre ++ e :: post → Ext K K1 w0 w1 → Ro w1 K1 (RO ++ [(l, .loop r)]) → Inv pre b → TC (Fence.wide.inRound l) P w1 K1 N [] (RQ Inv LI X LX (pre ++ [e]) w1 K1) body (σJ pre e b j) (LJ pre e b j))
    (hdone : ∀ d b, Inv xs b → TX w0 K N ({ target := .collected d, args := #[] } :: dfs) Q .normal σ (R ++ (LI xs b ++ [mark d])))
    (hstop : ∀ d c pre e post b, xs = pre ++ e :: post → X c (pre ++ [e]) b → TC Fence.wide P w0 K N ({ target := .collected d, args := #[] } :: dfs) Q c σ (R ++ (LX c (pre ++ [e]) b ++ [mark d]))) :
    TC Fence.wide P w0 K N dfs Q (.rangeFunc x ps.toArray assign body) σ L := by
  intro a w ha hw
  obtain ⟨C1, C2, g1, g2, g3, gx, hstep⟩ := hw.split2 hs
  have hDh : Rd w C1 RD := hS.rd (w0 := w0) (K := K) g2 g3 (hRd.ext gx)
  have hlt1 := g1.lt
  have hro1 : ∀ {C : Nat → Prop} {W : World}, Ext K C w0 W → Ro W C RO := fun {C W} hx p hp => by
    obtain ⟨h1, h2⟩ := hRo p hp
    refine ⟨hx.1.at h1 h2, fun h => ?_⟩
    rcases hx.2 _ h with h | h
    · exact h2 h
    · have := lt_of_some h1; omega
  refine wp_range (gf := gf) (lb := caps.toArray) (ha.ev hg) hent (hY w (fun k => k < w.heap.size ∧ ¬ C1 k) (fun A hA => by
    obtain ⟨C, h1, h2⟩ := hDh A hA
    exact ⟨C, h1, fun k hk => ⟨A.lt h1 k hk, h2 k hk⟩⟩) (fun k h => h.1)) (fun k h => ⟨h.1, rfl⟩) (Nat.le_refl _) (fun e => by simp [hps])
    (fun pre C W => ∃ b, Inv pre b ∧ sepL (LI pre b) C W) (fun c pre C W => ∃ b, X c pre b ∧ sepL (LX c pre b) C W)
    (fun pre e a1 C W => ∃ b j, Inv pre b ∧ At N [] (σJ pre e b j) a1 ∧ sepL (LJ pre e b j) C W) ?_ ?_ ?_ C1 (fun k hk => ⟨hlt1 k hk, fun h => h.2 hk⟩) ⟨b0, h0, g1⟩ ?_ ?_ ?_ ?_
  · rintro pre C W W' ⟨b, h1, h2⟩ hs hk; exact ⟨b, h1, h2.loc hs hk⟩
  · rintro c pre C W W' ⟨b, h1, h2⟩ hs hk; exact ⟨b, h1, h2.loc hs hk⟩
  · rintro pre e a1 _ C W W' ⟨b, j, h1, h2, h3⟩ hs hk; exact ⟨b, j, h1, h2, h3.loc hs hk⟩
  · rintro l pre e post C W1 hxs hext ⟨b, hb, hi⟩ hn hl ⟨r, hr⟩
    have hx1 : Ext K C w0 W1 := gx.trans hext
    refine wpIn_mono (hassign l r pre e post b W1 C hxs hx1 ((hro1 hx1).snoc hr hn) hb _ W1 (ha.zip ps (enc e) hpN) ⟨C, hi, Ext.refl _ _⟩) ?_
    rintro ex a' w' hq
    cases ex with
    | normal =>
      obtain ⟨j, hj, C', hL', hx'⟩ := hq
      exact ⟨C', hx', b, j, hb, hj, hL'⟩
    | _ => exact hq
  · rintro l pre e post C W1 a1 hxs hext ⟨b, j, hb, hat, hi⟩ hn hl ⟨r, hr⟩
    have hx1 : Ext K C w0 W1 := gx.trans hext
    refine wpIn_mono (hbody l r pre e post b j W1 C hxs hx1 ((hro1 hx1).snoc hr hn) hb a1 W1 hat ⟨C, hi, Ext.refl _ _⟩) ?_
    rintro ex a' w' hq
    cases ex with
    | normal => obtain ⟨b', h1, C', h2, h3⟩ := hq; exact ⟨C', h3, b', h1, h2⟩
    | ret => obtain ⟨b', h1, C', h2, h3⟩ := hq; exact ⟨C', h3, b', h1, h2⟩
    | exit id => obtain ⟨b', h1, C', h2, h3⟩ := hq; exact ⟨C', h3, b', h1, h2⟩
    | goto id => obtain ⟨b', h1, C', h2, h3⟩ := hq; exact ⟨C', h3, b', h1, h2⟩
    | panic _ => exact hq
    | outgrown => exact hq
  · rintro d C W hext ⟨b, hb, hi⟩ hd hCd hdef
    refine hdone d b hb _ W ⟨ha.1, by rw [← ha.2.1], ha.2.2⟩ (hstep _ (fun k => C k ∨ k = d) W ⟨hext.1, fun k hk => ?_⟩ ?_)
    · rcases hk with hk | rfl
      · exact hext.2 k hk
      · exact .inr ⟨hd, lt_of_some hdef⟩
    · exact hi.append (sepL.one ⟨fun k => Iff.rfl, hdef⟩) (fun k hk e => hCd (e ▸ hk))
  · rintro d c pre e post C W hxs hext ⟨b, hb, hi⟩ hd hCd hdef
    refine hstop d c pre e post b hxs hb _ W ⟨ha.1, by rw [← ha.2.1], ha.2.2⟩ (hstep _ (fun k => C k ∨ k = d) W ⟨hext.1, fun k hk => ?_⟩ ?_)
    · rcases hk with hk | rfl
      · exact hext.2 k hk
      · exact .inr ⟨hd, lt_of_some hdef⟩
    · exact hi.append (sepL.one ⟨fun k => Iff.rfl, hdef⟩) (fun k hk e => hCd (e ▸ hk))
end
end
end Go.Proofs.YtgfkogafkhbgnaaDoor
