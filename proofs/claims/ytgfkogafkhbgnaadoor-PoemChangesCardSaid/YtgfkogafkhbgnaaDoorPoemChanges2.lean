/-
  Texts laid together: Zn, Mp, Tab, Lt, Pcs, Vs, Shf, Sf, LqA, Tok, PlA, Ql, Ca, Ob, Ro, Op, Ir, LqP. Nothing is assumed.
-/
import Derived.Test.YtgfkogafkhbgnaaDoorPoemChanges1
import Derived.LoopNIn
import Derived.MapKept
import Derived.Test.YtgfkogafkhbgnaaDoorProg
import Derived.Shelf.Abstract
import Derived.Shelf.Strings.Builder1
import Derived.Shelf.Strings.Builder2
import Derived.Shelf.Strings.Trim
import Derived.Shelf.Small.Utf8
import Derived.Shelf.Small.Strs
import Derived.Shelf.Strings.BuilderF
import Derived.Shelf.Strings.Search1
import Derived.Shelf.Strings.Prefix
import Derived.Shelf.Strings.Runes
import Derived.Shelf.Strings.IndexAny
import Derived.Shelf.Strings.AsciiSet
import Derived.Shelf.Strings.IndexAnyAll
import Derived.Shelf.Bits.Mul64
import Derived.Shelf.Strings.Repeat
import Derived.Shelf.Unicode.DecodeSlow
import Derived.Shelf.Slices.Equal
import Derived.Ground.Names2Prog
import Derived.Shelf.Slices.Clone
import Derived.Shelf.Strings.SlTrimAscii
set_option maxRecDepth 100000
set_option maxHeartbeats 4000000
namespace Go.Proofs.YtgfkogafkhbgnaaDoor
abbrev zI (x : Int) : Value := .int .i64 x
abbrev zP (x : Nat) : Value := .pointer (some ⟨x, 0, none⟩)
end Go.Proofs.YtgfkogafkhbgnaaDoor
namespace Go.Proofs.YtgfkogafkhbgnaaDoor
open Go.RowKit Go.Lib
set_option linter.unusedVariables false
set_option linter.unusedSimpArgs false
/-- Decided. -/
theorem dc {p : Prop} [Decidable p] (h : decide p = true := by rfl) : p := of_decide_eq_true h
/-- The same by computation. -/
theorem kr {α : Sort _} {a b : α} (h : a = b := by as_aux_lemma => kernel_rfl) : a = b := h
/-- What an iterator yields first, and then. -/
def zpb {α : Type} (x : α) (o : Option (List α)) : Option (List α) := o.map (x :: ·)
theorem zp0 {α : Type} {x : α} {o : Option (List α)} {r : List α} (h : zpb x o = some r) : ∃ r', r = x :: r' ∧ o = some r' := by
  obtain ⟨r', h1, h2⟩ := Option.map_eq_some_iff.1 h
  exact ⟨r', h2.symm, h1⟩
section
variable {F : Fence} {P : Program} {w0 : World} {K : Nat → Prop} {N : Nat} {dfs : List Deferred} {ops : Array Oper} {Q : Exit → Act → World → Prop} {rest : List Oper} {c : Code} {ex : Exit} {σ : List (Nat × Value)} {L L' As R : List Asn} {A B : Asn} {k : Nat} {β : Type}
theorem zbw (hs : Splits L L' R) (h : TO F P w0 K N dfs ops Q rest σ L') : TO F P w0 K N dfs ops Q rest σ L := fun a w ha hw => h a w ha (hw.weaken hs)
theorem zoD (hs : Splits L L' R) (h : TC F P w0 K N dfs Q c σ L') : TC F P w0 K N dfs Q c σ L := fun a w ha hw => h a w ha (hw.weaken hs)
theorem zoB (hs : Splits L L' R) (h : TX w0 K N dfs Q ex σ L') : TX w0 K N dfs Q ex σ L := fun a w ha hw => h a w ha (hw.weaken hs)
theorem zqe (hk : L[k]? = some A) (he : Ent A B) (h : TX w0 K N dfs Q ex σ (L.set k B)) : TX w0 K N dfs Q ex σ L := fun a w ha hw => h a w ha (hw.ent hk he)
/-- A loop of at most m rounds, round by round. -/
def TR (F : Fence) (P : Program) (w0 : World) (K : Nat → Prop) (N : Nat) (dfs : List Deferred) (Q : Exit → Act → World → Prop) (c : Code) (m : Nat) (σ : List (Nat × Value)) (L : List Asn) : Prop :=
  ∀ a w, At N dfs σ a → Holds w0 K L w → Code.roundsIn F 0 P c Q m a w
theorem zp3 {m : Nat} (h : TC F P w0 K N dfs (Exit.then (Code.roundsIn F 0 P c Q m) Q) c σ L) : TR F P w0 K N dfs Q c (m + 1) σ L := fun a w ha hw => h a w ha hw
/-- The entry k and others become one, at k. -/
theorem Holds.fold1 {w : World} (h : Holds w0 K L w) (hk : L[k]? = some A) (hs : Splits (L.set k emp) As R) (hR : R[k]? = some emp) (hE : ∀ C w, sepL (A :: As) C w → B.P C w) : Holds w0 K (R.set k B) w := by
  obtain ⟨C, hL, hx⟩ := h
  obtain ⟨C1, C2, h1, h2, h3, h4⟩ := sepL.take hk hL
  obtain ⟨D1, D2, g1, g2, g3, g4⟩ := hs C2 w h2
  have hset : R.set k emp = R := by
    obtain ⟨hl, he⟩ := List.getElem?_eq_some_iff.1 hR
    rw [← he]; exact List.set_getElem_self hl
  refine ⟨C, sepL.put (C1 := fun i => C1 i ∨ D1 i) (C2 := D2) (List.getElem?_eq_some_iff.1 hR).1 (hE _ _ ⟨C1, D1, h1, g1, fun i a b => h3 i a ((g4 i).2 (.inl b)), fun i => Iff.rfl⟩) (by rw [hset]; exact g2) (fun i a b => ?_) (fun i => ?_), hx⟩
  · rcases a with a | a
    · exact h3 i a ((g4 i).2 (.inr b))
    · exact g3 i a b
  · rw [h4, g4, or_assoc]
/-- The entry k becomes another and some more, behind. -/
theorem Holds.unfold1 {w : World} {I : β → Prop} {Bf : β → Asn} {Bs : β → List Asn} (h : Holds w0 K L w) (hk : L[k]? = some A) (hE : ∀ C w, A.P C w → ∃ b, I b ∧ sepL (Bf b :: Bs b) C w) : ∃ b, I b ∧ Holds w0 K (L.set k (Bf b) ++ Bs b) w := by
  obtain ⟨C, hL, hx⟩ := h
  obtain ⟨C1, C2, h1, h2, h3, h4⟩ := sepL.take hk hL
  obtain ⟨b, hI, D1, D2, g1, g2, g3, g4⟩ := hE _ _ h1
  refine ⟨b, hI, C, zd6 (C1 := fun i => D1 i ∨ C2 i) (C2 := D2) (sepL.put (C1 := D1) (C2 := C2) (List.getElem?_eq_some_iff.1 hk).1 g1 h2 (fun i a b => h3 i ((g4 i).2 (.inl a)) b) (fun i => Iff.rfl)) g2 (fun i a b => ?_) (fun i => ?_), hx⟩
  · rcases a with a | a
    · exact g3 i a b
    · exact h3 i ((g4 i).2 (.inr b)) a
  · rw [h4, g4]
    constructor
    · rintro ((a | a) | a)
      · exact .inl (.inl a)
      · exact .inr a
      · exact .inl (.inr a)
    · rintro ((a | a) | a)
      · exact .inl (.inl a)
      · exact .inr a
      · exact .inl (.inr a)
theorem zei (hk : L[k]? = some A) (hs : Splits (L.set k emp) As R) (hR : R[k]? = some emp) (hE : ∀ C w, sepL (A :: As) C w → B.P C w) (h : TO F P w0 K N dfs ops Q rest σ (R.set k B)) : TO F P w0 K N dfs ops Q rest σ L := fun a w ha hw => h a w ha (hw.fold1 hk hs hR hE)
theorem znE (hk : L[k]? = some A) (hs : Splits (L.set k emp) As R) (hR : R[k]? = some emp) (hE : ∀ C w, sepL (A :: As) C w → B.P C w) (h : TC F P w0 K N dfs Q c σ (R.set k B)) : TC F P w0 K N dfs Q c σ L := fun a w ha hw => h a w ha (hw.fold1 hk hs hR hE)
theorem zlp (hk : L[k]? = some A) (hs : Splits (L.set k emp) As R) (hR : R[k]? = some emp) (hE : ∀ C w, sepL (A :: As) C w → B.P C w) (h : TX w0 K N dfs Q ex σ (R.set k B)) : TX w0 K N dfs Q ex σ L := fun a w ha hw => h a w ha (hw.fold1 hk hs hR hE)
theorem zes {I : β → Prop} {Bf : β → Asn} {Bs : β → List Asn} (hk : L[k]? = some A) (hE : ∀ C w, A.P C w → ∃ b, I b ∧ sepL (Bf b :: Bs b) C w) (h : ∀ b, I b → TO F P w0 K N dfs ops Q rest σ (L.set k (Bf b) ++ Bs b)) : TO F P w0 K N dfs ops Q rest σ L := fun a w ha hw => by
  obtain ⟨b, hI, hb⟩ := hw.unfold1 hk hE; exact h b hI a w ha hb
theorem zeN {I : β → Prop} {Bf : β → Asn} {Bs : β → List Asn} (hk : L[k]? = some A) (hE : ∀ C w, A.P C w → ∃ b, I b ∧ sepL (Bf b :: Bs b) C w) (h : ∀ b, I b → TC F P w0 K N dfs Q c σ (L.set k (Bf b) ++ Bs b)) : TC F P w0 K N dfs Q c σ L := fun a w ha hw => by
  obtain ⟨b, hI, hb⟩ := hw.unfold1 hk hE; exact h b hI a w ha hb
theorem zoC {I : β → Prop} {Bf : β → Asn} {Bs : β → List Asn} (hk : L[k]? = some A) (hE : ∀ C w, A.P C w → ∃ b, I b ∧ sepL (Bf b :: Bs b) C w) (h : ∀ b, I b → TX w0 K N dfs Q ex σ (L.set k (Bf b) ++ Bs b)) : TX w0 K N dfs Q ex σ L := fun a w ha hw => by
  obtain ⟨b, hI, hb⟩ := hw.unfold1 hk hE; exact h b hI a w ha hb
end
section
variable {F : Fence} {P : Program} {w0 : World} {K : Nat → Prop} {N : Nat} {dfs : List Deferred} {ops : Array Oper} {Q : Exit → Act → World → Prop} {rest : List Oper} {c : Code} {ex : Exit} {σ : List (Nat × Value)} {L As R : List Asn} {k : Nat}
  {α η : Type} {enc : α × η → List Value} {nest : α × η → List Asn} {e : TypeId} {size : Nat} {v : Value} {xs : List α} {zs zs' : List (α × η)} {z z' : α × η} {i : Nat} {x x' : α} {h h' : η}
/-- What the records zs own. -/
def own (nest : α × η → List Asn) (zs : List (α × η)) : Asn := zev (zs.flatMap nest)
theorem zhC (C : Nat → Prop) (w : World) (h : (zbx enc nest e size v xs).P C w) : ∃ zs : List (α × η), zs.map Prod.fst = xs ∧ sepL (vec enc e size v zs :: [own nest zs]) C w := by
  obtain ⟨⟨zs, hz⟩, h⟩ := h; exact ⟨zs, hz, h⟩
theorem zit (hz : zs.map Prod.fst = xs) (C : Nat → Prop) (w : World) (h : sepL (vec enc e size v zs :: [own nest zs]) C w) : (zbx enc nest e size v xs).P C w := ⟨⟨zs, hz⟩, h⟩
theorem znd (hz : zs[i]? = some z) (C : Nat → Prop) (w : World) (h : (own nest zs).P C w) : ∃ _u : Unit, True ∧ sepL (own nest (zs.eraseIdx i) :: nest z) C w := by
  obtain ⟨C1, C2, h1, h2, h3, h4⟩ := (zh4 hz).1 h
  exact ⟨(), trivial, C2, C1, h2, h1, fun k a b => h3 k b a, fun k => by rw [h4]; exact Or.comm⟩
theorem znc (hz : zs'[i]? = some z) (he : zs'.eraseIdx i = zs.eraseIdx i) (C : Nat → Prop) (w : World) (h : sepL (own nest (zs.eraseIdx i) :: nest z) C w) : (own nest zs').P C w := by
  obtain ⟨C1, C2, h1, h2, h3, h4⟩ := h
  exact (zh4 hz).2 ⟨C2, C1, h2, by rw [he]; exact h1, fun k a b => h3 k b a, fun k => by rw [h4]; exact Or.comm⟩
theorem zlc (C : Nat → Prop) (w : World) (h : sepL (own nest zs :: nest z) C w) : (own nest (zs ++ [z])).P C w := by
  obtain ⟨C1, C2, h1, h2, h3, h4⟩ := h
  show sepL ((zs ++ [z]).flatMap nest) C w
  rw [List.flatMap_append, List.flatMap_cons, List.flatMap_nil, List.append_nil]
  exact zd6 h1 h2 h3 h4
theorem zeb {i : Int} (hz : zs.map Prod.fst = xs) (hq : zdh xs i = some x) : ∃ h, zdh zs i = some (x, h) := by
  subst hz
  unfold zdh at hq ⊢
  split at hq
  · rename_i h0
    rw [if_pos h0]
    rw [List.getElem?_map] at hq
    obtain ⟨z, h1, h2⟩ := Option.map_eq_some_iff.1 hq
    exact ⟨z.2, by rw [h1, ← h2]⟩
  · cases hq
theorem zm3 (hz : zs.map Prod.fst = xs) : zs.length = xs.length := by rw [← hz, List.length_map]
theorem zps (hz : zs.map Prod.fst = xs) : (zs.set i (x', h)).map Prod.fst = xs.set i x' := by rw [List.map_set, hz]
theorem zoA (hz : zs.map Prod.fst = xs) : (zs ++ [(x, h)]).map Prod.fst = xs ++ [x] := by rw [List.map_append, hz]; rfl
theorem zkB (hz : zs[i]? = some z) : (zs.set i z')[i]? = some z' := by
  have := (List.getElem?_eq_some_iff.1 hz).1; simp [this]
theorem zh2 : (zs.set i z').eraseIdx i = zs.eraseIdx i := List.eraseIdx_set_eq
variable {d : Nat} {ty : TypeId} {pos : String} {aft : Array Edge} {g : Option (Nat × Bool)} {o : Operand}
theorem zcS [WideF F] {tt te : TypeId} {Ls : List (α × η)} {vv : Value} {j : Nat} (hz : zs.map Prod.fst = xs) (hV : Vw vv Ls size j v zs) (hg : gd ops σ g = some true) (hd : d < N) (hx : ev σ o = some v) (ht : P.underlying tt = some (.slice te))
    (h : TO F P w0 K N dfs ops Q rest ((d, .int .i64 (xs.length : Int)) :: σ) L) : TO F P w0 K N dfs ops Q (⟨some d, .call { callee := .builtin .len, args := #[o], argTypes := #[tt] }, ty, pos, aft, g⟩ :: rest) σ L :=
  zbG hV hg hd hx ht (by rw [zm3 hz]; exact h)
theorem zpg {ε : Type} {enc1 : ε → List Value} {ys : List ε} (hk : L[k]? = some (vec enc1 e size v ys)) (hh : ∀ hd : Hd, v = hd.v → TC F P w0 K N dfs Q c σ L) : TC F P w0 K N dfs Q c σ L := fun a w ha hw => by
  obtain ⟨C, hv, _⟩ := hw.focus hk
  obtain ⟨q, cc, he⟩ := Vec.len hv
  exact hh ⟨q, ys.length, cc⟩ he a w ha hw
theorem zfq (hh : TX w0 K N dfs Q ex σ (L ++ [zbx enc nest e size (.slice none 0 0) ([] : List α)])) : TX w0 K N dfs Q ex σ L := fun a w ha hw =>
  hh a w ha (hw.grow (C' := fun _ => False) (Ext.refl _ _) (by obtain ⟨_, _, h⟩ := ziD (enc := enc) (nest := nest) (e := e) (size := size) (fun _ => False) w (fun _ h => h); exact h))
theorem zjM (hh : TC F P w0 K N dfs Q c σ (L ++ [zbx enc nest e size (.slice none 0 0) ([] : List α)])) : TC F P w0 K N dfs Q c σ L := fun a w ha hw =>
  hh a w ha (hw.grow (C' := fun _ => False) (Ext.refl _ _) (by obtain ⟨_, _, h⟩ := ziD (enc := enc) (nest := nest) (e := e) (size := size) (fun _ => False) w (fun _ h => h); exact h))
theorem zp4 (hh : TO F P w0 K N dfs ops Q rest σ (L ++ [zbx enc nest e size (.slice none 0 0) ([] : List α)])) : TO F P w0 K N dfs ops Q rest σ L := fun a w ha hw =>
  hh a w ha (hw.grow (C' := fun _ => False) (Ext.refl _ _) (by obtain ⟨_, _, h⟩ := ziD (enc := enc) (nest := nest) (e := e) (size := size) (fun _ => False) w (fun _ h => h); exact h))
theorem zn1 {ε : Type} {ys : List ε} {y : ε} (hi : ys[i]? = some y) : ys.set i y = ys := by
  obtain ⟨hl, he⟩ := List.getElem?_eq_some_iff.1 hi
  rw [← he]; exact List.set_getElem_self hl
theorem zkg {ε : Type} {enc1 : ε → List Value} {q1 q2 : ε} (he : enc1 q1 = enc1 q2) : ∀ (ys : List ε) (i : Nat), (ys.set i q1).flatMap enc1 = (ys.set i q2).flatMap enc1
  | [], i => rfl
  | y :: ys, 0 => by simp [he]
  | y :: ys, i + 1 => by simp [zkg he ys i]
/-- What is not to be seen in the cells may differ. -/
theorem zm4 {ε : Type} {enc1 : ε → List Value} {ys zs : List ε} {q1 q2 : ε} (hz : zs = ys.set i q1) (hlen : ∀ x, (enc1 x).length = size) (he : enc1 q1 = enc1 q2) : Ent (vec enc1 e size v zs) (vec enc1 e size v (ys.set i q2)) := by
  subst hz
  rintro C w ⟨h1, h3⟩
  refine ⟨?_, h3⟩
  have hf := zkg he ys i
  have hl : (ys.set i q1).length = (ys.set i q2).length := by simp
  unfold Rw at h1 ⊢
  rw [← hf, ← hl]; exact h1
end
end Go.Proofs.YtgfkogafkhbgnaaDoor
namespace Go.Proofs.YtgfkogafkhbgnaaDoor
open Go.RowKit Go.Lib Go.MapKept
set_option linter.unusedVariables false
set_option linter.unusedSimpArgs false
def zm0 {κ : Type} [DecidableEq κ] (k : κ) : List κ → Nat → Option Nat
  | [], _ => none
  | p :: l, i => if k = p then some i else zm0 k l (i + 1)
/-- What is asked of keys. -/
structure KeyOk (P : Program) (kt : TypeId) {κ : Type} [DecidableEq κ] (ek : κ → Value) : Prop where
  check : ∀ em k (w : World), (Instr.checkKey em 10000 kt (ek k)).run P w = .ok () w
  find : ∀ (es : List MapEntry) (ks : List κ) k (w : World), es.map (·.key) = ks.map ek → (Instr.findKey kt (ek k) es).run P w = .ok ((zm0 k ks 0).map fun i => (i, ((es[i]?).map (·.val)).getD default)) w
  same : ∀ k, Instr.sameBits 10000 (ek k) (ek k) = true
theorem zkc {κ : Type} [DecidableEq κ] (k : κ) : ∀ (l : List κ) (i : Nat), zm0 k l (i + 1) = (zm0 k l i).map (· + 1)
  | [], i => rfl
  | p :: l, i => by unfold zm0; split <;> simp [zkc k l (i + 1)]
theorem zmF {κ : Type} [DecidableEq κ] (k p : κ) (e : MapEntry) (es : List MapEntry) (ks : List κ) (n : Nat) :
    ((zm0 k (p :: ks) 0).map fun i => (i + n, (((e :: es)[i]?).map (·.val)).getD default)) = if k = p then some (n, e.val) else (zm0 k ks 0).map fun i => (i + (n + 1), ((es[i]?).map (·.val)).getD default) := by
  have e : zm0 k (p :: ks) 0 = if k = p then some 0 else zm0 k ks (0 + 1) := rfl
  rw [e]
  split
  · simp
  · rw [zkc, Option.map_map]; congr 1; funext i; simp [Nat.add_assoc, Nat.add_comm 1 n]
theorem KeyOk.int {P : Program} {kt : TypeId} {kd : IntKind} (h : P.underlying kt = some (.int kd)) : KeyOk P kt (fun n : Int => Value.int kd n) where
  check := fun em k w => run_checkKey h (show IsKey (.int kd) (.int kd k) by simp [IsKey]) em 9999
  find := fun es ks k w hk => run_findKey h (by
    have : ∀ (es : List MapEntry) (ks : List Int) (n : Nat), es.map (·.key) = ks.map (fun n : Int => Value.int kd n) → Instr.findNow (.int kd) (.int kd k) es n = some ((zm0 k ks 0).map fun i => (i + n, ((es[i]?).map (·.val)).getD default)) := by
      intro es
      induction es with
      | nil => intro ks n h; cases ks with
        | nil => rfl
        | cons _ _ => simp at h
      | cons e es ih => intro ks n h; cases ks with
        | nil => simp at h
        | cons p ks =>
          simp only [List.map_cons, List.cons.injEq] at h
          rw [zmF]
          have hs : Instr.sameNow (.int kd) (.int kd k) e.key = some (k == p) := by rw [h.1]; simp [Instr.sameNow]
          unfold Instr.findNow
          rw [hs]
          by_cases hp : k = p
          · subst hp; simp
          · have : (k == p) = false := by simpa using hp
            rw [this, if_neg hp]; exact ih ks (n + 1) h.2
    exact this es ks 0 hk)
  same := fun k => by simp [Instr.sameBits]
section
variable {F : Fence} {P : Program} {w0 : World} {K : Nat → Prop} {N : Nat} {dfs : List Deferred} {ops : Array Oper} {Q : Exit → Act → World → Prop} {rest : List Oper} {σ : List (Nat × Value)} {L : List Asn}
  {d : Nat} {ty : TypeId} {pos : String} {aft : Array Edge} {g : Option (Nat × Bool)} {x y z : Operand} {k b : Nat} {κ ν : Type} [DecidableEq κ] {ek : κ → Value} {ev' : ν → Value} {mt kt et : TypeId} {M : List (κ × ν)}
end
end Go.Proofs.YtgfkogafkhbgnaaDoor
namespace Go.Proofs.YtgfkogafkhbgnaaDoor
open Go.RowKit Go.Lib Go.Shelf
theorem zfb : zdD Tryd.prog 3 := ⟨_, Tryd.underlying3, rfl⟩
theorem zjh : SizeOk Tryd.prog 3 1 := by unfold SizeOk; as_aux_lemma => kernel_rfl
theorem zqb : ZeroOk Tryd.prog 3 [.int .i64 0] := by unfold ZeroOk; as_aux_lemma => kernel_rfl
theorem zlb : zdD Tryd.prog 4 := ⟨_, Tryd.underlying4, rfl⟩
theorem zjO : SizeOk Tryd.prog 4 1 := by unfold SizeOk; as_aux_lemma => kernel_rfl
theorem zqa : ZeroOk Tryd.prog 4 [.bool false] := by unfold ZeroOk; as_aux_lemma => kernel_rfl
theorem zgm : zdD Tryd.prog 9 := ⟨_, Tryd.underlying9, rfl⟩
theorem zlY : SizeOk Tryd.prog 9 1 := by unfold SizeOk; as_aux_lemma => kernel_rfl
theorem zpl : ElemOk Tryd.prog 9 1 := ElemOk.mk' (by as_aux_lemma => kernel_rfl)
theorem zeF : zdD Tryd.prog 23 := ⟨_, Tryd.underlying23, rfl⟩
theorem zhA : ziA Tryd.prog 26 2 := ⟨_, Tryd.underlying26, rfl, by as_aux_lemma => kernel_rfl⟩
theorem zf7 : SizeOk Tryd.prog 26 2 := by unfold SizeOk; as_aux_lemma => kernel_rfl
theorem ziG : ZeroOk Tryd.prog 26 [.int .i64 0, .int .i64 0] := by unfold ZeroOk; as_aux_lemma => kernel_rfl
theorem zhf : ziA Tryd.prog 34 2 := ⟨_, Tryd.underlying34, rfl, by as_aux_lemma => kernel_rfl⟩
theorem ze3 : zdg Tryd.prog 34 0 0 := ⟨_, _, Tryd.underlying34, rfl, rfl, by as_aux_lemma => kernel_rfl⟩
theorem zfC : zdg Tryd.prog 34 1 1 := ⟨_, _, Tryd.underlying34, rfl, rfl, by as_aux_lemma => kernel_rfl⟩
theorem zgt : SizeOk Tryd.prog 34 2 := by unfold SizeOk; as_aux_lemma => kernel_rfl
theorem zky : ZeroOk Tryd.prog 34 [.int .i64 0, .int .i64 0] := by unfold ZeroOk; as_aux_lemma => kernel_rfl
theorem zjx : ElemOk Tryd.prog 34 2 := ElemOk.mk' (by as_aux_lemma => kernel_rfl)
theorem zgF : ziA Tryd.prog 36 6 := ⟨_, Tryd.underlying36, rfl, by as_aux_lemma => kernel_rfl⟩
theorem zkP : zdg Tryd.prog 36 0 0 := ⟨_, _, Tryd.underlying36, rfl, rfl, by as_aux_lemma => kernel_rfl⟩
theorem zkO : zdg Tryd.prog 36 1 1 := ⟨_, _, Tryd.underlying36, rfl, rfl, by as_aux_lemma => kernel_rfl⟩
theorem zio : zdg Tryd.prog 36 2 2 := ⟨_, _, Tryd.underlying36, rfl, rfl, by as_aux_lemma => kernel_rfl⟩
theorem zoh : zdg Tryd.prog 36 3 3 := ⟨_, _, Tryd.underlying36, rfl, rfl, by as_aux_lemma => kernel_rfl⟩
theorem zf3 : SizeOk Tryd.prog 36 6 := by unfold SizeOk; as_aux_lemma => kernel_rfl
theorem ziF : ZeroOk Tryd.prog 36 [.string ByteArray.empty, .int .i64 0, .int .i64 0, .int .i64 0, .int .i64 0, .int .i64 0] := by unfold ZeroOk; as_aux_lemma => kernel_rfl
theorem zo9 : ElemOk Tryd.prog 36 6 := ElemOk.mk' (by as_aux_lemma => kernel_rfl)
theorem zeR : zdD Tryd.prog 48 := ⟨_, Tryd.underlying48, rfl⟩
theorem zet : SizeOk Tryd.prog 48 1 := by unfold SizeOk; as_aux_lemma => kernel_rfl
theorem zkS : ElemOk Tryd.prog 48 1 := ElemOk.mk' (by as_aux_lemma => kernel_rfl)
theorem zc7 : zdD Tryd.prog 54 := ⟨_, Tryd.underlying54, rfl⟩
theorem zlx : SizeOk Tryd.prog 54 1 := by unfold SizeOk; as_aux_lemma => kernel_rfl
theorem zpt : ZeroOk Tryd.prog 54 [.slice none 0 0] := by unfold ZeroOk; as_aux_lemma => kernel_rfl
theorem zcw : ziA Tryd.prog 56 2 := ⟨_, Tryd.underlying56, rfl, by as_aux_lemma => kernel_rfl⟩
theorem zeL : zdg Tryd.prog 56 0 0 := ⟨_, _, Tryd.underlying56, rfl, rfl, by as_aux_lemma => kernel_rfl⟩
theorem zbC : zdg Tryd.prog 56 1 1 := ⟨_, _, Tryd.underlying56, rfl, rfl, by as_aux_lemma => kernel_rfl⟩
theorem zeG : SizeOk Tryd.prog 56 2 := by unfold SizeOk; as_aux_lemma => kernel_rfl
theorem zgC : ZeroOk Tryd.prog 56 [.string ByteArray.empty, .slice none 0 0] := by unfold ZeroOk; as_aux_lemma => kernel_rfl
theorem zew : zdD Tryd.prog 57 := ⟨_, Tryd.underlying57, rfl⟩
theorem zpv : SizeOk Tryd.prog 57 1 := by unfold SizeOk; as_aux_lemma => kernel_rfl
theorem zkC : zdD Tryd.prog 89 := ⟨_, Tryd.underlying89, rfl⟩
theorem zpu : SizeOk Tryd.prog 89 1 := by unfold SizeOk; as_aux_lemma => kernel_rfl
theorem zfn : zdg Tryd.prog 91 0 0 := ⟨_, _, Tryd.underlying91, rfl, rfl, by as_aux_lemma => kernel_rfl⟩
theorem zdB : zdg Tryd.prog 91 1 1 := ⟨_, _, Tryd.underlying91, rfl, rfl, by as_aux_lemma => kernel_rfl⟩
theorem zgg : zdg Tryd.prog 91 2 2 := ⟨_, _, Tryd.underlying91, rfl, rfl, by as_aux_lemma => kernel_rfl⟩
theorem zbS : zdg Tryd.prog 93 0 0 := ⟨_, _, Tryd.underlying93, rfl, rfl, by as_aux_lemma => kernel_rfl⟩
theorem zog : zdg Tryd.prog 93 1 3 := ⟨_, _, Tryd.underlying93, rfl, rfl, by as_aux_lemma => kernel_rfl⟩
theorem zoG : ZeroOk Tryd.prog 106 [.pointer none, .slice none 0 0] := by unfold ZeroOk; as_aux_lemma => kernel_rfl
theorem zma : zdD Tryd.prog 125 := ⟨_, Tryd.underlying125, rfl⟩
theorem znK : SizeOk Tryd.prog 125 1 := by unfold SizeOk; as_aux_lemma => kernel_rfl
theorem zhu : zdD Tryd.prog 126 := ⟨_, Tryd.underlying126, rfl⟩
theorem znJ : SizeOk Tryd.prog 126 1 := by unfold SizeOk; as_aux_lemma => kernel_rfl
theorem zg2 : zdg Tryd.prog 128 1 1 := ⟨_, _, Tryd.underlying128, rfl, rfl, by as_aux_lemma => kernel_rfl⟩
theorem zeQ : zdg Tryd.prog 128 2 2 := ⟨_, _, Tryd.underlying128, rfl, rfl, by as_aux_lemma => kernel_rfl⟩
theorem znM : ziA Tryd.prog 130 5 := ⟨_, Tryd.underlying130, rfl, by as_aux_lemma => kernel_rfl⟩
theorem zlj : zdg Tryd.prog 130 0 0 := ⟨_, _, Tryd.underlying130, rfl, rfl, by as_aux_lemma => kernel_rfl⟩
theorem zli : zdg Tryd.prog 130 1 1 := ⟨_, _, Tryd.underlying130, rfl, rfl, by as_aux_lemma => kernel_rfl⟩
theorem zhP : zdg Tryd.prog 130 2 2 := ⟨_, _, Tryd.underlying130, rfl, rfl, by as_aux_lemma => kernel_rfl⟩
theorem zlh : zdg Tryd.prog 130 3 3 := ⟨_, _, Tryd.underlying130, rfl, rfl, by as_aux_lemma => kernel_rfl⟩
theorem zjt : zdg Tryd.prog 130 4 4 := ⟨_, _, Tryd.underlying130, rfl, rfl, by as_aux_lemma => kernel_rfl⟩
theorem zoK : SizeOk Tryd.prog 130 5 := by unfold SizeOk; as_aux_lemma => kernel_rfl
theorem zoF : ZeroOk Tryd.prog 130 [.int .i64 0, .int .i64 0, .int .i64 0, .int .i64 0, .int .i64 0] := by unfold ZeroOk; as_aux_lemma => kernel_rfl
theorem znV : ElemOk Tryd.prog 130 5 := ElemOk.mk' (by as_aux_lemma => kernel_rfl)
theorem znL : ziA Tryd.prog 132 4 := ⟨_, Tryd.underlying132, rfl, by as_aux_lemma => kernel_rfl⟩
theorem zhO : zdg Tryd.prog 132 0 0 := ⟨_, _, Tryd.underlying132, rfl, rfl, by as_aux_lemma => kernel_rfl⟩
theorem zjs : zdg Tryd.prog 132 1 2 := ⟨_, _, Tryd.underlying132, rfl, rfl, by as_aux_lemma => kernel_rfl⟩
theorem ziU : SizeOk Tryd.prog 132 4 := by unfold SizeOk; as_aux_lemma => kernel_rfl
theorem zoE : ZeroOk Tryd.prog 132 [.int .i64 0, .int .i64 0, .int .i64 0, .int .i64 0] := by unfold ZeroOk; as_aux_lemma => kernel_rfl
theorem znU : ElemOk Tryd.prog 132 4 := ElemOk.mk' (by as_aux_lemma => kernel_rfl)
theorem znw : ∀ args w, (callFunc 12 args).run Tryd.prog w = .ok (.enter 12 args) w := enters_of Tryd.func12 (by as_aux_lemma => kernel_rfl) rfl
theorem znv : ∀ args w, (callFunc 13 args).run Tryd.prog w = .ok (.enter 13 args) w := enters_of Tryd.func13 (by as_aux_lemma => kernel_rfl) rfl
theorem zo8 : ∀ args w, (callFunc 14 args).run Tryd.prog w = .ok (.enter 14 args) w := enters_of Tryd.func14 (by as_aux_lemma => kernel_rfl) rfl
theorem zpZ : ∀ args w, (callFunc 15 args).run Tryd.prog w = .ok (.enter 15 args) w := enters_of Tryd.func15 (by as_aux_lemma => kernel_rfl) rfl
theorem zpY : ∀ args w, (callFunc 16 args).run Tryd.prog w = .ok (.enter 16 args) w := enters_of Tryd.func16 (by as_aux_lemma => kernel_rfl) rfl
theorem zpX : ∀ args w, (callFunc 17 args).run Tryd.prog w = .ok (.enter 17 args) w := enters_of Tryd.func17 (by as_aux_lemma => kernel_rfl) rfl
theorem zo7 : ∀ args w, (callFunc 18 args).run Tryd.prog w = .ok (.enter 18 args) w := enters_of Tryd.func18 (by as_aux_lemma => kernel_rfl) rfl
theorem zmL : ∀ args w, (callFunc 19 args).run Tryd.prog w = .ok (.enter 19 args) w := enters_of Tryd.func19 (by as_aux_lemma => kernel_rfl) rfl
theorem zmK : ∀ args w, (callFunc 20 args).run Tryd.prog w = .ok (.enter 20 args) w := enters_of Tryd.func20 (by as_aux_lemma => kernel_rfl) rfl
theorem znu : ∀ args w, (callFunc 21 args).run Tryd.prog w = .ok (.enter 21 args) w := enters_of Tryd.func21 (by as_aux_lemma => kernel_rfl) rfl
theorem zpW : ∀ args w, (callFunc 22 args).run Tryd.prog w = .ok (.enter 22 args) w := enters_of Tryd.func22 (by as_aux_lemma => kernel_rfl) rfl
theorem zom : ∀ args w, (callFunc 23 args).run Tryd.prog w = .ok (.enter 23 args) w := enters_of Tryd.func23 (by as_aux_lemma => kernel_rfl) rfl
theorem zmJ : ∀ args w, (callFunc 24 args).run Tryd.prog w = .ok (.enter 24 args) w := enters_of Tryd.func24 (by as_aux_lemma => kernel_rfl) rfl
theorem zpV : ∀ args w, (callFunc 25 args).run Tryd.prog w = .ok (.enter 25 args) w := enters_of Tryd.func25 (by as_aux_lemma => kernel_rfl) rfl
theorem zo6 : ∀ args w, (callFunc 28 args).run Tryd.prog w = .ok (.enter 28 args) w := enters_of Tryd.func28 (by as_aux_lemma => kernel_rfl) rfl
theorem zo5 : ∀ args w, (callFunc 29 args).run Tryd.prog w = .ok (.enter 29 args) w := enters_of Tryd.func29 (by as_aux_lemma => kernel_rfl) rfl
theorem znt : ∀ args w, (callFunc 30 args).run Tryd.prog w = .ok (.enter 30 args) w := enters_of Tryd.func30 (by as_aux_lemma => kernel_rfl) rfl
theorem zns : ∀ args w, (callFunc 31 args).run Tryd.prog w = .ok (.enter 31 args) w := enters_of Tryd.func31 (by as_aux_lemma => kernel_rfl) rfl
theorem zpU : ∀ args w, (callFunc 34 args).run Tryd.prog w = .ok (.enter 34 args) w := enters_of Tryd.func34 (by as_aux_lemma => kernel_rfl) rfl
theorem zpT : ∀ args w, (callFunc 35 args).run Tryd.prog w = .ok (.enter 35 args) w := enters_of Tryd.func35 (by as_aux_lemma => kernel_rfl) rfl
theorem zpS : ∀ args w, (callFunc 36 args).run Tryd.prog w = .ok (.enter 36 args) w := enters_of Tryd.func36 (by as_aux_lemma => kernel_rfl) rfl
theorem zgL : ∀ args w, (callFunc 37 args).run Tryd.prog w = .ok (.enter 37 args) w := enters_of Tryd.func37 (by as_aux_lemma => kernel_rfl) rfl
theorem zol : ∀ args w, (callFunc 38 args).run Tryd.prog w = .ok (.enter 38 args) w := enters_of Tryd.func38 (by as_aux_lemma => kernel_rfl) rfl
theorem zo4 : ∀ args w, (callFunc 44 args).run Tryd.prog w = .ok (.enter 44 args) w := enters_of Tryd.func44 (by as_aux_lemma => kernel_rfl) rfl
theorem zpR : ∀ args w, (callFunc 45 args).run Tryd.prog w = .ok (.enter 45 args) w := enters_of Tryd.func45 (by as_aux_lemma => kernel_rfl) rfl
theorem zpQ : ∀ args w, (callFunc 46 args).run Tryd.prog w = .ok (.enter 46 args) w := enters_of Tryd.func46 (by as_aux_lemma => kernel_rfl) rfl
theorem zpP : ∀ args w, (callFunc 47 args).run Tryd.prog w = .ok (.enter 47 args) w := enters_of Tryd.func47 (by as_aux_lemma => kernel_rfl) rfl
theorem zo3 : ∀ args w, (callFunc 48 args).run Tryd.prog w = .ok (.enter 48 args) w := enters_of Tryd.func48 (by as_aux_lemma => kernel_rfl) rfl
theorem zo2 : ∀ args w, (callFunc 49 args).run Tryd.prog w = .ok (.enter 49 args) w := enters_of Tryd.func49 (by as_aux_lemma => kernel_rfl) rfl
theorem zpO : ∀ args w, (callFunc 50 args).run Tryd.prog w = .ok (.enter 50 args) w := enters_of Tryd.func50 (by as_aux_lemma => kernel_rfl) rfl
theorem zpN : ∀ args w, (callFunc 51 args).run Tryd.prog w = .ok (.enter 51 args) w := enters_of Tryd.func51 (by as_aux_lemma => kernel_rfl) rfl
theorem zo1 : ∀ args w, (callFunc 52 args).run Tryd.prog w = .ok (.enter 52 args) w := enters_of Tryd.func52 (by as_aux_lemma => kernel_rfl) rfl
theorem znr : ∀ args w, (callFunc 55 args).run Tryd.prog w = .ok (.enter 55 args) w := enters_of Tryd.func55 (by as_aux_lemma => kernel_rfl) rfl
theorem zpM : ∀ args w, (callFunc 56 args).run Tryd.prog w = .ok (.enter 56 args) w := enters_of Tryd.func56 (by as_aux_lemma => kernel_rfl) rfl
theorem zpL : ∀ args w, (callFunc 57 args).run Tryd.prog w = .ok (.enter 57 args) w := enters_of Tryd.func57 (by as_aux_lemma => kernel_rfl) rfl
theorem zo0 : ∀ args w, (callFunc 58 args).run Tryd.prog w = .ok (.enter 58 args) w := enters_of Tryd.func58 (by as_aux_lemma => kernel_rfl) rfl
theorem zpK : ∀ args w, (callFunc 59 args).run Tryd.prog w = .ok (.enter 59 args) w := enters_of Tryd.func59 (by as_aux_lemma => kernel_rfl) rfl
theorem zoZ : ∀ args w, (callFunc 60 args).run Tryd.prog w = .ok (.enter 60 args) w := enters_of Tryd.func60 (by as_aux_lemma => kernel_rfl) rfl
theorem zmI : ∀ args w, (callFunc 61 args).run Tryd.prog w = .ok (.enter 61 args) w := enters_of Tryd.func61 (by as_aux_lemma => kernel_rfl) rfl
theorem zok : ∀ args w, (callFunc 62 args).run Tryd.prog w = .ok (.enter 62 args) w := enters_of Tryd.func62 (by as_aux_lemma => kernel_rfl) rfl
theorem zpJ : ∀ args w, (callFunc 63 args).run Tryd.prog w = .ok (.enter 63 args) w := enters_of Tryd.func63 (by as_aux_lemma => kernel_rfl) rfl
theorem zpI : ∀ args w, (callFunc 64 args).run Tryd.prog w = .ok (.enter 64 args) w := enters_of Tryd.func64 (by as_aux_lemma => kernel_rfl) rfl
theorem zoY : ∀ args w, (callFunc 65 args).run Tryd.prog w = .ok (.enter 65 args) w := enters_of Tryd.func65 (by as_aux_lemma => kernel_rfl) rfl
theorem zoX : ∀ args w, (callFunc 66 args).run Tryd.prog w = .ok (.enter 66 args) w := enters_of Tryd.func66 (by as_aux_lemma => kernel_rfl) rfl
theorem zlT : ∀ args w, (callFunc 67 args).run Tryd.prog w = .ok (.enter 67 args) w := enters_of Tryd.func67 (by as_aux_lemma => kernel_rfl) rfl
theorem zlS : ∀ args w, (callFunc 68 args).run Tryd.prog w = .ok (.enter 68 args) w := enters_of Tryd.func68 (by as_aux_lemma => kernel_rfl) rfl
theorem zpH : ∀ args w, (callFunc 69 args).run Tryd.prog w = .ok (.enter 69 args) w := enters_of Tryd.func69 (by as_aux_lemma => kernel_rfl) rfl
theorem zoW : ∀ args w, (callFunc 70 args).run Tryd.prog w = .ok (.enter 70 args) w := enters_of Tryd.func70 (by as_aux_lemma => kernel_rfl) rfl
theorem zpG : ∀ args w, (callFunc 75 args).run Tryd.prog w = .ok (.enter 75 args) w := enters_of Tryd.func75 (by as_aux_lemma => kernel_rfl) rfl
theorem zpF : ∀ args w, (callFunc 76 args).run Tryd.prog w = .ok (.enter 76 args) w := enters_of Tryd.func76 (by as_aux_lemma => kernel_rfl) rfl
theorem zpE : ∀ args w, (callFunc 81 args).run Tryd.prog w = .ok (.enter 81 args) w := enters_of Tryd.func81 (by as_aux_lemma => kernel_rfl) rfl
theorem zpD : ∀ args w, (callFunc 82 args).run Tryd.prog w = .ok (.enter 82 args) w := enters_of Tryd.func82 (by as_aux_lemma => kernel_rfl) rfl
theorem zoV : ∀ args w, (callFunc 85 args).run Tryd.prog w = .ok (.enter 85 args) w := enters_of Tryd.func85 (by as_aux_lemma => kernel_rfl) rfl
theorem zoj : ∀ args w, (callFunc 99 args).run Tryd.prog w = .ok (.enter 99 args) w := enters_of Tryd.func99 (by as_aux_lemma => kernel_rfl) rfl
theorem znT : ∀ args w, (callFunc 100 args).run Tryd.prog w = .ok (.enter 100 args) w := enters_of Tryd.func100 (by as_aux_lemma => kernel_rfl) rfl
theorem mixed : Tryd.prog.follows .mixedOrders = true := by as_aux_lemma => kernel_rfl
end Go.Proofs.YtgfkogafkhbgnaaDoor
namespace Go.Proofs.YtgfkogafkhbgnaaDoor
open Go.RowKit Go.Lib
set_option linter.unusedSimpArgs false
@[ext] structure Gapi_Spot where
  Err : Int
  At : Int
def zc6 (a b : Gapi_Spot) : Bool := (a.Err == b.Err) && (a.At == b.At)
theorem zf0 (a b : Gapi_Spot) : zc6 a b = true ↔ a = b := by
  rcases a with ⟨a0, a1⟩
  rcases b with ⟨b0, b1⟩
  simp [zc6, Bool.and_eq_true, and_assoc]
instance : DecidableEq Gapi_Spot := fun a b => decidable_of_iff _ (zf0 a b)
@[ext] structure Gapi_Span where
  From : Int
  To : Int
def zav (x : Gapi_Span) : List Value := [.int .i64 x.From, .int .i64 x.To]
theorem zbv (x : Gapi_Span) : (zav x).length = 2 := rfl
theorem zcc (x : Gapi_Span) : ∀ u ∈ zav x, u.oneCell' = true := by
  intro u hu
  simp only [zav, List.mem_cons, List.not_mem_nil, or_false] at hu
  rcases hu with rfl | rfl <;> rfl
def zdR (a b : Gapi_Span) : Bool := (a.From == b.From) && (a.To == b.To)
theorem zf1 (a b : Gapi_Span) : zdR a b = true ↔ a = b := by
  rcases a with ⟨a0, a1⟩
  rcases b with ⟨b0, b1⟩
  simp [zdR, Bool.and_eq_true, and_assoc]
instance : DecidableEq Gapi_Span := fun a b => decidable_of_iff _ (zf1 a b)
@[ext] structure Gapi_Verse where
  Text : ByteArray
  Indent : Int
  Stanza : Int
  In : Int
  Span_From : Int
  Span_To : Int
def zam (x : Gapi_Verse) : List Value := [.string x.Text, .int .i64 x.Indent, .int .i64 x.Stanza, .int .i64 x.In, .int .i64 x.Span_From, .int .i64 x.Span_To]
theorem zbI (x : Gapi_Verse) : (zam x).length = 6 := rfl
theorem zfx (x : Gapi_Verse) : ∀ u ∈ zam x, u.oneCell' = true := by
  intro u hu
  simp only [zam, List.mem_cons, List.not_mem_nil, or_false] at hu
  rcases hu with rfl | rfl | rfl | rfl | rfl | rfl <;> rfl
def zcN (a b : Gapi_Verse) : Bool := decide (a.Text = b.Text) && (a.Indent == b.Indent) && (a.Stanza == b.Stanza) && (a.In == b.In) && (a.Span_From == b.Span_From) && (a.Span_To == b.Span_To)
theorem zfK (a b : Gapi_Verse) : zcN a b = true ↔ a = b := by
  rcases a with ⟨a0, a1, a2, a3, a4, a5⟩
  rcases b with ⟨b0, b1, b2, b3, b4, b5⟩
  simp [zcN, Bool.and_eq_true, and_assoc]
instance : DecidableEq Gapi_Verse := fun a b => decidable_of_iff _ (zfK a b)
@[ext] structure Tstruct_at_int_line_int_in_int_e_int_ where
  at_ : Int
  line : Int
  in_ : Int
  e : Int
def zcJ (a b : Tstruct_at_int_line_int_in_int_e_int_) : Bool := (a.at_ == b.at_) && (a.line == b.line) && (a.in_ == b.in_) && (a.e == b.e)
theorem zdK (a b : Tstruct_at_int_line_int_in_int_e_int_) : zcJ a b = true ↔ a = b := by
  rcases a with ⟨a0, a1, a2, a3⟩
  rcases b with ⟨b0, b1, b2, b3⟩
  simp [zcJ, Bool.and_eq_true, and_assoc]
instance : DecidableEq Tstruct_at_int_line_int_in_int_e_int_ := fun a b => decidable_of_iff _ (zdK a b)
@[ext] structure Gapi_Token where
  Kind : Int
  Span_From : Int
  Span_To : Int
def zg5 (a b : Gapi_Token) : Bool := (a.Kind == b.Kind) && (a.Span_From == b.Span_From) && (a.Span_To == b.Span_To)
theorem zhk (a b : Gapi_Token) : zg5 a b = true ↔ a = b := by
  rcases a with ⟨a0, a1, a2⟩
  rcases b with ⟨b0, b1, b2⟩
  simp [zg5, Bool.and_eq_true, and_assoc]
instance : DecidableEq Gapi_Token := fun a b => decidable_of_iff _ (zhk a b)
@[ext] structure Gapi_Place where
  Byte : Int
  Rune : Int
  Unit : Int
  Line : Int
  Col : Int
def zaK (x : Gapi_Place) : List Value := [.int .i64 x.Byte, .int .i64 x.Rune, .int .i64 x.Unit, .int .i64 x.Line, .int .i64 x.Col]
theorem zfz (x : Gapi_Place) : (zaK x).length = 5 := rfl
theorem zfy (x : Gapi_Place) : ∀ u ∈ zaK x, u.oneCell' = true := by
  intro u hu
  simp only [zaK, List.mem_cons, List.not_mem_nil, or_false] at hu
  rcases hu with rfl | rfl | rfl | rfl | rfl <;> rfl
def zg6 (a b : Gapi_Place) : Bool := (a.Byte == b.Byte) && (a.Rune == b.Rune) && (a.Unit == b.Unit) && (a.Line == b.Line) && (a.Col == b.Col)
theorem zhl (a b : Gapi_Place) : zg6 a b = true ↔ a = b := by
  rcases a with ⟨a0, a1, a2, a3, a4⟩
  rcases b with ⟨b0, b1, b2, b3, b4⟩
  simp [zg6, Bool.and_eq_true, and_assoc]
instance : DecidableEq Gapi_Place := fun a b => decidable_of_iff _ (zhl a b)
@[ext] structure Gplace_ended where
  span_From : Int
  span_To : Int
  end_ : Int
  first : Int
def zaF (x : Gplace_ended) : List Value := [.int .i64 x.span_From, .int .i64 x.span_To, .int .i64 x.end_, .int .i64 x.first]
theorem zcB (x : Gplace_ended) : (zaF x).length = 4 := rfl
theorem ze5 (x : Gplace_ended) : ∀ u ∈ zaF x, u.oneCell' = true := by
  intro u hu
  simp only [zaF, List.mem_cons, List.not_mem_nil, or_false] at hu
  rcases hu with rfl | rfl | rfl | rfl <;> rfl
def zgi (a b : Gplace_ended) : Bool := (a.span_From == b.span_From) && (a.span_To == b.span_To) && (a.end_ == b.end_) && (a.first == b.first)
theorem zgK (a b : Gplace_ended) : zgi a b = true ↔ a = b := by
  rcases a with ⟨a0, a1, a2, a3⟩
  rcases b with ⟨b0, b1, b2, b3⟩
  simp [zgi, Bool.and_eq_true, and_assoc]
instance : DecidableEq Gplace_ended := fun a b => decidable_of_iff _ (zgK a b)
@[ext] structure Gword_unit where
  kind : Int
  r : Int
  span_From : Int
  span_To : Int
  alone : Bool
def zg4 (a b : Gword_unit) : Bool := (a.kind == b.kind) && (a.r == b.r) && (a.span_From == b.span_From) && (a.span_To == b.span_To) && (a.alone == b.alone)
theorem zhj (a b : Gword_unit) : zg4 a b = true ↔ a = b := by
  rcases a with ⟨a0, a1, a2, a3, a4⟩
  rcases b with ⟨b0, b1, b2, b3, b4⟩
  simp [zg4, Bool.and_eq_true, and_assoc]
instance : DecidableEq Gword_unit := fun a b => decidable_of_iff _ (zhj a b)
@[ext] structure Gword_scanner where
  state : Int
  t_Kind : Int
  t_Span_From : Int
  t_Span_To : Int
  held_kind : Int
  held_r : Int
  held_span_From : Int
  held_span_To : Int
  held_alone : Bool
def zfZ (a b : Gword_scanner) : Bool := (a.state == b.state) && (a.t_Kind == b.t_Kind) && (a.t_Span_From == b.t_Span_From) && (a.t_Span_To == b.t_Span_To) && (a.held_kind == b.held_kind) && (a.held_r == b.held_r) && (a.held_span_From == b.held_span_From) && (a.held_span_To == b.held_span_To) && (a.held_alone == b.held_alone)
theorem zgw (a b : Gword_scanner) : zfZ a b = true ↔ a = b := by
  rcases a with ⟨a0, a1, a2, a3, a4, a5, a6, a7, a8⟩
  rcases b with ⟨b0, b1, b2, b3, b4, b5, b6, b7, b8⟩
  simp [zfZ, Bool.and_eq_true, and_assoc]
instance : DecidableEq Gword_scanner := fun a b => decidable_of_iff _ (zgw a b)
@[ext] structure Gapi_Piece where
  At : Int
  Width : Int
  Rune : Int
  Broken : Bool
def zg7 (a b : Gapi_Piece) : Bool := (a.At == b.At) && (a.Width == b.Width) && (a.Rune == b.Rune) && (a.Broken == b.Broken)
theorem zhm (a b : Gapi_Piece) : zg7 a b = true ↔ a = b := by
  rcases a with ⟨a0, a1, a2, a3⟩
  rcases b with ⟨b0, b1, b2, b3⟩
  simp [zg7, Bool.and_eq_true, and_assoc]
instance : DecidableEq Gapi_Piece := fun a b => decidable_of_iff _ (zhm a b)
@[ext] structure T_16_utf8_acceptRange where
  e0_lo : Int
  e0_hi : Int
  e1_lo : Int
  e1_hi : Int
  e2_lo : Int
  e2_hi : Int
  e3_lo : Int
  e3_hi : Int
  e4_lo : Int
  e4_hi : Int
  e5_lo : Int
  e5_hi : Int
  e6_lo : Int
  e6_hi : Int
  e7_lo : Int
  e7_hi : Int
  e8_lo : Int
  e8_hi : Int
  e9_lo : Int
  e9_hi : Int
  e10_lo : Int
  e10_hi : Int
  e11_lo : Int
  e11_hi : Int
  e12_lo : Int
  e12_hi : Int
  e13_lo : Int
  e13_hi : Int
  e14_lo : Int
  e14_hi : Int
  e15_lo : Int
  e15_hi : Int
theorem zhq {x y : Operand} (a b : Gapi_Spot) (w : World) : (do eqGuard .neq 26 x y (.agg #[.int .i64 a.Err, .int .i64 a.At]) (.agg #[.int .i64 b.Err, .int .i64 b.At]); binOp .neq 26 (.agg #[.int .i64 a.Err, .int .i64 a.At]) (.agg #[.int .i64 b.Err, .int .i64 b.At]) : Sem Value).run Tryd.prog w = .ok (.bool (!zc6 a b)) w :=
  zjG (by as_aux_lemma => kernel_rfl) (show ((a.Err == b.Err) && ((a.At == b.At) && true)) = zc6 a b by simp [zc6, Bool.and_assoc]) (zjv (dd := 9999) (by as_aux_lemma => kernel_rfl) (by as_aux_lemma => kernel_rfl) (zgj (ft := 24) (off := 0) (a := .int .i64 a.Err) (b := .int .i64 b.Err) (by as_aux_lemma => kernel_rfl) (fun _ => by kernel_rfl) (fun _ => by kernel_rfl) (zfU Tryd.underlying24) (zgj (ft := 3) (off := 1) (a := .int .i64 a.At) (b := .int .i64 b.At) (by as_aux_lemma => kernel_rfl) (fun _ => by kernel_rfl) (fun _ => by kernel_rfl) (zfU Tryd.underlying3) (zju (n := 2) (by as_aux_lemma => kernel_rfl))))) w
theorem zi7 {x y : Operand} (a b : Gapi_Span) (w : World) : (do eqGuard .neq 34 x y (.agg #[.int .i64 a.From, .int .i64 a.To]) (.agg #[.int .i64 b.From, .int .i64 b.To]); binOp .neq 34 (.agg #[.int .i64 a.From, .int .i64 a.To]) (.agg #[.int .i64 b.From, .int .i64 b.To]) : Sem Value).run Tryd.prog w = .ok (.bool (!zdR a b)) w :=
  zjG (by as_aux_lemma => kernel_rfl) (show ((a.From == b.From) && ((a.To == b.To) && true)) = zdR a b by simp [zdR, Bool.and_assoc]) (zjv (dd := 9999) (by as_aux_lemma => kernel_rfl) (by as_aux_lemma => kernel_rfl) (zgj (ft := 3) (off := 0) (a := .int .i64 a.From) (b := .int .i64 b.From) (by as_aux_lemma => kernel_rfl) (fun _ => by kernel_rfl) (fun _ => by kernel_rfl) (zfU Tryd.underlying3) (zgj (ft := 3) (off := 1) (a := .int .i64 a.To) (b := .int .i64 b.To) (by as_aux_lemma => kernel_rfl) (fun _ => by kernel_rfl) (fun _ => by kernel_rfl) (zfU Tryd.underlying3) (zju (n := 2) (by as_aux_lemma => kernel_rfl))))) w
theorem zhp {x y : Operand} (a b : Gapi_Verse) (w : World) : (do eqGuard .neq 36 x y (.agg #[.string a.Text, .int .i64 a.Indent, .int .i64 a.Stanza, .int .i64 a.In, .int .i64 a.Span_From, .int .i64 a.Span_To]) (.agg #[.string b.Text, .int .i64 b.Indent, .int .i64 b.Stanza, .int .i64 b.In, .int .i64 b.Span_From, .int .i64 b.Span_To]); binOp .neq 36 (.agg #[.string a.Text, .int .i64 a.Indent, .int .i64 a.Stanza, .int .i64 a.In, .int .i64 a.Span_From, .int .i64 a.Span_To]) (.agg #[.string b.Text, .int .i64 b.Indent, .int .i64 b.Stanza, .int .i64 b.In, .int .i64 b.Span_From, .int .i64 b.Span_To]) : Sem Value).run Tryd.prog w = .ok (.bool (!zcN a b)) w :=
  zjG (by as_aux_lemma => kernel_rfl) (show (decide (a.Text = b.Text) && ((a.Indent == b.Indent) && ((a.Stanza == b.Stanza) && ((a.In == b.In) && (((a.Span_From == b.Span_From) && ((a.Span_To == b.Span_To) && true)) && true))))) = zcN a b by simp [zcN, Bool.and_assoc]) (zjv (dd := 9999) (by as_aux_lemma => kernel_rfl) (by as_aux_lemma => kernel_rfl) (zgj (ft := 9) (off := 0) (a := .string a.Text) (b := .string b.Text) (by as_aux_lemma => kernel_rfl) (fun _ => by kernel_rfl) (fun _ => by kernel_rfl) (zoi Tryd.underlying9) (zgj (ft := 3) (off := 1) (a := .int .i64 a.Indent) (b := .int .i64 b.Indent) (by as_aux_lemma => kernel_rfl) (fun _ => by kernel_rfl) (fun _ => by kernel_rfl) (zfU Tryd.underlying3) (zgj (ft := 3) (off := 2) (a := .int .i64 a.Stanza) (b := .int .i64 b.Stanza) (by as_aux_lemma => kernel_rfl) (fun _ => by kernel_rfl) (fun _ => by kernel_rfl) (zfU Tryd.underlying3) (zgj (ft := 3) (off := 3) (a := .int .i64 a.In) (b := .int .i64 b.In) (by as_aux_lemma => kernel_rfl) (fun _ => by kernel_rfl) (fun _ => by kernel_rfl) (zfU Tryd.underlying3) (zgj (ft := 34) (off := 4) (a := .agg #[.int .i64 a.Span_From, .int .i64 a.Span_To]) (b := .agg #[.int .i64 b.Span_From, .int .i64 b.Span_To]) (by as_aux_lemma => kernel_rfl) (fun _ => by kernel_rfl) (fun _ => by kernel_rfl) (zjv (dd := 9998) (by as_aux_lemma => kernel_rfl) (by as_aux_lemma => kernel_rfl) (zgj (ft := 3) (off := 0) (a := .int .i64 a.Span_From) (b := .int .i64 b.Span_From) (by as_aux_lemma => kernel_rfl) (fun _ => by kernel_rfl) (fun _ => by kernel_rfl) (zfU Tryd.underlying3) (zgj (ft := 3) (off := 1) (a := .int .i64 a.Span_To) (b := .int .i64 b.Span_To) (by as_aux_lemma => kernel_rfl) (fun _ => by kernel_rfl) (fun _ => by kernel_rfl) (zfU Tryd.underlying3) (zju (n := 2) (by as_aux_lemma => kernel_rfl))))) (zju (n := 5) (by as_aux_lemma => kernel_rfl)))))))) w
def zae (z : (List ByteArray) × Hd) : List Value := [z.2.v]
def zag (z : (List ByteArray) × Hd) : List Asn := [vec zbT 9 1 z.2.v z.1]
theorem zaL (z : (List ByteArray) × Hd) : (zae z).length = 1 := rfl
theorem zcI (z : (List ByteArray) × Hd) : ∀ u ∈ zae z, u.oneCell' = true := by
  intro u hu
  simp only [zae, List.mem_cons, List.not_mem_nil, or_false] at hu
  rcases hu with rfl <;> rfl
structure Gref17_Poem where
  Title : ByteArray
  Stanzas : List (List ByteArray)
structure Gpoem_told where
  title : ByteArray
  lines : List Gapi_Verse
  stanzas : List Gapi_Span
structure Gpoem_Poem where
  told_title : ByteArray
  told_lines : List Gapi_Verse
  told_stanzas : List Gapi_Span
  source : ByteArray
def zau (z : Gpoem_Poem × Hd × Hd) : List Value := [.string z.1.told_title, z.2.1.v, z.2.2.v, .string z.1.source]
def zat (z : Gpoem_Poem × Hd × Hd) : List Asn := [vec zam 36 6 z.2.1.v z.1.told_lines, vec zav 34 2 z.2.2.v z.1.told_stanzas]
structure Gplace_Map where
  text : ByteArray
  places : List Gapi_Place
  lines : List Gplace_ended
def zcz (z : Gplace_Map × Hd × Hd) : List Value := [.string z.1.text, z.2.1.v, z.2.2.v]
def zcy (z : Gplace_Map × Hd × Hd) : List Asn := [vec zaK 130 5 z.2.1.v z.1.places, vec zaF 132 4 z.2.2.v z.1.lines]
end Go.Proofs.YtgfkogafkhbgnaaDoor
namespace Go.Proofs.YtgfkogafkhbgnaaDoor
open Go.RowKit Go.Lib

/-- A piece in the midst: what stands there. -/
theorem zgX : ∀ (P : List Pc) (i : Nat) (l : List UInt8) (x : Pc) (B : List Pc), zdz i l = P ++ x :: B →
    ∃ n, x.i = i + n ∧ n + x.w ≤ l.length ∧ DecOk (l.drop n) x.r x.w ∧ zdz (i + n) (l.drop n) = x :: B ∧ B = zdz (x.i + x.w) (l.drop (n + x.w))
  | [], i, l, x, B, h => by
    by_cases hl : l = []
    · subst hl; simp [zcH] at h
    · have hok := zny l hl
      have h' := h
      rw [zc5 i l hl] at h
      simp only [List.nil_append, List.cons.injEq] at h
      obtain ⟨rfl, hB⟩ := h
      exact ⟨0, by simp, by simpa using hok.le, by simpa using hok, by simpa using h', by simpa using hB.symm⟩
  | p :: P, i, l, x, B, h => by
    by_cases hl : l = []
    · subst hl; simp [zcH] at h
    · have hle := zhw l hl
      rw [zc5 i l hl] at h
      simp only [List.cons_append, List.cons.injEq] at h
      obtain ⟨n, h1, h2, h3, h4, h5⟩ := zgX P _ _ x B h.2
      refine ⟨(decodeL l).2 + n, by omega, by simp at h2; omega, by rw [← List.drop_drop]; exact h3, by rw [← List.drop_drop, ← Nat.add_assoc]; exact h4, ?_⟩
      rw [h5, List.drop_drop, Nat.add_assoc]
theorem zj6 (l : List UInt8) (P : List Pc) (x : Pc) (B : List Pc) (h : pcs l = P ++ x :: B) :
    x.i + x.w ≤ l.length ∧ DecOk (l.drop x.i) x.r x.w ∧ zdz x.i (l.drop x.i) = x :: B ∧ B = zdz (x.i + x.w) (l.drop (x.i + x.w)) := by
  obtain ⟨n, h1, h2, h3, h4, h5⟩ := zgX P 0 l x B h
  have : x.i = n := by omega
  subst this
  exact ⟨h2, h3, by simpa using h4, h5⟩
theorem zmn (l : List UInt8) (x : Pc) (h : x ∈ pcs l) : 1 ≤ x.w ∧ x.i + x.w ≤ l.length ∧ DecOk (l.drop x.i) x.r x.w := by
  obtain ⟨P, B, hs⟩ := List.append_of_mem h
  obtain ⟨h1, h2, _⟩ := zj6 l P x B hs
  exact ⟨h2.pos, h1, h2⟩

end Go.Proofs.YtgfkogafkhbgnaaDoor
namespace Go.Proofs.YtgfkogafkhbgnaaDoor
open Go.RowKit Go.Lib
set_option linter.unusedVariables false
set_option linter.unusedSimpArgs false

/-- Where the k-th piece begins. -/
def zdF (s : ByteArray) (k : Nat) : Nat := match (pcs s.data.toList)[k]? with
  | some p => p.i
  | none => s.size
theorem zlF {s : ByteArray} {k : Nat} {p : Pc} (h : (pcs s.data.toList)[k]? = some p) : zdF s k = p.i := by simp [zdF, h]
theorem zlE (s : ByteArray) : zdF s 0 = 0 := by
  unfold zdF
  by_cases h : s.data.toList = []
  · have : s.size = 0 := by have := congrArg List.length h; simpa using this
    simp [h, pcs, zcH, this]
  · simp [pcs, zc5 0 _ h]
theorem zlG {s : ByteArray} {k : Nat} {p : Pc} (h : (pcs s.data.toList)[k]? = some p) : zdF s (k + 1) = p.i + p.w ∧ zdz p.i (s.data.toList.drop p.i) = p :: (pcs s.data.toList).drop (k + 1) := by
  have hk : k < (pcs s.data.toList).length := (List.getElem?_eq_some_iff.1 h).1
  have he : pcs s.data.toList = (pcs s.data.toList).take k ++ p :: (pcs s.data.toList).drop (k + 1) := by
    have h1 := List.drop_eq_getElem_cons hk
    have h2 : (pcs s.data.toList)[k] = p := (List.getElem?_eq_some_iff.1 h).2
    rw [h2] at h1
    rw [← h1, List.take_append_drop]
  obtain ⟨q1, q2, q3, q4⟩ := zj6 s.data.toList _ p _ he
  have hlen : s.data.toList.length = s.size := by rw [Array.length_toList]; rfl
  refine ⟨?_, q3⟩
  unfold zdF
  have hget : (pcs s.data.toList)[k + 1]? = ((pcs s.data.toList).drop (k + 1))[0]? := by simp
  rw [hget, q4]
  by_cases hd' : s.data.toList.drop (p.i + p.w) = []
  · rw [hd', zcH]
    have h5 := congrArg List.length hd'
    simp only [List.length_drop, List.length_nil, hlen] at h5
    obtain ⟨_, h6, _⟩ := zmn s.data.toList p (List.mem_of_getElem? h)
    simp; omega
  · rw [zc5 _ _ hd']; simp
section
variable {F : Fence} {P : Program} {w0 : World} {K : Nat → Prop} {N : Nat} {dfs : List Deferred} {ops : Array Oper} {Q : Exit → Act → World → Prop} {rest : List Oper} {σ : List (Nat × Value)} {L : List Asn}
  {d : Nat} {t : TypeId} {ty : TypeId} {pos : String} {aft : Array Edge} {g : Option (Nat × Bool)} {x : Operand} {k : Nat} {s : ByteArray}
theorem zfr [WideF F] (ht : P.underlying t = some .string) (hg : gd ops σ g = some true) (hd : d < N) (hx : ev σ x = some (.string s))
    (h : ∀ b, TO F P w0 K N dfs ops Q rest ((d, .pointer (some ⟨b, 0, none⟩)) :: σ) (L ++ [obj b (.stringIter s (zdF s 0))])) : TO F P w0 K N dfs ops Q (⟨some d, .range t x, ty, pos, aft, g⟩ :: rest) σ L :=
  zfD hg (by simp) fun a w ha hw => ⟨.pointer (some ⟨w.heap.size, 0, none⟩), w.alloc (.stringIter s 0), by simp [execOp, ha.ev hx, Instr.range, run_underlying ht, Sem.run_bind], h _ _ _ (ha.put hd _) (by rw [zlE]; exact hw.alloc _)⟩
theorem zfL [WideF F] {it m : Nat} {p : Pc} (hg : gd ops σ g = some true) (hd : d < N) (hx : ev σ x = some (.pointer (some ⟨it, 0, none⟩))) (hk : L[k]? = some (obj it (.stringIter s (zdF s m)))) (hp : (pcs s.data.toList)[m]? = some p)
    (h : TO F P w0 K N dfs ops Q rest ((d, .tuple #[.bool true, .int .i64 p.i, .int .i32 p.r]) :: σ) (L.set k (obj it (.stringIter s (zdF s (m + 1)))))) : TO F P w0 K N dfs ops Q (⟨some d, .next x true, ty, pos, aft, g⟩ :: rest) σ L := by
  refine zfD hg (by simp) fun a w ha hw => ?_
  have hit := hw.obj hk
  rw [zlF hp] at hit
  obtain ⟨h1, h2⟩ := zlG hp
  have hmem := List.mem_of_getElem? hp
  obtain ⟨g1, g2, _⟩ := zmn s.data.toList p hmem
  have hlen : s.data.toList.length = s.size := by rw [Array.length_toList]; rfl
  obtain ⟨r, wd, W1, e1, e2, e3, e4, e5, e6, e7, e8⟩ := zmo P w it s p.i hit (by omega)
  rw [h2] at e6
  have hpe : p = ⟨p.i, wd, r⟩ := (List.cons.inj e6).1
  have hw' : p.w = wd := congrArg Pc.w hpe
  have hr : p.r = r := congrArg Pc.r hpe
  obtain ⟨C1, c1, c2⟩ := hw.focus hk
  refine ⟨.tuple #[.bool true, .int .i64 p.i, .int .i32 p.r], W1, by rw [hr]; simp [execOp, ha.ev hx, e1, Sem.run_bind], h _ _ (ha.put hd _) (c2 _ C1 W1 ⟨?_, fun j hj => .inl hj⟩ ⟨c1.1, by rw [h1, hw']; exact e3⟩)⟩
  exact e2.weaken (fun i _ hi => by subst hi; exact (c1.1 _).2 rfl)
theorem zfM [WideF F] {it m : Nat} (hg : gd ops σ g = some true) (hd : d < N) (hx : ev σ x = some (.pointer (some ⟨it, 0, none⟩))) (hk : L[k]? = some (obj it (.stringIter s (zdF s m)))) (hm : (pcs s.data.toList).length ≤ m)
    (h : TO F P w0 K N dfs ops Q rest ((d, .tuple #[.bool false]) :: σ) L) : TO F P w0 K N dfs ops Q (⟨some d, .next x true, ty, pos, aft, g⟩ :: rest) σ L := by
  refine zfD hg (by simp) fun a w ha hw => ?_
  have hit := hw.obj hk
  have e : zdF s m = s.size := by simp [zdF, List.getElem?_eq_none hm]
  rw [e] at hit
  exact ⟨_, w, by simp [execOp, ha.ev hx, (zmp P w it s s.size hit (by omega)).1, Sem.run_bind], h _ _ (ha.put hd _) hw⟩
end
end Go.Proofs.YtgfkogafkhbgnaaDoor
namespace Go.Proofs
open Go.Shelf
def zhF : Go.Shelf.Ren := ⟨fun | 160 => 75 | 232 => 92 | 231 => 91 | 227 => 83 | 234 => 94 | 233 => 93 | 236 => 96 | 235 => 95 | 228 => 84 | 271 => 111 | 151 => 110 | 197 => 109 | 120 => 117 | 152 => 81 | 260 => 116 | 137 => 99 | 119 => 100 | 224 => 101 | 225 => 102 | 217 => 112 | 266 => 118 | n => n, fun | 9 => 9 | 4 => 4 | 3 => 3 | 5 => 5 | 117 => 144 | 116 => 143 | 0 => 0 | 124 => 161 | 21 => 21 | 105 => 177 | 46 => 100 | 119 => 184 | 139 => 187 | 138 => 186 | n => n, fun | 3 => 1 | 4 => 2 | n => n⟩
theorem zkq : Go.Proofs.Lays.n160 Tryd.prog zhF := {
  mixed := by kernel_rfl
  f119 := Tryd.func100.trans (congrArg some (by kernel_rfl))
  f120 := Tryd.func117.trans (congrArg some (by kernel_rfl))
  f137 := Tryd.func99.trans (congrArg some (by kernel_rfl))
  f151 := Tryd.func110.trans (congrArg some (by kernel_rfl))
  f152 := Tryd.func81.trans (congrArg some (by kernel_rfl))
  f160 := Tryd.func75.trans (congrArg some (by kernel_rfl))
  f197 := Tryd.func109.trans (congrArg some (by kernel_rfl))
  f217 := Tryd.func112.trans (congrArg some (by kernel_rfl))
  f224 := Tryd.func101.trans (congrArg some (by kernel_rfl))
  f225 := Tryd.func102.trans (congrArg some (by kernel_rfl))
  f227 := Tryd.func83.trans (congrArg some (by kernel_rfl))
  f228 := Tryd.func84.trans (congrArg some (by kernel_rfl))
  f231 := Tryd.func91.trans (congrArg some (by kernel_rfl))
  f232 := Tryd.func92.trans (congrArg some (by kernel_rfl))
  f233 := Tryd.func93.trans (congrArg some (by kernel_rfl))
  f234 := Tryd.func94.trans (congrArg some (by kernel_rfl))
  f235 := Tryd.func95.trans (congrArg some (by kernel_rfl))
  f236 := Tryd.func96.trans (congrArg some (by kernel_rfl))
  f260 := Tryd.func116.trans (congrArg some (by kernel_rfl))
  f266 := Tryd.func118.trans (congrArg some (by kernel_rfl))
  f271 := Tryd.func111.trans (congrArg some (by kernel_rfl))
  t0 := Tryd.underlying0
  a0 := Tryd.isAgg0
  z0 := Tryd.sizeOf0
  v0 := Tryd.zeroValue0
  t3 := Tryd.underlying3
  a3 := Tryd.isAgg3
  z3 := Tryd.sizeOf3
  v3 := Tryd.zeroValue3
  t4 := Tryd.underlying4
  a4 := Tryd.isAgg4
  z4 := Tryd.sizeOf4
  v4 := Tryd.zeroValue4
  t5 := Tryd.underlying5
  a5 := Tryd.isAgg5
  z5 := Tryd.sizeOf5
  v5 := Tryd.zeroValue5
  t9 := Tryd.underlying9
  a9 := Tryd.isAgg9
  z9 := Tryd.sizeOf9
  v9 := Tryd.zeroValue9
  t21 := Tryd.underlying21
  a21 := Tryd.isAgg21
  z21 := Tryd.sizeOf21
  v21 := Tryd.zeroValue21
  t46 := Tryd.underlying100
  a46 := Tryd.isAgg100
  z46 := Tryd.sizeOf100
  v46 := Tryd.zeroValue100
  t105 := Tryd.underlying177
  a105 := Tryd.isAgg177
  z105 := Tryd.sizeOf177
  v105 := Tryd.zeroValue177
  t116 := Tryd.underlying143
  a116 := Tryd.isAgg143
  z116 := Tryd.sizeOf143
  t117 := Tryd.underlying144
  a117 := Tryd.isAgg144
  z117 := Tryd.sizeOf144
  v117 := Tryd.zeroValue144
  t119 := Tryd.underlying184
  a119 := Tryd.isAgg184
  z119 := Tryd.sizeOf184
  t124 := Tryd.underlying161
  a124 := Tryd.isAgg161
  z124 := Tryd.sizeOf161
  v124 := Tryd.zeroValue161
  t138 := Tryd.underlying186
  a138 := Tryd.isAgg186
  z138 := Tryd.sizeOf186
  v138 := Tryd.zeroValue186
  t139 := Tryd.underlying187
  a139 := Tryd.isAgg187
  z139 := Tryd.sizeOf187
  v139 := Tryd.zeroValue187
  g3 := by kernel_rfl
  g4 := by kernel_rfl }
def zhI : Go.Shelf.Ren := ⟨fun | 119 => 100 | n => n, fun | 21 => 21 | 4 => 4 | n => n, fun | n => n⟩
theorem zks : Go.Proofs.Lays.n119 Tryd.prog zhI := {
  mixed := by kernel_rfl
  f119 := Tryd.func100.trans (congrArg some (by kernel_rfl))
  t4 := Tryd.underlying4
  a4 := Tryd.isAgg4
  z4 := Tryd.sizeOf4
  v4 := Tryd.zeroValue4
  t21 := Tryd.underlying21
  a21 := Tryd.isAgg21
  z21 := Tryd.sizeOf21
  v21 := Tryd.zeroValue21 }
/-- utf8.ValidRune: "ValidRune reports whether r can be legally encoded as UTF-8. Code points that are out of range or a surrogate half are illegal.": IT RETURNS 'Lib.validRune r'; the world is as it was. (LAID: no walk: one application.) -/
theorem Tryd.utf8_ValidRune (r : Int) (w : World) :
    Calls Tryd.prog 100 #[.int .i32 r] w fun e w' => e = .returned (.bool (Lib.validRune r)) ∧ w' = w := Any.utf8_ValidRune zks r w
def zhH : Go.Shelf.Ren := ⟨fun | 137 => 99 | 217 => 112 | 266 => 118 | n => n, fun | 9 => 9 | 5 => 5 | 3 => 3 | n => n, fun | n => n⟩
theorem zkr : Go.Proofs.Lays.n137 Tryd.prog zhH := {
  mixed := by kernel_rfl
  f137 := Tryd.func99.trans (congrArg some (by kernel_rfl))
  f217 := Tryd.func112.trans (congrArg some (by kernel_rfl))
  f266 := Tryd.func118.trans (congrArg some (by kernel_rfl))
  t3 := Tryd.underlying3
  a3 := Tryd.isAgg3
  z3 := Tryd.sizeOf3
  v3 := Tryd.zeroValue3
  t5 := Tryd.underlying5
  a5 := Tryd.isAgg5
  z5 := Tryd.sizeOf5
  v5 := Tryd.zeroValue5
  t9 := Tryd.underlying9
  a9 := Tryd.isAgg9
  z9 := Tryd.sizeOf9
  v9 := Tryd.zeroValue9 }
open Go.RowKit in
/-- strings.IndexByte: "IndexByte returns the index of the first instance of c in s, or -1 if c is not present in s.": IT RETURNS 'Lib.indexByte s c'; the world is as it was. (LAID: no walk: one application.) -/
theorem Tryd.strings_IndexByte (s : ByteArray) (c : Int) (w : World) :
    Calls Tryd.prog 99 #[.string s, .int .u8 c] w fun e w' => e = .returned (.int .i64 (Lib.indexByte s.data.toList c.toNat.toUInt8)) ∧ w' = w := Any.strings_IndexByte zkr s c w
def zhE : Go.Shelf.Ren := ⟨fun | 226 => 82 | n => n, fun | 3 => 3 | 4 => 4 | n => n, fun | n => n⟩
theorem zkp : Go.Proofs.Lays.n226 Tryd.prog zhE := {
  mixed := by kernel_rfl
  f226 := Tryd.func82.trans (congrArg some (by kernel_rfl))
  t3 := Tryd.underlying3
  a3 := Tryd.isAgg3
  z3 := Tryd.sizeOf3
  v3 := Tryd.zeroValue3
  t4 := Tryd.underlying4
  a4 := Tryd.isAgg4
  z4 := Tryd.sizeOf4
  v4 := Tryd.zeroValue4 }
open Go.RowKit Go.Lib in
theorem Tryd.strings_shouldUseASCIISet (n : Int) (w : World) :
    Calls Tryd.prog 82 #[.int .i64 n] w fun e w' => e = .returned (.bool (decide (8 < n))) ∧ w' = w := Any.strings_shouldUseASCIISet zkp n w
def zhG : Go.Shelf.Ren := ⟨fun | 153 => 59 | 152 => 81 | 226 => 82 | 227 => 83 | 228 => 84 | 137 => 99 | 119 => 100 | 224 => 101 | 225 => 102 | 217 => 112 | 266 => 118 | n => n, fun | 9 => 9 | 3 => 3 | 4 => 4 | 5 => 5 | 21 => 21 | 117 => 144 | 116 => 143 | 0 => 0 | 46 => 100 | 124 => 161 | n => n, fun | n => n⟩
theorem zhy : Go.Proofs.Lays.n153 Tryd.prog zhG := {
  mixed := by kernel_rfl
  f119 := Tryd.func100.trans (congrArg some (by kernel_rfl))
  f137 := Tryd.func99.trans (congrArg some (by kernel_rfl))
  f152 := Tryd.func81.trans (congrArg some (by kernel_rfl))
  f153 := Tryd.func59.trans (congrArg some (by kernel_rfl))
  f217 := Tryd.func112.trans (congrArg some (by kernel_rfl))
  f224 := Tryd.func101.trans (congrArg some (by kernel_rfl))
  f225 := Tryd.func102.trans (congrArg some (by kernel_rfl))
  f226 := Tryd.func82.trans (congrArg some (by kernel_rfl))
  f227 := Tryd.func83.trans (congrArg some (by kernel_rfl))
  f228 := Tryd.func84.trans (congrArg some (by kernel_rfl))
  f266 := Tryd.func118.trans (congrArg some (by kernel_rfl))
  t0 := Tryd.underlying0
  a0 := Tryd.isAgg0
  z0 := Tryd.sizeOf0
  v0 := Tryd.zeroValue0
  t3 := Tryd.underlying3
  a3 := Tryd.isAgg3
  z3 := Tryd.sizeOf3
  v3 := Tryd.zeroValue3
  t4 := Tryd.underlying4
  a4 := Tryd.isAgg4
  z4 := Tryd.sizeOf4
  v4 := Tryd.zeroValue4
  t5 := Tryd.underlying5
  a5 := Tryd.isAgg5
  z5 := Tryd.sizeOf5
  v5 := Tryd.zeroValue5
  t9 := Tryd.underlying9
  a9 := Tryd.isAgg9
  z9 := Tryd.sizeOf9
  v9 := Tryd.zeroValue9
  t21 := Tryd.underlying21
  a21 := Tryd.isAgg21
  z21 := Tryd.sizeOf21
  v21 := Tryd.zeroValue21
  t46 := Tryd.underlying100
  a46 := Tryd.isAgg100
  z46 := Tryd.sizeOf100
  v46 := Tryd.zeroValue100
  t116 := Tryd.underlying143
  a116 := Tryd.isAgg143
  z116 := Tryd.sizeOf143
  t117 := Tryd.underlying144
  a117 := Tryd.isAgg144
  z117 := Tryd.sizeOf144
  v117 := Tryd.zeroValue144
  t124 := Tryd.underlying161
  a124 := Tryd.isAgg161
  z124 := Tryd.sizeOf161
  v124 := Tryd.zeroValue161 }
open Go.RowKit Go.Lib in
theorem Tryd.strings_IndexAny_long (hv116 : ∀ w, (zeroValue 143).run Tryd.prog w = .ok (.agg (Array.replicate 256 (.bool false))) w) (s chars : ByteArray) (w : World) (h2 : 2 ≤ chars.size) (h8 : 8 < s.size) (hs : s.size < 4294967281) (hcs : chars.size < 4294967281) (hascii : ∀ (j : Nat) b, chars.data.toList[j]? = some b → b.toNat < 128) :
    Calls Tryd.prog 59 #[.string s, .string chars] w fun e w' => e = .returned (.int .i64 (Lib.indexAny s.data.toList chars.data.toList)) ∧ w' = ((w.alloc (.cells (Lib.setCells chars.data.toList) 143)).alloc (.cells (Lib.setCells chars.data.toList) 143)) := Any.strings_IndexAny_long zhy hv116 (by kernel_rfl) s chars w h2 h8 hs hcs hascii
def zf2 : Go.Shelf.Ren := ⟨fun | 105 => 15 | 212 => 53 | 99 => 16 | 165 => 54 | 166 => 55 | 170 => 56 | 169 => 57 | 263 => 77 | 264 => 78 | 206 => 58 | 240 => 79 | 241 => 80 | 276 => 97 | 277 => 98 | n => n, fun | 9 => 9 | 3 => 3 | 4 => 4 | 20 => 20 | 0 => 0 | 46 => 100 | 109 => 101 | 5 => 5 | 72 => 106 | 76 => 110 | 51 => 133 | 146 => 134 | 53 => 136 | 148 => 137 | 70 => 103 | 37 => 104 | 75 => 109 | 127 => 139 | 164 => 162 | 80 => 40 | n => n, fun | n => n⟩
theorem zkt : Go.Proofs.Lays.n105 Tryd.prog zf2 := {
  mixed := by kernel_rfl
  f99 := Tryd.func16.trans (congrArg some (by kernel_rfl))
  f105 := Tryd.func15.trans (congrArg some (by kernel_rfl))
  f165 := Tryd.func54.trans (congrArg some (by kernel_rfl))
  f166 := Tryd.func55.trans (congrArg some (by kernel_rfl))
  f169 := Tryd.func57.trans (congrArg some (by kernel_rfl))
  f170 := Tryd.func56.trans (congrArg some (by kernel_rfl))
  f206 := Tryd.func58.trans (congrArg some (by kernel_rfl))
  f212 := Tryd.func53.trans (congrArg some (by kernel_rfl))
  f240 := Tryd.func79.trans (congrArg some (by kernel_rfl))
  f241 := Tryd.func80.trans (congrArg some (by kernel_rfl))
  f263 := Tryd.func77.trans (congrArg some (by kernel_rfl))
  f264 := Tryd.func78.trans (congrArg some (by kernel_rfl))
  f276 := Tryd.func97.trans (congrArg some (by kernel_rfl))
  f277 := Tryd.func98.trans (congrArg some (by kernel_rfl))
  t0 := Tryd.underlying0
  a0 := Tryd.isAgg0
  z0 := Tryd.sizeOf0
  v0 := Tryd.zeroValue0
  t3 := Tryd.underlying3
  a3 := Tryd.isAgg3
  z3 := Tryd.sizeOf3
  v3 := Tryd.zeroValue3
  t4 := Tryd.underlying4
  a4 := Tryd.isAgg4
  z4 := Tryd.sizeOf4
  v4 := Tryd.zeroValue4
  t5 := Tryd.underlying5
  a5 := Tryd.isAgg5
  z5 := Tryd.sizeOf5
  v5 := Tryd.zeroValue5
  t9 := Tryd.underlying9
  a9 := Tryd.isAgg9
  z9 := Tryd.sizeOf9
  v9 := Tryd.zeroValue9
  t20 := Tryd.underlying20
  a20 := Tryd.isAgg20
  z20 := Tryd.sizeOf20
  v20 := Tryd.zeroValue20
  t37 := Tryd.underlying104
  a37 := Tryd.isAgg104
  z37 := Tryd.sizeOf104
  v37 := Tryd.zeroValue104
  t46 := Tryd.underlying100
  a46 := Tryd.isAgg100
  z46 := Tryd.sizeOf100
  v46 := Tryd.zeroValue100
  t51 := Tryd.underlying133
  a51 := Tryd.isAgg133
  z51 := Tryd.sizeOf133
  v51 := Tryd.zeroValue133
  t53 := Tryd.underlying136
  a53 := Tryd.isAgg136
  z53 := Tryd.sizeOf136
  v53 := Tryd.zeroValue136
  t70 := Tryd.underlying103
  a70 := Tryd.isAgg103
  z70 := Tryd.sizeOf103
  v70 := Tryd.zeroValue103
  t72 := Tryd.underlying106
  a72 := Tryd.isAgg106
  z72 := Tryd.sizeOf106
  v72 := Tryd.zeroValue106
  t75 := Tryd.underlying109
  a75 := Tryd.isAgg109
  z75 := Tryd.sizeOf109
  v75 := Tryd.zeroValue109
  t76 := Tryd.underlying110
  a76 := Tryd.isAgg110
  z76 := Tryd.sizeOf110
  v76 := Tryd.zeroValue110
  t109 := Tryd.underlying101
  a109 := Tryd.isAgg101
  z109 := Tryd.sizeOf101
  v109 := Tryd.zeroValue101
  t127 := Tryd.underlying139
  a127 := Tryd.isAgg139
  z127 := Tryd.sizeOf139
  v127 := Tryd.zeroValue139
  t146 := Tryd.underlying134
  a146 := Tryd.isAgg134
  z146 := Tryd.sizeOf134
  v146 := Tryd.zeroValue134
  t148 := Tryd.underlying137
  a148 := Tryd.isAgg137
  z148 := Tryd.sizeOf137
  v148 := Tryd.zeroValue137
  t164 := Tryd.underlying162
  a164 := Tryd.isAgg162
  z164 := Tryd.sizeOf162
  v164 := Tryd.zeroValue162 }
theorem zf4 : Builder.Extra Tryd.prog zf2 := {
  sizeBuilder := by kernel_rfl
  liesBuilder := by kernel_rfl
  t5 := Tryd.underlying5
  a5 := Tryd.isAgg5
  z5 := Tryd.sizeOf5
  v5 := Tryd.zeroValue5
  infoByte := by kernel_rfl
  cellsByte := by kernel_rfl
  sizeByte := by kernel_rfl
  neB5 := by decide }
open Go.RowKit Go.Lib in
/-- **strings.Repeat: count ≥ 0, the result within one allocation: count copies of s.** (LAID: no walk: one application.) -/
theorem Tryd.strings_Repeat (s : ByteArray) (c : Nat) (w : World) (hc : c ≤ 9223372036854775807) (hlen : s.size * c ≤ 140737488355328) :
    Calls Tryd.prog 15 #[.string s, .int .i64 c] w fun e w' => e = .returned (.string ⟨(Lib.repeatL s.data.toList c).toArray⟩) ∧ Below w.heap.size w w' := Any.strings_Repeat zkt zf4 s c w hc hlen
end Go.Proofs
namespace Go.Proofs.YtgfkogafkhbgnaaDoor
open Go.RowKit Go.Lib Go.Shelf
set_option linter.unusedVariables false
set_option linter.unusedSimpArgs false
theorem ziB {P : Program} {f : FuncId} {vs : List Value} {v : Value} (h : ∀ w, Calls P f vs.toArray w fun e w' => e = .returned v ∧ w' = w) : FnP P f vs v := fun w => (h w).mono fun e w' ⟨h1, h2⟩ => ⟨h1, h2 ▸ Below.refl _ _⟩
theorem zkL (s : ByteArray) (c : Int) : FnP Tryd.prog 99 [.string s, .int .u8 c] (.int .i64 (Lib.indexByte s.data.toList c.toNat.toUInt8)) := ziB fun w => Tryd.strings_IndexByte s c w
theorem zl1 (r : Int) : FnP Tryd.prog 100 [.int .i32 r] (.bool (Lib.validRune r)) := ziB fun w => Tryd.utf8_ValidRune r w
theorem zoL (n : Int) : FnP Tryd.prog 82 [.int .i64 n] (.bool (decide (8 < n))) := ziB fun w => Tryd.strings_shouldUseASCIISet n w
def zcF (n : Int) : ByteArray := ⟨(Lib.repeatL [32] n.toNat).toArray⟩
theorem zm7 (n : Int) (h : 0 ≤ n ∧ n ≤ 140737488355328) : FnP Tryd.prog 15 [.string ⟨#[32]⟩, .int .i64 n] (.string (zcF n)) := fun w => by
  obtain ⟨c, rfl⟩ : ∃ c : Nat, n = c := ⟨n.toNat, by omega⟩
  have h1 : (⟨#[32]⟩ : ByteArray).size = 1 := rfl
  exact Tryd.strings_Repeat ⟨#[32]⟩ c w (by omega) (by rw [h1, Nat.one_mul]; omega)
def zk4 (s : ByteArray) : ByteArray := ⟨(Lib.trimS s.data.toList [32, 9]).toArray⟩
theorem zoI (s : ByteArray) (hs : s.size ≤ 9223372036854775807) : FnP Tryd.prog 75 [.string s, .string ⟨#[32, 9]⟩] (.string (zk4 s)) := fun w =>
  Any.strings_Trim_laid zkq (by kernel_rfl) s ⟨#[32, 9]⟩ w hs (by decide) (ascii_of_all (by decide))
theorem znk (s : ByteArray) (h8 : 8 < s.size) (hs : s.size < 4294967281) : FnP Tryd.prog 59 [.string s, .string ⟨#[13, 10]⟩] (.int .i64 (Lib.indexAny s.data.toList [13, 10])) := fun w => by
  refine (Any.strings_IndexAny_long zhy (zero_of_info (n := 256) (by kernel_rfl)).1 (by kernel_rfl) s ⟨#[13, 10]⟩ w (by decide) h8 hs (by decide) (ascii_of_all (by decide))).mono fun e w' ⟨h1, h2⟩ => ⟨h1, ?_⟩
  rw [h2]
  exact ((Below.refl _ _).alloc (Nat.le_refl _) _).alloc (by simp) _
end Go.Proofs.YtgfkogafkhbgnaaDoor
namespace Go.Proofs.YtgfkogafkhbgnaaDoor
open Go.RowKit Go.Lib
set_option linter.unusedVariables false
set_option linter.unusedSimpArgs false
def zbK (j1 : Option Int) (ag1 : Nat → Option Int) (m3 : Nat) : Option Int := zaU (decide (m3 < (pcs (⟨#[13, 10]⟩ : ByteArray).data.toList).length)) ( zaG ((pcs (⟨#[13, 10]⟩ : ByteArray).data.toList)[m3]?) fun (p1 : Pc) => zaU (((p1.r : Int) : Int) == 65533) ( some (p1.i : Int)
) ( ag1 (m3 + 1)
)
) ( j1
)
def zcl (r1 : Int) (i1 : Int) (j4 : Option Int) (ag3 : Int → Option Int) (j7 : Int) : Option Int := zaU (decide ((j7 : Int) < ((Utf8.encode r1).size : Int))) ( grd (I64 (i1 - j7)) <| zaG (zgo (⟨#[13, 10]⟩ : ByteArray) (i1 - j7)) fun (c4 : Int) => grd (I64 ((((Utf8.encode r1).size : Int) - 1) - j7)) <| zaG (zgo (Utf8.encode r1) ((((Utf8.encode r1).size : Int) - 1) - j7)) fun (c5 : Int) => zaU ((c4 : Int) != c5) ( none
) ( grd (I64 (j7 + 1)) <| ag3 (j7 + 1)
)
) ( j4
)
def zbY (r1 : Int) (j2 : Option Int) (ag2 : Option Int) : Option Int := zaU (decide (((((Utf8.encode r1).size : Int) - 1) : Int) < ((⟨#[13, 10]⟩ : ByteArray).size : Int))) ( zbO (fun (j3 : Int → Option Int) => zaG (zgo (⟨#[13, 10]⟩ : ByteArray) (((Utf8.encode r1).size : Int) - 1)) fun (c1 : Int) => zaG (zgo (Utf8.encode r1) (((Utf8.encode r1).size : Int) - 1)) fun (c2 : Int) => zaU ((c1 : Int) != c2) ( grd (I64 ((((Utf8.encode r1).size : Int) - 1) + 1)) <| grd (0 ≤ ((((Utf8.encode r1).size : Int) - 1) + 1 : Int) ∧ ((((Utf8.encode r1).size : Int) - 1) + 1 : Int) ≤ ((⟨#[13, 10]⟩ : ByteArray).size : Int) ∧ (((⟨#[13, 10]⟩ : ByteArray).size : Int) : Int) ≤ ((⟨#[13, 10]⟩ : ByteArray).size : Int)) <| zaG (zgo (Utf8.encode r1) (((Utf8.encode r1).size : Int) - 1)) fun (c3 : Int) => zaU (decide (((Lib.indexByte (zbn (⟨#[13, 10]⟩ : ByteArray) ((((Utf8.encode r1).size : Int) - 1) + 1) ((⟨#[13, 10]⟩ : ByteArray).size : Int)).data.toList (c3 : Int).toNat.toUInt8) : Int) < 0)) ( some (-1)
) ( grd (I64 ((Lib.indexByte (zbn (⟨#[13, 10]⟩ : ByteArray) ((((Utf8.encode r1).size : Int) - 1) + 1) ((⟨#[13, 10]⟩ : ByteArray).size : Int)).data.toList (c3 : Int).toNat.toUInt8) + 1)) <| grd (I64 ((((Utf8.encode r1).size : Int) - 1) + ((Lib.indexByte (zbn (⟨#[13, 10]⟩ : ByteArray) ((((Utf8.encode r1).size : Int) - 1) + 1) ((⟨#[13, 10]⟩ : ByteArray).size : Int)).data.toList (c3 : Int).toNat.toUInt8) + 1))) <| j3 ((((Utf8.encode r1).size : Int) - 1) + ((Lib.indexByte (zbn (⟨#[13, 10]⟩ : ByteArray) ((((Utf8.encode r1).size : Int) - 1) + 1) ((⟨#[13, 10]⟩ : ByteArray).size : Int)).data.toList (c3 : Int).toNat.toUInt8) + 1))
)
) ( j3 (((Utf8.encode r1).size : Int) - 1)
)
) (fun (i1 : Int) => zbO (fun (j4 : Option Int) => za8 (fun _ => none) (zcl r1 i1 j4) zb0 1
) ( grd (I64 (i1 - (((Utf8.encode r1).size : Int) - 1))) <| some (i1 - (((Utf8.encode r1).size : Int) - 1))
)
)
) ( j2
)
def zck (j8 : Option Int) (ag4 : Nat → Option Int) (m6 : Nat) : Option Int := zaU (decide (m6 < (pcs (⟨#[13, 10]⟩ : ByteArray).data.toList).length)) ( zaG ((pcs (⟨#[13, 10]⟩ : ByteArray).data.toList)[m6]?) fun (p2 : Pc) => zaU (((p2.r : Int) : Int) == 65533) ( some (p2.i : Int)
) ( ag4 (m6 + 1)
)
) ( j8
)
def zci (r1 : Int) (i2 : Int) (j11 : Option Int) (ag6 : Int → Option Int) (j14 : Int) : Option Int := zaU (decide ((j14 : Int) < ((Utf8.encode r1).size : Int))) ( grd (I64 (i2 - j14)) <| zaG (zgo (⟨#[13, 10]⟩ : ByteArray) (i2 - j14)) fun (c9 : Int) => grd (I64 ((((Utf8.encode r1).size : Int) - 1) - j14)) <| zaG (zgo (Utf8.encode r1) ((((Utf8.encode r1).size : Int) - 1) - j14)) fun (c10 : Int) => zaU ((c9 : Int) != c10) ( none
) ( grd (I64 (j14 + 1)) <| ag6 (j14 + 1)
)
) ( j11
)
def zcj (r1 : Int) (j9 : Option Int) (ag5 : Option Int) : Option Int := zaU (decide (((((Utf8.encode r1).size : Int) - 1) : Int) < ((⟨#[13, 10]⟩ : ByteArray).size : Int))) ( zbO (fun (j10 : Int → Option Int) => zaG (zgo (⟨#[13, 10]⟩ : ByteArray) (((Utf8.encode r1).size : Int) - 1)) fun (c6 : Int) => zaG (zgo (Utf8.encode r1) (((Utf8.encode r1).size : Int) - 1)) fun (c7 : Int) => zaU ((c6 : Int) != c7) ( grd (I64 ((((Utf8.encode r1).size : Int) - 1) + 1)) <| grd (0 ≤ ((((Utf8.encode r1).size : Int) - 1) + 1 : Int) ∧ ((((Utf8.encode r1).size : Int) - 1) + 1 : Int) ≤ ((⟨#[13, 10]⟩ : ByteArray).size : Int) ∧ (((⟨#[13, 10]⟩ : ByteArray).size : Int) : Int) ≤ ((⟨#[13, 10]⟩ : ByteArray).size : Int)) <| zaG (zgo (Utf8.encode r1) (((Utf8.encode r1).size : Int) - 1)) fun (c8 : Int) => zaU (decide (((Lib.indexByte (zbn (⟨#[13, 10]⟩ : ByteArray) ((((Utf8.encode r1).size : Int) - 1) + 1) ((⟨#[13, 10]⟩ : ByteArray).size : Int)).data.toList (c8 : Int).toNat.toUInt8) : Int) < 0)) ( some (-1)
) ( grd (I64 ((Lib.indexByte (zbn (⟨#[13, 10]⟩ : ByteArray) ((((Utf8.encode r1).size : Int) - 1) + 1) ((⟨#[13, 10]⟩ : ByteArray).size : Int)).data.toList (c8 : Int).toNat.toUInt8) + 1)) <| grd (I64 ((((Utf8.encode r1).size : Int) - 1) + ((Lib.indexByte (zbn (⟨#[13, 10]⟩ : ByteArray) ((((Utf8.encode r1).size : Int) - 1) + 1) ((⟨#[13, 10]⟩ : ByteArray).size : Int)).data.toList (c8 : Int).toNat.toUInt8) + 1))) <| j10 ((((Utf8.encode r1).size : Int) - 1) + ((Lib.indexByte (zbn (⟨#[13, 10]⟩ : ByteArray) ((((Utf8.encode r1).size : Int) - 1) + 1) ((⟨#[13, 10]⟩ : ByteArray).size : Int)).data.toList (c8 : Int).toNat.toUInt8) + 1))
)
) ( j10 (((Utf8.encode r1).size : Int) - 1)
)
) (fun (i2 : Int) => zbO (fun (j11 : Option Int) => za8 (fun _ => none) (zci r1 i2 j11) zb0 1
) ( grd (I64 (i2 - (((Utf8.encode r1).size : Int) - 1))) <| some (i2 - (((Utf8.encode r1).size : Int) - 1))
)
)
) ( j9
)
def zb2 (r1 : Int) : Option Int := zaU (decide ((0 : Int) ≤ r1)) ( zaU (decide ((r1 : Int) < 128)) ( some (Lib.indexByte (⟨#[13, 10]⟩ : ByteArray).data.toList (IntKind.u8.wrap r1 : Int).toNat.toUInt8)
) ( zaU ((r1 : Int) == 65533) ( zbO (fun (j1 : Option Int) => za8 (fun _ => none) (zbK j1) zb0 0
) ( some (-1)
)
) ( zaU (!(Lib.validRune r1)) ( some (-1)
) ( zbO (fun (j2 : Option Int) => grd (I64 (((Utf8.encode r1).size : Int) - 1)) <| za8 none (zbY r1 j2) zb0
) ( some (-1)
)
)
)
)
) ( zaU ((r1 : Int) == 65533) ( zbO (fun (j8 : Option Int) => za8 (fun _ => none) (zck j8) zb0 0
) ( some (-1)
)
) ( zaU (!(Lib.validRune r1)) ( some (-1)
) ( zbO (fun (j9 : Option Int) => grd (I64 (((Utf8.encode r1).size : Int) - 1)) <| za8 none (zcj r1 j9) zb0
) ( some (-1)
)
)
)
)
theorem zfA {r1 : Int} {r : Int} (h : zb2 r1 = some r) : FnP Tryd.prog 81 [.string (⟨#[13, 10]⟩ : ByteArray), .int .i32 r1] (zI r) := by
 unfold zb2 at h
 refine FnP.intro Tryd.func81 rfl Tryd.ntmps81 (by simp) ?_
 intro w0 K
 refine zas (zai (zak rfl dc rfl (zap (zaj (za2 (zas (zai (zah rfl dc rfl (zaz rfl dc rfl rfl zjF (zah rfl dc rfl ?_))))))))))
 refine za6 (s := 163) rfl (fun hb1 => ?_) (fun hb1 => ?_)
 ·
  have h := za0 hb1 h
  refine zah rfl dc rfl (zaz rfl dc rfl rfl zbF (zaB (b := true) rfl dc rfl rfl (zak rfl dc rfl (zap (zaj ?_)))))
  refine zaM rfl (fun hb2 => ?_) (fun hb2 => ?_)
  ·
   have h := za0 hb2 h
   refine zas (zai (zah rfl dc rfl (zah rfl dc rfl (zjK rfl dc rfl (zmQ Tryd.underlying21 Tryd.underlying5) (zbH (v := zI (Lib.indexByte (⟨#[13, 10]⟩ : ByteArray).data.toList (IntKind.u8.wrap r1 : Int).toNat.toUInt8)) (vs := [.string (⟨#[13, 10]⟩ : ByteArray), .int .u8 (IntKind.u8.wrap r1)]) rfl dc rfl rfl rfl zoj (zkL (⟨#[13, 10]⟩ : ByteArray) (IntKind.u8.wrap r1)) (zak rfl dc rfl (zap (zaj (zaX (zaI ?_))))))))))
   cases h
   exact za3 (rs := [.tmp 4]) () (.inl rfl) Tryd.results81 (.cons (.tmp rfl) .nil) rfl Splits.nil
  ·
   have h := za1 hb2 h
   refine zas (zai (zah rfl dc rfl (zaz rfl dc rfl rfl zb6 (zak rfl dc rfl (zap (zaj ?_))))))
   refine zaM rfl (fun hb3 => ?_) (fun hb3 => ?_)
   ·
    have h := za0 hb3 h
    obtain ⟨j1, hj1, h⟩ := zcp h
    refine zbm (β := Unit) 0 rfl (fun b => j1 = some r) (fun b => []) (fun b => []) (fun b => []) (fun cut => ?_) ?_
    ·
     refine cut (zas (zai (zah rfl dc rfl ?_)))
     refine zfr Tryd.underlying9 rfl dc rfl (fun b1 => ?_)
     refine zap (zaj (za2 ?_))
     refine zbJ (β := Nat × Nat) (fun b => za8 (fun _ => none) (zbK j1) b.1 b.2 = some r) (fun b => []) (fun b => [(175, zP b1)]) (fun b => [obj b1 (.stringIter (⟨#[13, 10]⟩ : ByteArray) (zdF (⟨#[13, 10]⟩ : ByteArray) b.2))]) (fun b => b.1) (zb0, 0) h rfl (zad rfl (zaH)) (zal [0] kr rfl) ?_
     rintro ⟨n1, m3⟩ h
     cases n1 with
     | zero => exact zdV h
     | succ n1 =>
      obtain ⟨ag1, hag1⟩ : ∃ ag, ag = za8 (fun _ => none) (zbK j1) n1 := ⟨_, rfl⟩
      have h : zbK j1 ag1 m3 = some r := by rw [hag1]; exact h
      unfold zbK at h
      show TC _ _ _ _ _ ([]) _ _ [(175, zP b1)] [obj b1 (.stringIter (⟨#[13, 10]⟩ : ByteArray) (zdF (⟨#[13, 10]⟩ : ByteArray) m3))]
      refine zas (zai ?_)
      refine zfO (b := decide (m3 < (pcs (⟨#[13, 10]⟩ : ByteArray).data.toList).length)) (fun hb4 => ?_) (fun hb4 => ?_)
      ·
       have h := za0 hb4 h
       obtain ⟨p1, hq1, h⟩ := zbN h
       refine zfL (k := 0) (m := m3) (p := p1) rfl dc rfl rfl hq1 (zaS rfl dc rfl rfl (zap (zaj (zas (zbu rfl (zaP (zaj (za2 (zas (zai (zaS rfl dc rfl rfl (zaS rfl dc rfl rfl (zak rfl dc rfl ?_)))))))))))))
       refine zak rfl dc rfl (zap (zaj (zas (zai (zah rfl dc rfl (zaz rfl dc rfl rfl zb6 (zap (zaj ?_))))))))
       refine zaM rfl (fun hb5 => ?_) (fun hb5 => ?_)
       ·
        have h := za0 hb5 h
        refine zas (zai (zah rfl dc rfl (zak rfl dc rfl (zap (zaj (zaX (zaI (zay (zaI (zay (zaI ?_)))))))))))
        cases h
        exact za3 (rs := [.tmp 4]) () (.inl rfl) Tryd.results81 (.cons (.tmp rfl) .nil) rfl Splits.nil
       ·
        have h := za1 hb5 h
        refine zaP (zaA ?_)
        subst hag1
        exact zbj (n1, m3 + 1) h (Nat.lt_succ_self _) rfl (zad rfl (zaH)) (zal [0] kr rfl)
      ·
       have h := za1 hb4 h
       refine zfM (k := 0) (m := m3) rfl dc rfl rfl (Nat.le_of_not_lt (of_decide_eq_false hb4)) (zaS rfl dc rfl rfl (zap (zaj (zas (zbp rfl (zby (zaJ (zaJ (zaV ?_)))))))))
       exact zaO () h rfl (zaH) Splits.nil
    ·
     rintro _ h
     rw [hj1] at h
     show TC _ _ _ _ _ ([]) _ _ [] []
     refine zas (zai (zak rfl dc rfl (zap (zaj (zaX (zaI ?_))))))
     cases h
     exact za3 (rs := [.tmp 4]) () (.inl rfl) Tryd.results81 (.cons (.tmp rfl) .nil) rfl Splits.nil
   ·
    have h := za1 hb3 h
    refine zas (zai (zah rfl dc rfl (zbH (v := .bool (Lib.validRune r1)) (vs := [.int .i32 r1]) rfl dc rfl rfl rfl znT (zl1 r1) (zhJ rfl dc rfl zfX (zak rfl dc rfl (zap (zaj ?_)))))))
    refine zaM rfl (fun hb6 => ?_) (fun hb6 => ?_)
    ·
     have h := za0 hb6 h
     refine zas (zai (zak rfl dc rfl (zap (zaj (zaX (zaI ?_))))))
     cases h
     exact za3 (rs := [.tmp 4]) () (.inl rfl) Tryd.results81 (.cons (.tmp rfl) .nil) rfl Splits.nil
    ·
     have h := za1 hb6 h
     refine zgs (β := Unit) (l := 1) (fun _ => False) (fun _ => []) (fun _ => []) rfl ?_ ?_
     ·
      obtain ⟨j2, hj2, h⟩ := zcp h
      refine zbm (β := Unit) 4 rfl (fun b => j2 = some r) (fun b => []) (fun b => []) (fun b => []) (fun cut => ?_) ?_
      ·
       refine zas (zai (zah rfl dc rfl (zjK rfl dc rfl (zkm Tryd.underlying21 Tryd.underlying9) (zak rfl dc rfl (zap (zaj (zas (zai (zah rfl dc rfl (zbA rfl dc rfl Tryd.underlying9 ?_))))))))))
       obtain ⟨hg1, h⟩ := zcb h
       refine zaz rfl dc rfl rfl (zec (r := ((Utf8.encode r1).size : Int) - 1) (IntWalk.i64_in _ hg1)) (zak rfl dc rfl (zap (zaj (zas (zai (zah rfl dc rfl (zak rfl dc rfl (zap (zaj (zas (zai (zak rfl dc rfl (zap ?_)))))))))))))
       refine zaj (cut (za2 ?_))
       refine zbJ (β := Nat) (fun b => za8 none (zbY r1 j2) b = some r) (fun b => []) (fun b => [(0, .string (⟨#[13, 10]⟩ : ByteArray)), (7, .string (Utf8.encode r1)), (8, zI (((Utf8.encode r1).size : Int) - 1)), (9, zI (((Utf8.encode r1).size : Int) - 1))]) (fun b => []) (fun b => b) zb0 h rfl (zad rfl (zad rfl (zad rfl (zad rfl (zaH))))) Splits.nil ?_
       rintro n2 h
       cases n2 with
       | zero => exact zdV h
       | succ n2 =>
        obtain ⟨ag2, hag2⟩ : ∃ ag, ag = za8 none (zbY r1 j2) n2 := ⟨_, rfl⟩
        have h : zbY r1 j2 ag2 = some r := by rw [hag2]; exact h
        unfold zbY at h
        show TC _ _ _ _ _ ([]) _ _ [(0, .string (⟨#[13, 10]⟩ : ByteArray)), (7, .string (Utf8.encode r1)), (8, zI (((Utf8.encode r1).size : Int) - 1)), (9, zI (((Utf8.encode r1).size : Int) - 1))] []
        refine zas (zas (zai (zah rfl dc rfl (zah rfl dc rfl (zbA rfl dc rfl Tryd.underlying9 (zaz rfl dc rfl rfl zbF (zap (zaj ?_))))))))
        refine zaM rfl (fun hb7 => ?_) (fun hb7 => ?_)
        ·
         have h := za0 hb7 h
         refine zaP (zaj (za2 ?_))
         refine zgs (β := Unit) (l := 0) (fun _ => False) (fun _ => []) (fun _ => []) rfl ?_ ?_
         ·
          obtain ⟨j3, hj3, h⟩ := zcp h
          refine zbm (β := Int) 0 rfl (fun b => j3 b = some r) (fun b => []) (fun b => [(0, .string (⟨#[13, 10]⟩ : ByteArray)), (7, .string (Utf8.encode r1)), (8, zI (((Utf8.encode r1).size : Int) - 1)), (9, zI b)]) (fun b => []) (fun cut => ?_) ?_
          ·
           refine cut (zas ?_)
           obtain ⟨c1, hq2, h⟩ := zbN h
           obtain ⟨c2, hq3, h⟩ := zbN h
           refine zbR 6 [(0, 27, .string (⟨#[13, 10]⟩ : ByteArray)), (1, 28, zI (((Utf8.encode r1).size : Int) - 1)), (2, 29, .int .u8 c1), (3, 30, .string (Utf8.encode r1)), (4, 31, zI (((Utf8.encode r1).size : Int) - 1)), (5, 32, .int .u8 c2)] mixed kr kr dc (by rfl) kr kr (zac ?_ (zac ?_ (zac ?_ (zac ?_ (zac ?_ (zac ?_ DrawPre.nil)))))) ?_
           ·
            intro D hn hd hcl hu hi
            refine zah rfl dc (zaE (by rfl) rfl) ?_
            exact zaf 0 hu hi rfl
           ·
            intro D hn hd hcl hu hi
            refine zah rfl dc (zaE (by rfl) rfl) ?_
            exact zaf 1 hu hi rfl
           ·
            intro D hn hd hcl hu hi
            refine zbW rfl dc (zab (m := 0) hu rfl (hd 0 dc)) (zab (m := 1) hu rfl (hd 1 dc)) (zba Tryd.underlying9 hq2) ?_
            exact zaf 2 hu hi rfl
           ·
            intro D hn hd hcl hu hi
            refine zah rfl dc (zaE (by rfl) rfl) ?_
            exact zaf 3 hu hi rfl
           ·
            intro D hn hd hcl hu hi
            refine zah rfl dc (zaE (by rfl) rfl) ?_
            exact zaf 4 hu hi rfl
           ·
            intro D hn hd hcl hu hi
            refine zbW rfl dc (zab (m := 3) hu rfl (hd 3 dc)) (zab (m := 4) hu rfl (hd 4 dc)) (zba Tryd.underlying9 hq3) ?_
            exact zaf 5 hu hi rfl
           refine zaz rfl dc rfl rfl zbE (zap (zaj ?_))
           refine zaM rfl (fun hb8 => ?_) (fun hb8 => ?_)
           ·
            have h := za0 hb8 h
            refine zas ?_
            obtain ⟨hg2, h⟩ := zcb h
            obtain ⟨hg3, h⟩ := zcb h
            obtain ⟨c3, hq4, h⟩ := zbN h
            refine zbR 7 [(0, 34, .string (⟨#[13, 10]⟩ : ByteArray)), (1, 35, zI (((Utf8.encode r1).size : Int) - 1)), (2, 36, zI ((((Utf8.encode r1).size : Int) - 1) + 1)), (3, 37, .string (zbn (⟨#[13, 10]⟩ : ByteArray) ((((Utf8.encode r1).size : Int) - 1) + 1) ((⟨#[13, 10]⟩ : ByteArray).size : Int))), (4, 38, .string (Utf8.encode r1)), (5, 39, zI (((Utf8.encode r1).size : Int) - 1)), (6, 40, .int .u8 c3)] mixed kr kr dc (by rfl) kr kr (zac ?_ (zac ?_ (zac ?_ (zac ?_ (zac ?_ (zac ?_ (zac ?_ DrawPre.nil))))))) ?_
            ·
             intro D hn hd hcl hu hi
             refine zah rfl dc (zaE (by rfl) rfl) ?_
             exact zaf 0 hu hi rfl
            ·
             intro D hn hd hcl hu hi
             refine zah rfl dc (zaE (by rfl) rfl) ?_
             exact zaf 1 hu hi rfl
            ·
             intro D hn hd hcl hu hi
             refine zaz rfl dc (zab (m := 1) hu rfl (hd 1 dc)) rfl (zbh (r := (((Utf8.encode r1).size : Int) - 1) + 1) (IntWalk.i64_in _ hg2)) ?_
             exact zaf 2 hu hi rfl
            ·
             intro D hn hd hcl hu hi
             refine zeD rfl dc (zab (m := 0) hu rfl (hd 0 dc)) (evO.some (zab (m := 2) hu rfl (hd 2 dc))) zg3 (zcv (i := (((Utf8.encode r1).size : Int) - 1) + 1) (j := ((⟨#[13, 10]⟩ : ByteArray).size : Int)) Tryd.underlying9 (.inr rfl) (.inl ⟨rfl, rfl⟩) hg3) ?_
             exact zaf 3 hu hi rfl
            ·
             intro D hn hd hcl hu hi
             refine zah rfl dc (zaE (by rfl) rfl) ?_
             exact zaf 4 hu hi rfl
            ·
             intro D hn hd hcl hu hi
             refine zah rfl dc (zaE (by rfl) rfl) ?_
             exact zaf 5 hu hi rfl
            ·
             intro D hn hd hcl hu hi
             refine zbW rfl dc (zab (m := 4) hu rfl (hd 4 dc)) (zab (m := 5) hu rfl (hd 5 dc)) (zba Tryd.underlying9 hq4) ?_
             exact zaf 6 hu hi rfl
            refine zbH (v := zI (Lib.indexByte (zbn (⟨#[13, 10]⟩ : ByteArray) ((((Utf8.encode r1).size : Int) - 1) + 1) ((⟨#[13, 10]⟩ : ByteArray).size : Int)).data.toList (c3 : Int).toNat.toUInt8)) (vs := [.string (zbn (⟨#[13, 10]⟩ : ByteArray) ((((Utf8.encode r1).size : Int) - 1) + 1) ((⟨#[13, 10]⟩ : ByteArray).size : Int)), .int .u8 c3]) rfl dc rfl rfl rfl zoj (zkL (zbn (⟨#[13, 10]⟩ : ByteArray) ((((Utf8.encode r1).size : Int) - 1) + 1) ((⟨#[13, 10]⟩ : ByteArray).size : Int)) c3) (zak rfl dc rfl (zap (zaj (zas (zas (zai (zah rfl dc rfl (zaz rfl dc rfl rfl zbF (zap (zaj ?_))))))))))
            refine zaM rfl (fun hb9 => ?_) (fun hb9 => ?_)
            ·
             have h := za0 hb9 h
             refine zas (zai (zak rfl dc rfl (zap (zaj (zaX (zay (zay (zcR (by simp) (zaI (zay (zaI (zay (zcR (by simp) ?_)))))))))))))
             refine zaI ?_
             cases h
             exact za3 (rs := [.tmp 4]) () (.inl rfl) Tryd.results81 (.cons (.tmp rfl) .nil) rfl Splits.nil
            ·
             have h := za1 hb9 h
             refine zaP (zaj (zai (zah rfl dc rfl (zah rfl dc rfl ?_))))
             obtain ⟨hg4, h⟩ := zcb h
             refine zaz rfl dc rfl rfl (zbh (r := (Lib.indexByte (zbn (⟨#[13, 10]⟩ : ByteArray) ((((Utf8.encode r1).size : Int) - 1) + 1) ((⟨#[13, 10]⟩ : ByteArray).size : Int)).data.toList (c3 : Int).toNat.toUInt8) + 1) (IntWalk.i64_in _ hg4)) ?_
             obtain ⟨hg5, h⟩ := zcb h
             refine zaz rfl dc rfl rfl (zbh (r := (((Utf8.encode r1).size : Int) - 1) + ((Lib.indexByte (zbn (⟨#[13, 10]⟩ : ByteArray) ((((Utf8.encode r1).size : Int) - 1) + 1) ((⟨#[13, 10]⟩ : ByteArray).size : Int)).data.toList (c3 : Int).toNat.toUInt8) + 1)) (IntWalk.i64_in _ hg5)) (zak rfl dc rfl (zap ?_))
             exact zaO ((((Utf8.encode r1).size : Int) - 1) + ((Lib.indexByte (zbn (⟨#[13, 10]⟩ : ByteArray) ((((Utf8.encode r1).size : Int) - 1) + 1) ((⟨#[13, 10]⟩ : ByteArray).size : Int)).data.toList (c3 : Int).toNat.toUInt8) + 1)) h rfl (zad rfl (zad rfl (zad rfl (zad rfl (zaH))))) Splits.nil
           ·
            have h := za1 hb8 h
            refine zaP ?_
            exact zaO (((Utf8.encode r1).size : Int) - 1) h rfl (zad rfl (zad rfl (zad rfl (zad rfl (zaH))))) Splits.nil
          ·
           rintro i1 h
           rw [hj3] at h
           show TC _ _ _ _ _ ([]) _ _ [(0, .string (⟨#[13, 10]⟩ : ByteArray)), (7, .string (Utf8.encode r1)), (8, zI (((Utf8.encode r1).size : Int) - 1)), (9, zI i1)] []
           obtain ⟨j4, hj4, h⟩ := zcp h
           refine zbm (β := Unit) 0 rfl (fun b => j4 = some r) (fun b => []) (fun b => [(8, zI (((Utf8.encode r1).size : Int) - 1)), (9, zI i1)]) (fun b => []) (fun cut => ?_) ?_
           ·
            refine cut (zas (zai (zak rfl dc rfl (zap (zaj (za2 ?_))))))
            refine zbJ (β := Nat × Int) (fun b => za8 (fun _ => none) (zcl r1 i1 j4) b.1 b.2 = some r) (fun b => []) (fun b => [(0, .string (⟨#[13, 10]⟩ : ByteArray)), (7, .string (Utf8.encode r1)), (8, zI (((Utf8.encode r1).size : Int) - 1)), (9, zI i1), (12, zI b.2)]) (fun b => []) (fun b => b.1) (zb0, 1) h rfl (zad rfl (zad rfl (zad rfl (zad rfl (zad rfl (zaH)))))) Splits.nil ?_
            rintro ⟨n3, j7⟩ h
            cases n3 with
            | zero => exact zdV h
            | succ n3 =>
             obtain ⟨ag3, hag3⟩ : ∃ ag, ag = za8 (fun _ => none) (zcl r1 i1 j4) n3 := ⟨_, rfl⟩
             have h : zcl r1 i1 j4 ag3 j7 = some r := by rw [hag3]; exact h
             unfold zcl at h
             show TC _ _ _ _ _ ([]) _ _ [(0, .string (⟨#[13, 10]⟩ : ByteArray)), (7, .string (Utf8.encode r1)), (8, zI (((Utf8.encode r1).size : Int) - 1)), (9, zI i1), (12, zI j7)] []
             refine zas (zas (zai (zah rfl dc rfl (zah rfl dc rfl (zbA rfl dc rfl Tryd.underlying9 (zaz rfl dc rfl rfl zbF (zap (zaj ?_))))))))
             refine zaM rfl (fun hb10 => ?_) (fun hb10 => ?_)
             ·
              have h := za0 hb10 h
              refine zaP (zaj (zas (za2 (zas ?_))))
              obtain ⟨hg6, h⟩ := zcb h
              obtain ⟨c4, hq5, h⟩ := zbN h
              obtain ⟨hg7, h⟩ := zcb h
              obtain ⟨c5, hq6, h⟩ := zbN h
              refine zbR 10 [(0, 54, .string (⟨#[13, 10]⟩ : ByteArray)), (1, 55, zI i1), (2, 56, zI j7), (3, 57, zI (i1 - j7)), (4, 58, .int .u8 c4), (5, 59, .string (Utf8.encode r1)), (6, 60, zI (((Utf8.encode r1).size : Int) - 1)), (7, 61, zI j7), (8, 62, zI ((((Utf8.encode r1).size : Int) - 1) - j7)), (9, 63, .int .u8 c5)] mixed kr kr dc (by rfl) kr kr (zac ?_ (zac ?_ (zac ?_ (zac ?_ (zac ?_ (zac ?_ (zac ?_ (zac ?_ (zac ?_ (zac ?_ DrawPre.nil)))))))))) ?_
              ·
               intro D hn hd hcl hu hi
               refine zah rfl dc (zaE (by rfl) rfl) ?_
               exact zaf 0 hu hi rfl
              ·
               intro D hn hd hcl hu hi
               refine zah rfl dc (zaE (by rfl) rfl) ?_
               exact zaf 1 hu hi rfl
              ·
               intro D hn hd hcl hu hi
               refine zah rfl dc (zaE (by rfl) rfl) ?_
               exact zaf 2 hu hi rfl
              ·
               intro D hn hd hcl hu hi
               refine zaz rfl dc (zab (m := 1) hu rfl (hd 1 dc)) (zab (m := 2) hu rfl (hd 2 dc)) (zec (r := i1 - j7) (IntWalk.i64_in _ hg6)) ?_
               exact zaf 3 hu hi rfl
              ·
               intro D hn hd hcl hu hi
               refine zbW rfl dc (zab (m := 0) hu rfl (hd 0 dc)) (zab (m := 3) hu rfl (hd 3 dc)) (zba Tryd.underlying9 hq5) ?_
               exact zaf 4 hu hi rfl
              ·
               intro D hn hd hcl hu hi
               refine zah rfl dc (zaE (by rfl) rfl) ?_
               exact zaf 5 hu hi rfl
              ·
               intro D hn hd hcl hu hi
               refine zah rfl dc (zaE (by rfl) rfl) ?_
               exact zaf 6 hu hi rfl
              ·
               intro D hn hd hcl hu hi
               refine zah rfl dc (zaE (by rfl) rfl) ?_
               exact zaf 7 hu hi rfl
              ·
               intro D hn hd hcl hu hi
               refine zaz rfl dc (zab (m := 6) hu rfl (hd 6 dc)) (zab (m := 7) hu rfl (hd 7 dc)) (zec (r := (((Utf8.encode r1).size : Int) - 1) - j7) (IntWalk.i64_in _ hg7)) ?_
               exact zaf 8 hu hi rfl
              ·
               intro D hn hd hcl hu hi
               refine zbW rfl dc (zab (m := 5) hu rfl (hd 5 dc)) (zab (m := 8) hu rfl (hd 8 dc)) (zba Tryd.underlying9 hq6) ?_
               exact zaf 9 hu hi rfl
              refine zaz rfl dc rfl rfl zbE (zap (zaj ?_))
              refine zaM rfl (fun hb11 => ?_) (fun hb11 => ?_)
              ·
               have h := za0 hb11 h
               exact zdV h
              ·
               have h := za1 hb11 h
               refine zaP (zaA (zaj (zai (zah rfl dc rfl ?_))))
               obtain ⟨hg8, h⟩ := zcb h
               refine zaz rfl dc rfl rfl (zbh (r := j7 + 1) (IntWalk.i64_in _ hg8)) (zak rfl dc rfl (zap ?_))
               subst hag3
               exact zbj (n3, j7 + 1) h (Nat.lt_succ_self _) rfl (zad rfl (zad rfl (zad rfl (zad rfl (zad rfl (zaH)))))) Splits.nil
             ·
              have h := za1 hb10 h
              refine zby (zaJ (zaJ (zaV ?_)))
              exact zaO () h rfl (zad rfl (zad rfl (zaH))) Splits.nil
           ·
            rintro _ h
            rw [hj4] at h
            show TC _ _ _ _ _ ([]) _ _ [(8, zI (((Utf8.encode r1).size : Int) - 1)), (9, zI i1)] []
            refine zas (zas (zai (zah rfl dc rfl (zah rfl dc rfl ?_))))
            obtain ⟨hg9, h⟩ := zcb h
            refine zaz rfl dc rfl rfl (zec (r := i1 - (((Utf8.encode r1).size : Int) - 1)) (IntWalk.i64_in _ hg9)) (zak rfl dc rfl (zap (zaj (zaX (zay (zcR (by simp) (zaI (zay (zaI (zay (zcR (by simp) (zaI ?_))))))))))))
            cases h
            exact za3 (rs := [.tmp 4]) () (.inl rfl) Tryd.results81 (.cons (.tmp rfl) .nil) rfl Splits.nil
         ·
          exact fun b hb => hb.elim
        ·
         have h := za1 hb7 h
         refine zby (zaJ (zaJ (zaV ?_)))
         exact zaO () h rfl (zaH) Splits.nil
      ·
       rintro _ h
       rw [hj2] at h
       show TC _ _ _ _ _ ([]) _ _ [] []
       refine zas (zas (zai (zak rfl dc rfl (zap (zaj (zaX (zay (zcR (by simp) (zaI ?_)))))))))
       cases h
       exact za3 (rs := [.tmp 4]) () (.inl rfl) Tryd.results81 (.cons (.tmp rfl) .nil) rfl Splits.nil
     ·
      exact fun b hb => hb.elim
 ·
  have h := za1 hb1 h
  refine zan rfl dc (zan rfl dc (zaB (b := false) rfl dc rfl rfl (zak rfl dc rfl (zap (zaj (zbp rfl (zas (zai (zah rfl dc rfl (zaz rfl dc rfl rfl zb6 (zak rfl dc rfl (zap (zaj ?_)))))))))))))
  refine zaM rfl (fun hb12 => ?_) (fun hb12 => ?_)
  ·
   have h := za0 hb12 h
   obtain ⟨j8, hj8, h⟩ := zcp h
   refine zbm (β := Unit) 0 rfl (fun b => j8 = some r) (fun b => []) (fun b => []) (fun b => []) (fun cut => ?_) ?_
   ·
    refine cut (zas (zai (zah rfl dc rfl ?_)))
    refine zfr Tryd.underlying9 rfl dc rfl (fun b2 => ?_)
    refine zap (zaj (za2 ?_))
    refine zbJ (β := Nat × Nat) (fun b => za8 (fun _ => none) (zck j8) b.1 b.2 = some r) (fun b => []) (fun b => [(175, zP b2)]) (fun b => [obj b2 (.stringIter (⟨#[13, 10]⟩ : ByteArray) (zdF (⟨#[13, 10]⟩ : ByteArray) b.2))]) (fun b => b.1) (zb0, 0) h rfl (zad rfl (zaH)) (zal [0] kr rfl) ?_
    rintro ⟨n4, m6⟩ h
    cases n4 with
    | zero => exact zdV h
    | succ n4 =>
     obtain ⟨ag4, hag4⟩ : ∃ ag, ag = za8 (fun _ => none) (zck j8) n4 := ⟨_, rfl⟩
     have h : zck j8 ag4 m6 = some r := by rw [hag4]; exact h
     unfold zck at h
     show TC _ _ _ _ _ ([]) _ _ [(175, zP b2)] [obj b2 (.stringIter (⟨#[13, 10]⟩ : ByteArray) (zdF (⟨#[13, 10]⟩ : ByteArray) m6))]
     refine zas (zai ?_)
     refine zfO (b := decide (m6 < (pcs (⟨#[13, 10]⟩ : ByteArray).data.toList).length)) (fun hb13 => ?_) (fun hb13 => ?_)
     ·
      have h := za0 hb13 h
      obtain ⟨p2, hq7, h⟩ := zbN h
      refine zfL (k := 0) (m := m6) (p := p2) rfl dc rfl rfl hq7 (zaS rfl dc rfl rfl (zap (zaj (zas (zbu rfl (zaP (zaj (za2 (zas (zai (zaS rfl dc rfl rfl (zaS rfl dc rfl rfl (zak rfl dc rfl ?_)))))))))))))
      refine zak rfl dc rfl (zap (zaj (zas (zai (zah rfl dc rfl (zaz rfl dc rfl rfl zb6 (zap (zaj ?_))))))))
      refine zaM rfl (fun hb14 => ?_) (fun hb14 => ?_)
      ·
       have h := za0 hb14 h
       refine zas (zai (zah rfl dc rfl (zak rfl dc rfl (zap (zaj (zaX (zaI (zay (zaI (zay (zaI ?_)))))))))))
       cases h
       exact za3 (rs := [.tmp 4]) () (.inl rfl) Tryd.results81 (.cons (.tmp rfl) .nil) rfl Splits.nil
      ·
       have h := za1 hb14 h
       refine zaP (zaA ?_)
       subst hag4
       exact zbj (n4, m6 + 1) h (Nat.lt_succ_self _) rfl (zad rfl (zaH)) (zal [0] kr rfl)
     ·
      have h := za1 hb13 h
      refine zfM (k := 0) (m := m6) rfl dc rfl rfl (Nat.le_of_not_lt (of_decide_eq_false hb13)) (zaS rfl dc rfl rfl (zap (zaj (zas (zbp rfl (zby (zaJ (zaJ (zaV ?_)))))))))
      exact zaO () h rfl (zaH) Splits.nil
   ·
    rintro _ h
    rw [hj8] at h
    show TC _ _ _ _ _ ([]) _ _ [] []
    refine zas (zai (zak rfl dc rfl (zap (zaj (zaX (zaI ?_))))))
    cases h
    exact za3 (rs := [.tmp 4]) () (.inl rfl) Tryd.results81 (.cons (.tmp rfl) .nil) rfl Splits.nil
  ·
   have h := za1 hb12 h
   refine zas (zai (zah rfl dc rfl (zbH (v := .bool (Lib.validRune r1)) (vs := [.int .i32 r1]) rfl dc rfl rfl rfl znT (zl1 r1) (zhJ rfl dc rfl zfX (zak rfl dc rfl (zap (zaj ?_)))))))
   refine zaM rfl (fun hb15 => ?_) (fun hb15 => ?_)
   ·
    have h := za0 hb15 h
    refine zas (zai (zak rfl dc rfl (zap (zaj (zaX (zaI ?_))))))
    cases h
    exact za3 (rs := [.tmp 4]) () (.inl rfl) Tryd.results81 (.cons (.tmp rfl) .nil) rfl Splits.nil
   ·
    have h := za1 hb15 h
    refine zgs (β := Unit) (l := 1) (fun _ => False) (fun _ => []) (fun _ => []) rfl ?_ ?_
    ·
     obtain ⟨j9, hj9, h⟩ := zcp h
     refine zbm (β := Unit) 4 rfl (fun b => j9 = some r) (fun b => []) (fun b => []) (fun b => []) (fun cut => ?_) ?_
     ·
      refine zas (zai (zah rfl dc rfl (zjK rfl dc rfl (zkm Tryd.underlying21 Tryd.underlying9) (zak rfl dc rfl (zap (zaj (zas (zai (zah rfl dc rfl (zbA rfl dc rfl Tryd.underlying9 ?_))))))))))
      obtain ⟨hg10, h⟩ := zcb h
      refine zaz rfl dc rfl rfl (zec (r := ((Utf8.encode r1).size : Int) - 1) (IntWalk.i64_in _ hg10)) (zak rfl dc rfl (zap (zaj (zas (zai (zah rfl dc rfl (zak rfl dc rfl (zap (zaj (zas (zai (zak rfl dc rfl (zap ?_)))))))))))))
      refine zaj (cut (za2 ?_))
      refine zbJ (β := Nat) (fun b => za8 none (zcj r1 j9) b = some r) (fun b => []) (fun b => [(0, .string (⟨#[13, 10]⟩ : ByteArray)), (7, .string (Utf8.encode r1)), (8, zI (((Utf8.encode r1).size : Int) - 1)), (9, zI (((Utf8.encode r1).size : Int) - 1))]) (fun b => []) (fun b => b) zb0 h rfl (zad rfl (zad rfl (zad rfl (zad rfl (zaH))))) Splits.nil ?_
      rintro n5 h
      cases n5 with
      | zero => exact zdV h
      | succ n5 =>
       obtain ⟨ag5, hag5⟩ : ∃ ag, ag = za8 none (zcj r1 j9) n5 := ⟨_, rfl⟩
       have h : zcj r1 j9 ag5 = some r := by rw [hag5]; exact h
       unfold zcj at h
       show TC _ _ _ _ _ ([]) _ _ [(0, .string (⟨#[13, 10]⟩ : ByteArray)), (7, .string (Utf8.encode r1)), (8, zI (((Utf8.encode r1).size : Int) - 1)), (9, zI (((Utf8.encode r1).size : Int) - 1))] []
       refine zas (zas (zai (zah rfl dc rfl (zah rfl dc rfl (zbA rfl dc rfl Tryd.underlying9 (zaz rfl dc rfl rfl zbF (zap (zaj ?_))))))))
       refine zaM rfl (fun hb16 => ?_) (fun hb16 => ?_)
       ·
        have h := za0 hb16 h
        refine zaP (zaj (za2 ?_))
        refine zgs (β := Unit) (l := 0) (fun _ => False) (fun _ => []) (fun _ => []) rfl ?_ ?_
        ·
         obtain ⟨j10, hj10, h⟩ := zcp h
         refine zbm (β := Int) 0 rfl (fun b => j10 b = some r) (fun b => []) (fun b => [(0, .string (⟨#[13, 10]⟩ : ByteArray)), (7, .string (Utf8.encode r1)), (8, zI (((Utf8.encode r1).size : Int) - 1)), (9, zI b)]) (fun b => []) (fun cut => ?_) ?_
         ·
          refine cut (zas ?_)
          obtain ⟨c6, hq8, h⟩ := zbN h
          obtain ⟨c7, hq9, h⟩ := zbN h
          refine zbR 6 [(0, 27, .string (⟨#[13, 10]⟩ : ByteArray)), (1, 28, zI (((Utf8.encode r1).size : Int) - 1)), (2, 29, .int .u8 c6), (3, 30, .string (Utf8.encode r1)), (4, 31, zI (((Utf8.encode r1).size : Int) - 1)), (5, 32, .int .u8 c7)] mixed kr kr dc (by rfl) kr kr (zac ?_ (zac ?_ (zac ?_ (zac ?_ (zac ?_ (zac ?_ DrawPre.nil)))))) ?_
          ·
           intro D hn hd hcl hu hi
           refine zah rfl dc (zaE (by rfl) rfl) ?_
           exact zaf 0 hu hi rfl
          ·
           intro D hn hd hcl hu hi
           refine zah rfl dc (zaE (by rfl) rfl) ?_
           exact zaf 1 hu hi rfl
          ·
           intro D hn hd hcl hu hi
           refine zbW rfl dc (zab (m := 0) hu rfl (hd 0 dc)) (zab (m := 1) hu rfl (hd 1 dc)) (zba Tryd.underlying9 hq8) ?_
           exact zaf 2 hu hi rfl
          ·
           intro D hn hd hcl hu hi
           refine zah rfl dc (zaE (by rfl) rfl) ?_
           exact zaf 3 hu hi rfl
          ·
           intro D hn hd hcl hu hi
           refine zah rfl dc (zaE (by rfl) rfl) ?_
           exact zaf 4 hu hi rfl
          ·
           intro D hn hd hcl hu hi
           refine zbW rfl dc (zab (m := 3) hu rfl (hd 3 dc)) (zab (m := 4) hu rfl (hd 4 dc)) (zba Tryd.underlying9 hq9) ?_
           exact zaf 5 hu hi rfl
          refine zaz rfl dc rfl rfl zbE (zap (zaj ?_))
          refine zaM rfl (fun hb17 => ?_) (fun hb17 => ?_)
          ·
           have h := za0 hb17 h
           refine zas ?_
           obtain ⟨hg11, h⟩ := zcb h
           obtain ⟨hg12, h⟩ := zcb h
           obtain ⟨c8, hq10, h⟩ := zbN h
           refine zbR 7 [(0, 34, .string (⟨#[13, 10]⟩ : ByteArray)), (1, 35, zI (((Utf8.encode r1).size : Int) - 1)), (2, 36, zI ((((Utf8.encode r1).size : Int) - 1) + 1)), (3, 37, .string (zbn (⟨#[13, 10]⟩ : ByteArray) ((((Utf8.encode r1).size : Int) - 1) + 1) ((⟨#[13, 10]⟩ : ByteArray).size : Int))), (4, 38, .string (Utf8.encode r1)), (5, 39, zI (((Utf8.encode r1).size : Int) - 1)), (6, 40, .int .u8 c8)] mixed kr kr dc (by rfl) kr kr (zac ?_ (zac ?_ (zac ?_ (zac ?_ (zac ?_ (zac ?_ (zac ?_ DrawPre.nil))))))) ?_
           ·
            intro D hn hd hcl hu hi
            refine zah rfl dc (zaE (by rfl) rfl) ?_
            exact zaf 0 hu hi rfl
           ·
            intro D hn hd hcl hu hi
            refine zah rfl dc (zaE (by rfl) rfl) ?_
            exact zaf 1 hu hi rfl
           ·
            intro D hn hd hcl hu hi
            refine zaz rfl dc (zab (m := 1) hu rfl (hd 1 dc)) rfl (zbh (r := (((Utf8.encode r1).size : Int) - 1) + 1) (IntWalk.i64_in _ hg11)) ?_
            exact zaf 2 hu hi rfl
           ·
            intro D hn hd hcl hu hi
            refine zeD rfl dc (zab (m := 0) hu rfl (hd 0 dc)) (evO.some (zab (m := 2) hu rfl (hd 2 dc))) zg3 (zcv (i := (((Utf8.encode r1).size : Int) - 1) + 1) (j := ((⟨#[13, 10]⟩ : ByteArray).size : Int)) Tryd.underlying9 (.inr rfl) (.inl ⟨rfl, rfl⟩) hg12) ?_
            exact zaf 3 hu hi rfl
           ·
            intro D hn hd hcl hu hi
            refine zah rfl dc (zaE (by rfl) rfl) ?_
            exact zaf 4 hu hi rfl
           ·
            intro D hn hd hcl hu hi
            refine zah rfl dc (zaE (by rfl) rfl) ?_
            exact zaf 5 hu hi rfl
           ·
            intro D hn hd hcl hu hi
            refine zbW rfl dc (zab (m := 4) hu rfl (hd 4 dc)) (zab (m := 5) hu rfl (hd 5 dc)) (zba Tryd.underlying9 hq10) ?_
            exact zaf 6 hu hi rfl
           refine zbH (v := zI (Lib.indexByte (zbn (⟨#[13, 10]⟩ : ByteArray) ((((Utf8.encode r1).size : Int) - 1) + 1) ((⟨#[13, 10]⟩ : ByteArray).size : Int)).data.toList (c8 : Int).toNat.toUInt8)) (vs := [.string (zbn (⟨#[13, 10]⟩ : ByteArray) ((((Utf8.encode r1).size : Int) - 1) + 1) ((⟨#[13, 10]⟩ : ByteArray).size : Int)), .int .u8 c8]) rfl dc rfl rfl rfl zoj (zkL (zbn (⟨#[13, 10]⟩ : ByteArray) ((((Utf8.encode r1).size : Int) - 1) + 1) ((⟨#[13, 10]⟩ : ByteArray).size : Int)) c8) (zak rfl dc rfl (zap (zaj (zas (zas (zai (zah rfl dc rfl (zaz rfl dc rfl rfl zbF (zap (zaj ?_))))))))))
           refine zaM rfl (fun hb18 => ?_) (fun hb18 => ?_)
           ·
            have h := za0 hb18 h
            refine zas (zai (zak rfl dc rfl (zap (zaj (zaX (zay (zay (zcR (by simp) (zaI (zay (zaI (zay (zcR (by simp) ?_)))))))))))))
            refine zaI ?_
            cases h
            exact za3 (rs := [.tmp 4]) () (.inl rfl) Tryd.results81 (.cons (.tmp rfl) .nil) rfl Splits.nil
           ·
            have h := za1 hb18 h
            refine zaP (zaj (zai (zah rfl dc rfl (zah rfl dc rfl ?_))))
            obtain ⟨hg13, h⟩ := zcb h
            refine zaz rfl dc rfl rfl (zbh (r := (Lib.indexByte (zbn (⟨#[13, 10]⟩ : ByteArray) ((((Utf8.encode r1).size : Int) - 1) + 1) ((⟨#[13, 10]⟩ : ByteArray).size : Int)).data.toList (c8 : Int).toNat.toUInt8) + 1) (IntWalk.i64_in _ hg13)) ?_
            obtain ⟨hg14, h⟩ := zcb h
            refine zaz rfl dc rfl rfl (zbh (r := (((Utf8.encode r1).size : Int) - 1) + ((Lib.indexByte (zbn (⟨#[13, 10]⟩ : ByteArray) ((((Utf8.encode r1).size : Int) - 1) + 1) ((⟨#[13, 10]⟩ : ByteArray).size : Int)).data.toList (c8 : Int).toNat.toUInt8) + 1)) (IntWalk.i64_in _ hg14)) (zak rfl dc rfl (zap ?_))
            exact zaO ((((Utf8.encode r1).size : Int) - 1) + ((Lib.indexByte (zbn (⟨#[13, 10]⟩ : ByteArray) ((((Utf8.encode r1).size : Int) - 1) + 1) ((⟨#[13, 10]⟩ : ByteArray).size : Int)).data.toList (c8 : Int).toNat.toUInt8) + 1)) h rfl (zad rfl (zad rfl (zad rfl (zad rfl (zaH))))) Splits.nil
          ·
           have h := za1 hb17 h
           refine zaP ?_
           exact zaO (((Utf8.encode r1).size : Int) - 1) h rfl (zad rfl (zad rfl (zad rfl (zad rfl (zaH))))) Splits.nil
         ·
          rintro i2 h
          rw [hj10] at h
          show TC _ _ _ _ _ ([]) _ _ [(0, .string (⟨#[13, 10]⟩ : ByteArray)), (7, .string (Utf8.encode r1)), (8, zI (((Utf8.encode r1).size : Int) - 1)), (9, zI i2)] []
          obtain ⟨j11, hj11, h⟩ := zcp h
          refine zbm (β := Unit) 0 rfl (fun b => j11 = some r) (fun b => []) (fun b => [(8, zI (((Utf8.encode r1).size : Int) - 1)), (9, zI i2)]) (fun b => []) (fun cut => ?_) ?_
          ·
           refine cut (zas (zai (zak rfl dc rfl (zap (zaj (za2 ?_))))))
           refine zbJ (β := Nat × Int) (fun b => za8 (fun _ => none) (zci r1 i2 j11) b.1 b.2 = some r) (fun b => []) (fun b => [(0, .string (⟨#[13, 10]⟩ : ByteArray)), (7, .string (Utf8.encode r1)), (8, zI (((Utf8.encode r1).size : Int) - 1)), (9, zI i2), (12, zI b.2)]) (fun b => []) (fun b => b.1) (zb0, 1) h rfl (zad rfl (zad rfl (zad rfl (zad rfl (zad rfl (zaH)))))) Splits.nil ?_
           rintro ⟨n6, j14⟩ h
           cases n6 with
           | zero => exact zdV h
           | succ n6 =>
            obtain ⟨ag6, hag6⟩ : ∃ ag, ag = za8 (fun _ => none) (zci r1 i2 j11) n6 := ⟨_, rfl⟩
            have h : zci r1 i2 j11 ag6 j14 = some r := by rw [hag6]; exact h
            unfold zci at h
            show TC _ _ _ _ _ ([]) _ _ [(0, .string (⟨#[13, 10]⟩ : ByteArray)), (7, .string (Utf8.encode r1)), (8, zI (((Utf8.encode r1).size : Int) - 1)), (9, zI i2), (12, zI j14)] []
            refine zas (zas (zai (zah rfl dc rfl (zah rfl dc rfl (zbA rfl dc rfl Tryd.underlying9 (zaz rfl dc rfl rfl zbF (zap (zaj ?_))))))))
            refine zaM rfl (fun hb19 => ?_) (fun hb19 => ?_)
            ·
             have h := za0 hb19 h
             refine zaP (zaj (zas (za2 (zas ?_))))
             obtain ⟨hg15, h⟩ := zcb h
             obtain ⟨c9, hq11, h⟩ := zbN h
             obtain ⟨hg16, h⟩ := zcb h
             obtain ⟨c10, hq12, h⟩ := zbN h
             refine zbR 10 [(0, 54, .string (⟨#[13, 10]⟩ : ByteArray)), (1, 55, zI i2), (2, 56, zI j14), (3, 57, zI (i2 - j14)), (4, 58, .int .u8 c9), (5, 59, .string (Utf8.encode r1)), (6, 60, zI (((Utf8.encode r1).size : Int) - 1)), (7, 61, zI j14), (8, 62, zI ((((Utf8.encode r1).size : Int) - 1) - j14)), (9, 63, .int .u8 c10)] mixed kr kr dc (by rfl) kr kr (zac ?_ (zac ?_ (zac ?_ (zac ?_ (zac ?_ (zac ?_ (zac ?_ (zac ?_ (zac ?_ (zac ?_ DrawPre.nil)))))))))) ?_
             ·
              intro D hn hd hcl hu hi
              refine zah rfl dc (zaE (by rfl) rfl) ?_
              exact zaf 0 hu hi rfl
             ·
              intro D hn hd hcl hu hi
              refine zah rfl dc (zaE (by rfl) rfl) ?_
              exact zaf 1 hu hi rfl
             ·
              intro D hn hd hcl hu hi
              refine zah rfl dc (zaE (by rfl) rfl) ?_
              exact zaf 2 hu hi rfl
             ·
              intro D hn hd hcl hu hi
              refine zaz rfl dc (zab (m := 1) hu rfl (hd 1 dc)) (zab (m := 2) hu rfl (hd 2 dc)) (zec (r := i2 - j14) (IntWalk.i64_in _ hg15)) ?_
              exact zaf 3 hu hi rfl
             ·
              intro D hn hd hcl hu hi
              refine zbW rfl dc (zab (m := 0) hu rfl (hd 0 dc)) (zab (m := 3) hu rfl (hd 3 dc)) (zba Tryd.underlying9 hq11) ?_
              exact zaf 4 hu hi rfl
             ·
              intro D hn hd hcl hu hi
              refine zah rfl dc (zaE (by rfl) rfl) ?_
              exact zaf 5 hu hi rfl
             ·
              intro D hn hd hcl hu hi
              refine zah rfl dc (zaE (by rfl) rfl) ?_
              exact zaf 6 hu hi rfl
             ·
              intro D hn hd hcl hu hi
              refine zah rfl dc (zaE (by rfl) rfl) ?_
              exact zaf 7 hu hi rfl
             ·
              intro D hn hd hcl hu hi
              refine zaz rfl dc (zab (m := 6) hu rfl (hd 6 dc)) (zab (m := 7) hu rfl (hd 7 dc)) (zec (r := (((Utf8.encode r1).size : Int) - 1) - j14) (IntWalk.i64_in _ hg16)) ?_
              exact zaf 8 hu hi rfl
             ·
              intro D hn hd hcl hu hi
              refine zbW rfl dc (zab (m := 5) hu rfl (hd 5 dc)) (zab (m := 8) hu rfl (hd 8 dc)) (zba Tryd.underlying9 hq12) ?_
              exact zaf 9 hu hi rfl
             refine zaz rfl dc rfl rfl zbE (zap (zaj ?_))
             refine zaM rfl (fun hb20 => ?_) (fun hb20 => ?_)
             ·
              have h := za0 hb20 h
              exact zdV h
             ·
              have h := za1 hb20 h
              refine zaP (zaA (zaj (zai (zah rfl dc rfl ?_))))
              obtain ⟨hg17, h⟩ := zcb h
              refine zaz rfl dc rfl rfl (zbh (r := j14 + 1) (IntWalk.i64_in _ hg17)) (zak rfl dc rfl (zap ?_))
              subst hag6
              exact zbj (n6, j14 + 1) h (Nat.lt_succ_self _) rfl (zad rfl (zad rfl (zad rfl (zad rfl (zad rfl (zaH)))))) Splits.nil
            ·
             have h := za1 hb19 h
             refine zby (zaJ (zaJ (zaV ?_)))
             exact zaO () h rfl (zad rfl (zad rfl (zaH))) Splits.nil
          ·
           rintro _ h
           rw [hj11] at h
           show TC _ _ _ _ _ ([]) _ _ [(8, zI (((Utf8.encode r1).size : Int) - 1)), (9, zI i2)] []
           refine zas (zas (zai (zah rfl dc rfl (zah rfl dc rfl ?_))))
           obtain ⟨hg18, h⟩ := zcb h
           refine zaz rfl dc rfl rfl (zec (r := i2 - (((Utf8.encode r1).size : Int) - 1)) (IntWalk.i64_in _ hg18)) (zak rfl dc rfl (zap (zaj (zaX (zay (zcR (by simp) (zaI (zay (zaI (zay (zcR (by simp) (zaI ?_))))))))))))
           cases h
           exact za3 (rs := [.tmp 4]) () (.inl rfl) Tryd.results81 (.cons (.tmp rfl) .nil) rfl Splits.nil
        ·
         exact fun b hb => hb.elim
       ·
        have h := za1 hb16 h
        refine zby (zaJ (zaJ (zaV ?_)))
        exact zaO () h rfl (zaH) Splits.nil
     ·
      rintro _ h
      rw [hj9] at h
      show TC _ _ _ _ _ ([]) _ _ [] []
      refine zas (zas (zai (zak rfl dc rfl (zap (zaj (zaX (zay (zcR (by simp) (zaI ?_)))))))))
      cases h
      exact za3 (rs := [.tmp 4]) () (.inl rfl) Tryd.results81 (.cons (.tmp rfl) .nil) rfl Splits.nil
    ·
     exact fun b hb => hb.elim
def zbs (s1 : ByteArray) (j3 : Option Int) (ag1 : Nat → Option Int) (m3 : Nat) : Option Int := zaU (decide (m3 < (pcs s1.data.toList).length)) ( zaG ((pcs s1.data.toList)[m3]?) fun (p1 : Pc) => zaG (zb2 (p1.r : Int)) fun (r2 : Int) => zaU (decide ((0 : Int) ≤ r2)) ( some (p1.i : Int)
) ( ag1 (m3 + 1)
)
) ( j3
)
def zcu (s1 : ByteArray) : Option Int := zaU (decide ((⟨#[13, 10]⟩ : ByteArray) = (⟨#[]⟩ : ByteArray))) ( some (-1)
) ( zaU ((((⟨#[13, 10]⟩ : ByteArray).size : Int) : Int) == 1) ( zbO (fun (j1 : Int → Option Int) => zaG (zgo (⟨#[13, 10]⟩ : ByteArray) 0) fun (c1 : Int) => grd (I32 c1) <| zaU (decide ((128 : Int) ≤ c1)) ( j1 65533
) ( j1 c1
)
) (fun (r1 : Int) => none
)
) ( zbO (fun (j2 : Option Int) => zaU (decide (8 < ((s1.size : Int) : Int))) ( none
) ( j2
)
) ( zbO (fun (j3 : Option Int) => za8 (fun _ => none) (zbs s1 j3) zb0 0
) ( some (-1)
)
)
)
)
theorem zfE {s1 : ByteArray} {r : Int} (h : zcu s1 = some r) : FnP Tryd.prog 59 [.string s1, .string (⟨#[13, 10]⟩ : ByteArray)] (zI r) := by
 unfold zcu at h
 refine FnP.intro Tryd.func59 rfl Tryd.ntmps59 (by simp) ?_
 intro w0 K
 refine zas (zai (zak rfl dc rfl (zap (zaj (zas (zas (zai (zah rfl dc rfl (zaz rfl dc rfl rfl zgr (zap (zaj ?_)))))))))))
 refine zaM rfl (fun hb1 => ?_) (fun hb1 => ?_)
 ·
  have h := za0 hb1 h
  refine zas (zai (zak rfl dc rfl (zap (zaj (zaX (zay ?_))))))
  cases h
  exact za3 (rs := [.tmp 4]) () (.inl rfl) Tryd.results59 (.cons (.tmp rfl) .nil) rfl Splits.nil
 ·
  have h := za1 hb1 h
  refine zaP (zaj (zas (zas (zai (zah rfl dc rfl (zbA rfl dc rfl Tryd.underlying9 (zaz rfl dc rfl rfl zb6 (zap (zaj ?_)))))))))
  refine zaM rfl (fun hb2 => ?_) (fun hb2 => ?_)
  ·
   have h := za0 hb2 h
   obtain ⟨j1, hj1, h⟩ := zcp h
   refine zbm (β := Int) 1 rfl (fun b => j1 b = some r) (fun b => []) (fun b => [(0, .string s1), (5, .int .i32 b)]) (fun b => []) (fun cut => ?_) ?_
   ·
    refine zas (zai (zah rfl dc rfl ?_))
    obtain ⟨c1, hq1, h⟩ := zbN h
    refine zbW rfl dc rfl rfl (zba Tryd.underlying9 hq1) ?_
    obtain ⟨hg1, h⟩ := zcb h
    refine zjK rfl dc rfl (zln (r := c1) Tryd.underlying5 Tryd.underlying21 (IntWalk.i32_in _ hg1)) (zak rfl dc rfl (zap (zaj (cut (zas (zai (zah rfl dc rfl (zaz rfl dc rfl rfl zeC (zap (zaj ?_))))))))))
    refine zaM rfl (fun hb3 => ?_) (fun hb3 => ?_)
    ·
     have h := za0 hb3 h
     refine zai (zak rfl dc rfl (zap ?_))
     exact zaO 65533 h rfl (zad rfl (zad rfl (zaH))) Splits.nil
    ·
     have h := za1 hb3 h
     refine zaP ?_
     exact zaO c1 h rfl (zad rfl (zad rfl (zaH))) Splits.nil
   ·
    rintro r1 h
    rw [hj1] at h
    show TC _ _ _ _ _ ([]) _ _ [(0, .string s1), (5, .int .i32 r1)] []
    refine zas ?_
    exact zdV h
  ·
   have h := za1 hb2 h
   refine zaP (zaj ?_)
   obtain ⟨j2, hj2, h⟩ := zcp h
   refine zbm (β := Unit) 0 rfl (fun b => j2 = some r) (fun b => []) (fun b => [(0, .string s1), (1, .string (⟨#[13, 10]⟩ : ByteArray))]) (fun b => []) (fun cut => ?_) ?_
   ·
    refine cut (zas (zai (zah rfl dc rfl (zbA rfl dc rfl Tryd.underlying9 (zbH (v := .bool (decide (8 < ((s1.size : Int) : Int)))) (vs := [zI (s1.size : Int)]) rfl dc rfl rfl rfl zpD (zoL (s1.size : Int)) (zap (zaj ?_)))))))
    refine zaM rfl (fun hb4 => ?_) (fun hb4 => ?_)
    ·
     have h := za0 hb4 h
     refine zas ?_
     exact zdV h
    ·
     have h := za1 hb4 h
     refine zaP ?_
     exact zaO () h rfl (zad rfl (zad rfl (zaH))) Splits.nil
   ·
    rintro _ h
    rw [hj2] at h
    show TC _ _ _ _ _ ([]) _ _ [(0, .string s1), (1, .string (⟨#[13, 10]⟩ : ByteArray))] []
    obtain ⟨j3, hj3, h⟩ := zcp h
    refine zbm (β := Unit) 0 rfl (fun b => j3 = some r) (fun b => []) (fun b => []) (fun b => []) (fun cut => ?_) ?_
    ·
     refine cut (zas (zai (zah rfl dc rfl ?_)))
     refine zfr Tryd.underlying9 rfl dc rfl (fun b1 => ?_)
     refine zap (zaj (za2 ?_))
     refine zbJ (β := Nat × Nat) (fun b => za8 (fun _ => none) (zbs s1 j3) b.1 b.2 = some r) (fun b => []) (fun b => [(1, .string (⟨#[13, 10]⟩ : ByteArray)), (45, zP b1)]) (fun b => [obj b1 (.stringIter s1 (zdF s1 b.2))]) (fun b => b.1) (zb0, 0) h rfl (zad rfl (zad rfl (zaH))) (zal [0] kr rfl) ?_
     rintro ⟨n1, m3⟩ h
     cases n1 with
     | zero => exact zdV h
     | succ n1 =>
      obtain ⟨ag1, hag1⟩ : ∃ ag, ag = za8 (fun _ => none) (zbs s1 j3) n1 := ⟨_, rfl⟩
      have h : zbs s1 j3 ag1 m3 = some r := by rw [hag1]; exact h
      unfold zbs at h
      show TC _ _ _ _ _ ([]) _ _ [(1, .string (⟨#[13, 10]⟩ : ByteArray)), (45, zP b1)] [obj b1 (.stringIter s1 (zdF s1 m3))]
      refine zas (zai ?_)
      refine zfO (b := decide (m3 < (pcs s1.data.toList).length)) (fun hb5 => ?_) (fun hb5 => ?_)
      ·
       have h := za0 hb5 h
       obtain ⟨p1, hq2, h⟩ := zbN h
       refine zfL (k := 0) (m := m3) (p := p1) rfl dc rfl rfl hq2 (zaS rfl dc rfl rfl (zap (zaj (zas (zbu rfl (zaP (zaj (za2 (zas (zai (zaS rfl dc rfl rfl (zaS rfl dc rfl rfl (zak rfl dc rfl ?_)))))))))))))
       refine zak rfl dc rfl (zap (zaj (zas (zai (zah rfl dc rfl (zah rfl dc rfl ?_))))))
       obtain ⟨r2, hq3, h⟩ := zbN h
       refine zbH (v := zI r2) (vs := [.string (⟨#[13, 10]⟩ : ByteArray), .int .i32 (p1.r : Int)]) rfl dc rfl rfl rfl zpE (zfA hq3) (zaz rfl dc rfl rfl zeC (zap (zaj ?_)))
       refine zaM rfl (fun hb6 => ?_) (fun hb6 => ?_)
       ·
        have h := za0 hb6 h
        refine zas (zai (zah rfl dc rfl (zak rfl dc rfl (zap (zaj (zaX (zaI (zay (zaI (zay ?_))))))))))
        cases h
        exact za3 (rs := [.tmp 4]) () (.inl rfl) Tryd.results59 (.cons (.tmp rfl) .nil) rfl Splits.nil
       ·
        have h := za1 hb6 h
        refine zaP (zaA ?_)
        subst hag1
        exact zbj (n1, m3 + 1) h (Nat.lt_succ_self _) rfl (zad rfl (zad rfl (zaH))) (zal [0] kr rfl)
      ·
       have h := za1 hb5 h
       refine zfM (k := 0) (m := m3) rfl dc rfl rfl (Nat.le_of_not_lt (of_decide_eq_false hb5)) (zaS rfl dc rfl rfl (zap (zaj (zas (zbp rfl (zby (zaJ (zaJ (zaV ?_)))))))))
       exact zaO () h rfl (zaH) Splits.nil
    ·
     rintro _ h
     rw [hj3] at h
     show TC _ _ _ _ _ ([]) _ _ [] []
     refine zas (zai (zak rfl dc rfl (zap (zaj (zaX ?_)))))
     cases h
     exact za3 (rs := [.tmp 4]) () (.inl rfl) Tryd.results59 (.cons (.tmp rfl) .nil) rfl Splits.nil
end Go.Proofs.YtgfkogafkhbgnaaDoor
namespace Go.Proofs.YtgfkogafkhbgnaaDoor
open Go.RowKit Go.Lib

/-- A piece: its rune, its bytes. -/
structure Tok where
  r : Nat
  bs : List UInt8
  deriving DecidableEq
def Tok.broken (t : Tok) : Bool := t.r == 65533 && t.bs.length == 1
/-- A rune's own form. -/
def Tok.valid (t : Tok) : Prop := (t.r < 55296 ∨ (57343 < t.r ∧ t.r ≤ 1114111)) ∧ t.bs = encodeRune t.r
def zgf (ts : List Tok) : List UInt8 := ts.flatMap Tok.bs
def ziI : Nat → List UInt8 → List Tok
  | 0, _ => []
  | f + 1, l => if l = [] then [] else ⟨(decodeL l).1, l.take (decodeL l).2⟩ :: ziI f (l.drop (decodeL l).2)
def zjQ (l : List UInt8) : List Tok := ziI l.length l

theorem zil (t : Tok) (ts : List Tok) : zgf (t :: ts) = t.bs ++ zgf ts := by simp [zgf]
theorem zeo (a b : List Tok) : zgf (a ++ b) = zgf a ++ zgf b := by simp [zgf]
theorem zjP : ∀ (f g : Nat) (l : List UInt8), l.length ≤ f → l.length ≤ g → ziI f l = ziI g l := by
  intro f
  induction f with
  | zero =>
    intro g l h1 h2
    have : l = [] := List.eq_nil_of_length_eq_zero (by omega)
    subst this
    cases g <;> simp [ziI]
  | succ f ih =>
    intro g l h1 h2
    cases g with
    | zero =>
      have : l = [] := List.eq_nil_of_length_eq_zero (by omega)
      subst this
      simp [ziI]
    | succ g =>
      by_cases hl : l = []
      · simp [ziI, hl]
      · simp only [ziI, hl, if_false]
        have := zfo l
        have hlen : 0 < l.length := List.length_pos_iff.2 hl
        rw [ih g _ (by simp; omega) (by simp; omega)]
theorem zk5 : zjQ [] = [] := by simp [zjQ, ziI]
theorem zgQ (l : List UInt8) (h : l ≠ []) : zjQ l = ⟨(decodeL l).1, l.take (decodeL l).2⟩ :: zjQ (l.drop (decodeL l).2) := by
  have hlen : 0 < l.length := List.length_pos_iff.2 h
  unfold zjQ
  obtain ⟨n, hn⟩ : ∃ n, l.length = n + 1 := ⟨l.length - 1, by omega⟩
  rw [hn]
  simp only [ziI, h, if_false]
  have := zfo l
  rw [zjP n (l.drop (decodeL l).2).length _ (by simp; omega) (Nat.le_refl _)]
/-- Induction over a text, piece by piece. -/
theorem zjC {P : List UInt8 → Prop} (h0 : P []) (h1 : ∀ l, l ≠ [] → P (l.drop (decodeL l).2) → P l) : ∀ l, P l := by
  have key : ∀ (n : Nat) (l : List UInt8), l.length ≤ n → P l := by
    intro n
    induction n with
    | zero => intro l hl; rw [List.eq_nil_of_length_eq_zero (by omega : l.length = 0)]; exact h0
    | succ n ih =>
      intro l hl
      by_cases hn : l = []
      · rw [hn]; exact h0
      · have := zfo l
        exact h1 l hn (ih _ (by simp; omega))
  exact fun l => key l.length l (Nat.le_refl _)
theorem zpc {t : Tok} (h : t.valid ∨ t.broken = true) : t.bs ≠ [] := by
  rcases h with h | h
  · rw [h.2]; intro e; have := (ziQ (t.r : Int)).1; rw [e] at this; simp at this
  · intro e; unfold Tok.broken at h; rw [e] at h; simp at h

/-- A byte that may go on a form. -/
def zoq (b : UInt8) : Bool := b.toNat / 64 == 2
/-- What can't go on a form that stands ahead of it. -/
def znG : List UInt8 → Prop
  | [] => True
  | b :: _ => zoq b = false
theorem zjB {n b0 b1 b2 b3 c1 c2 c3 m : Nat} (h1 : n ≤ 1 ∨ b1 / 64 ≠ 2) (h2 : m ≤ 1 ∨ c1 / 64 ≠ 2) : decodeN n b0 b1 b2 b3 = decodeN m b0 c1 c2 c3 := by
  unfold decodeN
  have e1 : ¬ (1 < n ∧ b1 / 64 = 2) := by omega
  have e2 : ¬ (1 < m ∧ c1 / 64 = 2) := by omega
  simp only [e1, e2, and_false, false_and, if_false]
theorem zjA {n b0 b1 b2 b3 c2 c3 m : Nat} (hn : 1 < n) (hm : 1 < m) (h1 : n ≤ 2 ∨ b2 / 64 ≠ 2) (h2 : m ≤ 2 ∨ c2 / 64 ≠ 2) : decodeN n b0 b1 b2 b3 = decodeN m b0 b1 c2 c3 := by
  unfold decodeN
  have e1 : ¬ (2 < n ∧ b2 / 64 = 2) := by omega
  have e2 : ¬ (2 < m ∧ c2 / 64 = 2) := by omega
  simp only [e1, e2, and_false, false_and, if_false, hn, hm, true_and]
theorem zjz {n b0 b1 b2 b3 c3 m : Nat} (hn : 2 < n) (hm : 2 < m) (h1 : n ≤ 3 ∨ b3 / 64 ≠ 2) (h2 : m ≤ 3 ∨ c3 / 64 ≠ 2) : decodeN n b0 b1 b2 b3 = decodeN m b0 b1 b2 c3 := by
  unfold decodeN
  have e1 : ¬ (3 < n ∧ b3 / 64 = 2) := by omega
  have e2 : ¬ (3 < m ∧ c3 / 64 = 2) := by omega
  have h1n : 1 < n := by omega
  have h1m : 1 < m := by omega
  simp only [e1, e2, and_false, if_false, hn, hm, h1n, h1m, true_and]
theorem zjy {n b0 b1 b2 b3 m : Nat} (hn : 3 < n) (hm : 3 < m) : decodeN n b0 b1 b2 b3 = decodeN m b0 b1 b2 b3 := by
  unfold decodeN
  have h1n : 1 < n := by omega
  have h1m : 1 < m := by omega
  have h2n : 2 < n := by omega
  have h2m : 2 < m := by omega
  simp only [hn, hm, h1n, h1m, h2n, h2m, true_and]
theorem zji {x : List UInt8} (h : znG x) (n : Nat) : n + x.length ≤ n ∨ (x.getD 0 0).toNat / 64 ≠ 2 := by
  cases x with
  | nil => simp
  | cons b x => right; simpa [znG, zoq] using h
/-- What stands behind a stop does not matter. -/
theorem znx (l x : List UInt8) (hl : l ≠ []) (hx : znG x) : decodeL (l ++ x) = decodeL l := by
  rw [decodeL_N, decodeL_N]
  rcases l with _ | ⟨a, _ | ⟨b, _ | ⟨c, _ | ⟨d, l⟩⟩⟩⟩
  · exact absurd rfl hl
  · refine zjB ?_ (.inl (by simp))
    rcases zji hx 1 with h | h
    · left; simp only [List.length_append, List.length_cons, List.length_nil]; omega
    · right; simpa using h
  · refine zjA (by simp) (by simp) ?_ (.inl (by simp))
    rcases zji hx 2 with h | h
    · left; simp only [List.length_append, List.length_cons, List.length_nil]; omega
    · right; simpa using h
  · refine zjz (by simp) (by simp) ?_ (.inl (by simp))
    rcases zji hx 3 with h | h
    · left; simp only [List.length_append, List.length_cons, List.length_nil]; omega
    · right; simpa using h
  · exact zjy (by simp) (by simp)
theorem zfg (l x : List UInt8) (hx : znG x) : zjQ (l ++ x) = zjQ l ++ zjQ x := by
  induction l using zjC with
  | h0 => rw [zk5]; rfl
  | h1 l hn ih =>
    have hle := zhw l hn
    have hne : l ++ x ≠ [] := by simp [hn]
    rw [zgQ _ hne, zgQ l hn, znx l x hn hx, List.drop_append_of_le_length hle, ih, List.take_append_of_le_length hle]
    rfl

theorem zhn (r : Nat) (hv : r < 55296 ∨ (57343 < r ∧ r ≤ 1114111)) :
    (r ≤ 127 ∧ encodeRuneZ r = [(r : Int)]) ∨ (128 ≤ r ∧ r ≤ 2047 ∧ encodeRuneZ r = [192 + (r : Int) / 64, 128 + (r : Int) % 64]) ∨
    (2048 ≤ r ∧ r ≤ 65535 ∧ encodeRuneZ r = [224 + (r : Int) / 4096, 128 + (r : Int) / 64 % 64, 128 + (r : Int) % 64]) ∨
    (65536 ≤ r ∧ r ≤ 1114111 ∧ encodeRuneZ r = [240 + (r : Int) / 262144, 128 + (r : Int) / 4096 % 64, 128 + (r : Int) / 64 % 64, 128 + (r : Int) % 64]) := by
  by_cases h1 : r ≤ 127
  · exact .inl ⟨h1, encodeRuneZ_one (by omega) (by omega)⟩
  · by_cases h2 : r ≤ 2047
    · exact .inr (.inl ⟨by omega, h2, encodeRuneZ_two (by omega) (by omega)⟩)
    · by_cases h3 : r ≤ 65535
      · exact .inr (.inr (.inl ⟨by omega, h3, encodeRuneZ_three (by omega)⟩))
      · exact .inr (.inr (.inr ⟨by omega, by omega, encodeRuneZ_four (by omega) (by omega)⟩))
theorem zd3 (z : Int) (_h0 : 0 ≤ z) (h1 : z < 256) : (z.toNat.toUInt8).toNat = z.toNat := by
  simp; omega
theorem zoo (r : Nat) (hv : r < 55296 ∨ (57343 < r ∧ r ≤ 1114111)) (x : List UInt8) : decodeL (encodeRune r ++ x) = (r, (encodeRune r).length) := by
  rw [decodeL_N]
  rcases zhn r hv with ⟨h, e⟩ | ⟨h, h', e⟩ | ⟨h, h', e⟩ | ⟨h, h', e⟩
  · have hl : encodeRune r = [((r : Int).toNat.toUInt8)] := by simp only [encodeRune, e, List.map_cons, List.map_nil]
    rw [hl]
    simp only [List.cons_append, List.nil_append, List.getD_cons_zero, List.length_cons]
    rw [zd3 _ (by omega) (by omega)]
    unfold decodeN
    simp only [Int.toNat_natCast]
    rw [if_pos (by omega)]
    simp
  · have hl : encodeRune r = [((192 + (r : Int) / 64).toNat.toUInt8), ((128 + (r : Int) % 64).toNat.toUInt8)] := by simp only [encodeRune, e, List.map_cons, List.map_nil]
    rw [hl]
    simp only [List.cons_append, List.nil_append, List.getD_cons_zero, List.getD_cons_succ, List.length_cons]
    rw [zd3 _ (by omega) (by omega), zd3 _ (by omega) (by omega)]
    have a1 : (192 + (r : Int) / 64).toNat = 192 + r / 64 := by omega
    have a2 : (128 + (r : Int) % 64).toNat = 128 + r % 64 := by omega
    rw [a1, a2]
    unfold decodeN
    have c1 : ¬ 192 + r / 64 < 128 := by omega
    have c2 : (192 + r / 64) / 32 = 6 := by omega
    have c3 : (128 + r % 64) / 64 = 2 := by omega
    have c4 : (192 + r / 64) % 32 * 64 + (128 + r % 64) % 64 = r := by omega
    have c5 : 128 ≤ r := by omega
    rw [if_neg c1, if_pos ⟨c2, by omega, c3⟩, c4, if_pos c5]
    rfl
  · have hl : encodeRune r = [((224 + (r : Int) / 4096).toNat.toUInt8), ((128 + (r : Int) / 64 % 64).toNat.toUInt8), ((128 + (r : Int) % 64).toNat.toUInt8)] := by simp only [encodeRune, e, List.map_cons, List.map_nil]
    rw [hl]
    simp only [List.cons_append, List.nil_append, List.getD_cons_zero, List.getD_cons_succ, List.length_cons]
    rw [zd3 _ (by omega) (by omega), zd3 _ (by omega) (by omega), zd3 _ (by omega) (by omega)]
    have a1 : (224 + (r : Int) / 4096).toNat = 224 + r / 4096 := by omega
    have a2 : (128 + (r : Int) / 64 % 64).toNat = 128 + r / 64 % 64 := by omega
    have a3 : (128 + (r : Int) % 64).toNat = 128 + r % 64 := by omega
    rw [a1, a2, a3]
    unfold decodeN
    have c1 : ¬ 224 + r / 4096 < 128 := by omega
    have c2 : (224 + r / 4096) / 32 ≠ 6 := by omega
    have c2' : (224 + r / 4096) / 16 = 14 := by omega
    have c3 : (128 + r / 64 % 64) / 64 = 2 := by omega
    have c3' : (128 + r % 64) / 64 = 2 := by omega
    have c4 : (224 + r / 4096) % 16 * 4096 + (128 + r / 64 % 64) % 64 * 64 + (128 + r % 64) % 64 = r := by omega
    have c5 : 2048 ≤ r := by omega
    rw [if_neg c1, if_neg (fun h => c2 h.1), if_pos ⟨c2', ⟨by omega, c3⟩, ⟨by omega, c3'⟩⟩, c4, if_pos ⟨c5, by omega⟩]
    rfl
  · have hl : encodeRune r = [((240 + (r : Int) / 262144).toNat.toUInt8), ((128 + (r : Int) / 4096 % 64).toNat.toUInt8), ((128 + (r : Int) / 64 % 64).toNat.toUInt8), ((128 + (r : Int) % 64).toNat.toUInt8)] := by simp only [encodeRune, e, List.map_cons, List.map_nil]
    rw [hl]
    simp only [List.cons_append, List.nil_append, List.getD_cons_zero, List.getD_cons_succ, List.length_cons]
    rw [zd3 _ (by omega) (by omega), zd3 _ (by omega) (by omega), zd3 _ (by omega) (by omega), zd3 _ (by omega) (by omega)]
    have a1 : (240 + (r : Int) / 262144).toNat = 240 + r / 262144 := by omega
    have a2 : (128 + (r : Int) / 4096 % 64).toNat = 128 + r / 4096 % 64 := by omega
    have a2' : (128 + (r : Int) / 64 % 64).toNat = 128 + r / 64 % 64 := by omega
    have a3 : (128 + (r : Int) % 64).toNat = 128 + r % 64 := by omega
    rw [a1, a2, a2', a3]
    unfold decodeN
    have c1 : ¬ 240 + r / 262144 < 128 := by omega
    have c2 : (240 + r / 262144) / 32 ≠ 6 := by omega
    have c2' : (240 + r / 262144) / 16 ≠ 14 := by omega
    have c2'' : (240 + r / 262144) / 8 = 30 := by omega
    have c3 : (128 + r / 4096 % 64) / 64 = 2 := by omega
    have c3' : (128 + r / 64 % 64) / 64 = 2 := by omega
    have c3'' : (128 + r % 64) / 64 = 2 := by omega
    have c4 : (240 + r / 262144) % 8 * 262144 + (128 + r / 4096 % 64) % 64 * 4096 + (128 + r / 64 % 64) % 64 * 64 + (128 + r % 64) % 64 = r := by omega
    have c5 : 65536 ≤ r := by omega
    rw [if_neg c1, if_neg (fun h => c2 h.1), if_neg (fun h => c2' h.1), if_pos ⟨c2'', ⟨by omega, c3⟩, ⟨by omega, c3'⟩, ⟨by omega, c3''⟩⟩, c4, if_pos ⟨c5, by omega⟩]
    rfl
/-- A rune's form stops what stands ahead of it. -/
theorem zm6 (r : Nat) (hv : r < 55296 ∨ (57343 < r ∧ r ≤ 1114111)) (x : List UInt8) : znG (encodeRune r ++ x) := by
  rcases zhn r hv with ⟨h, e⟩ | ⟨h, h', e⟩ | ⟨h, h', e⟩ | ⟨h, h', e⟩ <;>
  · simp only [encodeRune, e, List.map_cons, List.map_nil, List.cons_append, znG, zoq, beq_eq_false_iff_ne, ne_eq]
    rw [zd3 _ (by omega) (by omega)]
    omega
theorem zlw {t : Tok} (h : t.valid) (x : List UInt8) : zjQ (t.bs ++ x) = t :: zjQ x := by
  have hne : t.bs ++ x ≠ [] := by simp [zpc (.inl h)]
  rw [zgQ _ hne]
  rw [h.2, zoo t.r h.1 x, ← h.2]
  simp
theorem zkA {vs : List Tok} (h : ∀ t ∈ vs, t.valid) (x : List UInt8) : zjQ (zgf vs ++ x) = vs ++ zjQ x := by
  induction vs with
  | nil => rfl
  | cons t vs ih =>
    rw [zil, List.append_assoc, zlw (h t (List.mem_cons_self ..)), ih (fun q hq => h q (List.mem_cons_of_mem _ hq))]
    rfl
theorem zh1 {vs : List Tok} (hne : vs ≠ []) (h : ∀ t ∈ vs, t.valid) (x : List UInt8) : znG (zgf vs ++ x) := by
  cases vs with
  | nil => exact absurd rfl hne
  | cons t vs =>
    have := h t (List.mem_cons_self ..)
    rw [zil, List.append_assoc, this.2]
    exact zm6 t.r this.1 _

/-- The pieces are their own text's. -/
def zlZ (ts : List Tok) : Prop := zjQ (zgf ts) = ts
theorem zij {t : Tok} {ts : List Tok} (h : zlZ (t :: ts)) : zlZ ts := by
  unfold zlZ at *
  by_cases hn : zgf (t :: ts) = []
  · rw [hn, zk5] at h; cases h
  · rw [zgQ _ hn] at h
    have h1 : (⟨(decodeL (zgf (t :: ts))).1, (zgf (t :: ts)).take (decodeL (zgf (t :: ts))).2⟩ : Tok) = t := by injection h
    have h2 : zjQ ((zgf (t :: ts)).drop (decodeL (zgf (t :: ts))).2) = ts := by injection h
    have h3 : (zgf (t :: ts)).take (decodeL (zgf (t :: ts))).2 = t.bs := congrArg Tok.bs h1
    have h4 := List.take_append_drop (decodeL (zgf (t :: ts))).2 (zgf (t :: ts))
    rw [h3] at h4
    have h5 : (zgf (t :: ts)).drop (decodeL (zgf (t :: ts))).2 = zgf ts := by
      rw [zil] at h4 ⊢
      exact List.append_cancel_left h4
    rw [← h5]; exact h2
theorem zik {a ts : List Tok} (h : zlZ (a ++ ts)) : zlZ ts := by
  induction a with
  | nil => exact h
  | cons t a ih => exact ih (zij h)
/-- Broken bytes stay, valid pieces become other valid ones. -/
inductive Sub : List Tok → List Tok → Prop
  | nil : Sub [] []
  | brk {b : Tok} {ts us : List Tok} : b.broken = true → Sub ts us → Sub (b :: ts) (b :: us)
  | val {gs vs ts us : List Tok} : gs ≠ [] → vs ≠ [] → (∀ t ∈ gs, t.valid) → (∀ t ∈ vs, t.valid) → Sub ts us → Sub (gs ++ ts) (vs ++ us)
theorem Sub.one {t : Tok} {vs ts us : List Tok} (ht : t.valid) (hn : vs ≠ []) (hv : ∀ t ∈ vs, t.valid) (h : Sub ts us) : Sub (t :: ts) (vs ++ us) :=
  Sub.val (gs := [t]) (by simp) hn (by simpa using ht) hv h
/-- How a list that is put in another's place begins. -/
theorem Sub.head {ts us : List Tok} (h : Sub ts us) : ∃ B ts' us', (∀ b ∈ B, b.broken = true) ∧ ts = B ++ ts' ∧ us = B ++ us' ∧ znG (zgf ts') ∧ znG (zgf us') := by
  induction h with
  | nil => exact ⟨[], [], [], by simp, rfl, rfl, trivial, trivial⟩
  | brk hb _ ih =>
    obtain ⟨B, ts', us', h1, rfl, rfl, h4, h5⟩ := ih
    exact ⟨_ :: B, ts', us', by simpa [hb] using h1, rfl, rfl, h4, h5⟩
  | @val gs vs ts us h1 h2 h3 h4 _ ih =>
    exact ⟨[], gs ++ ts, vs ++ us, by simp, rfl, rfl, by rw [zeo]; exact zh1 h1 h3 _, by rw [zeo]; exact zh1 h2 h4 _⟩
theorem Sub.good {ts us : List Tok} (h : Sub ts us) (hg : zlZ ts) : zlZ us := by
  induction h with
  | nil => exact hg
  | @brk b ts us hb hs ih =>
    have ih' := ih (zij hg)
    obtain ⟨B, ts', us', h1, rfl, rfl, h4, h5⟩ := hs.head
    unfold zlZ at *
    have hne : b.bs ≠ [] := zpc (.inr hb)
    have e1 : zgf (b :: (B ++ ts')) = zgf (b :: B) ++ zgf ts' := by rw [← List.cons_append, zeo]
    have e2 : zgf (b :: (B ++ us')) = zgf (b :: B) ++ zgf us' := by rw [← List.cons_append, zeo]
    rw [e1, zfg _ _ h4] at hg
    rw [e2, zfg _ _ h5]
    have g1 : zjQ (zgf ts') = ts' := by
      have := zik (a := B) (ts := ts') (by
        have hh : zlZ (b :: (B ++ ts')) := by unfold zlZ; rw [e1, zfg _ _ h4]; exact hg
        exact zij hh)
      exact this
    rw [zeo, zfg _ _ h5] at ih'
    have g2 : zjQ (zgf us') = us' := zik (a := B) (by unfold zlZ; rw [zeo, zfg _ _ h5]; exact ih')
    rw [g1, ← List.cons_append] at hg
    rw [g2, ← List.cons_append]
    rw [List.append_cancel_right hg]
  | @val gs vs ts us h1 h2 h3 h4 _ ih =>
    unfold zlZ
    rw [zeo, zkA h4, show zjQ (zgf us) = us from ih (zik hg)]

/-! ### The pieces with their places -/
def place : Nat → List Tok → List Pc
  | _, [] => []
  | i, t :: ts => ⟨i, t.bs.length, t.r⟩ :: place (i + t.bs.length) ts
end Go.Proofs.YtgfkogafkhbgnaaDoor
namespace Go.Proofs.YtgfkogafkhbgnaaDoor
open Go.RowKit Go.Lib
set_option linter.unusedVariables false
set_option linter.unusedSimpArgs false
section
variable {R S : Type} {c : Prop} [Decidable c] {o x z : Option R} {p : Option S} {f : S → Option R} {b : Bool} {y : Option R}
theorem zcD (h : c) (ho : o = x) : grd c o = x := (zoe h).trans ho
theorem za9 {a : S} (h : p = some a) (hf : f a = x) : zaG p f = x := (znB h).trans hf
theorem zaY (hb : b = true) (h : x = z) : zaU b x y = z := (zou hb).trans h
theorem zaT (hb : b = false) (h : y = z) : zaU b x y = z := (zov hb).trans h
theorem zcC {T : Type} {t : T → Option R} {k : T} (h : t k = x) : zbO t k = x := h
theorem zkN (k : Nat) (h : k ≤ 1000) : ∃ n, zb0 = n + k ∧ 18446744073709550000 ≤ n := ⟨18446744073709551616 - k, by unfold zb0; omega, by omega⟩
end
/-- A rune that has a form. -/
def vr (r : Int) : Prop := (0 ≤ r ∧ r < 55296) ∨ (57343 < r ∧ r ≤ 1114111)
instance (r : Int) : Decidable (vr r) := by unfold vr; infer_instance
def wd (r : Int) : Int := if vr r then (if r < 128 then 1 else if r < 2048 then 2 else if r < 65536 then 3 else 4) else 0
theorem u8w (x : Int) (h : 0 ≤ x ∧ x ≤ 255) : IntKind.u8.wrap x = x := IntWalk.u8_in x h
end Go.Proofs.YtgfkogafkhbgnaaDoor
namespace Go.Proofs.YtgfkogafkhbgnaaDoor
open Go.RowKit Go.Lib
set_option linter.unusedVariables false
set_option linter.unusedSimpArgs false
section
variable {R X A B : Type} {xs : List X}
end
end Go.Proofs.YtgfkogafkhbgnaaDoor
namespace Go.Proofs.YtgfkogafkhbgnaaDoor
open Go.RowKit Go.Lib Go.Shelf
set_option linter.unusedVariables false
set_option linter.unusedSimpArgs false
/-- Where a rune is among the two. -/
def zlL (r : Int) : Int := if r = 13 then 0 else if r = 10 then 1 else -1
theorem zmy : ∀ n : Nat, n < 128 → Lib.indexByte [13, 10] (n : Int).toNat.toUInt8 = zlL (n : Int) := by decide +kernel
theorem znz : pcs (⟨#[13, 10]⟩ : ByteArray).data.toList = [⟨0, 1, 13⟩, ⟨1, 1, 10⟩] := by decide +kernel
theorem zmt (j : Option Int) : za8 (fun _ => none) (zbK j) zb0 0 = j := by
  obtain ⟨n, hn, _⟩ := zkN 3 (by decide)
  rw [hn]
  rw [show n + 3 = n + 2 + 1 from rfl, zbt]
  unfold zbK
  rw [znz]
  refine zaY rfl (za9 rfl (zaT (by decide) ?_))
  rw [show n + 2 = n + 1 + 1 from rfl, zbt]
  refine zaY rfl (za9 rfl (zaT (by decide) ?_))
  rw [zbt]
  exact zaT rfl rfl
theorem zjw (r : Nat) (hv : r < 55296 ∨ (57343 < r ∧ r ≤ 1114111)) (h : 128 ≤ r) : 2 ≤ (encodeRune (r : Int)).length ∧ (encodeRune (r : Int)).length ≤ 4 ∧ ∀ x ∈ encodeRune (r : Int), 128 ≤ x.toNat := by
  unfold encodeRune
  rcases zhn r hv with ⟨h1, _⟩ | ⟨h1, h2, e⟩ | ⟨h1, h2, e⟩ | ⟨h1, h2, e⟩
  · omega
  all_goals
    rw [e]
    refine ⟨by simp, by simp, fun x hx => ?_⟩
    simp only [List.map_cons, List.map_nil, List.mem_cons, List.not_mem_nil, or_false] at hx
  · rcases hx with rfl | rfl <;> rw [zd3 _ (by omega) (by omega)] <;> omega
  · rcases hx with rfl | rfl | rfl <;> rw [zd3 _ (by omega) (by omega)] <;> omega
  · rcases hx with rfl | rfl | rfl | rfl <;> rw [zd3 _ (by omega) (by omega)] <;> omega
theorem zmH (r : Nat) (h : r < 128) : encodeRune (r : Int) = [r.toUInt8] := by
  unfold encodeRune; rw [encodeRuneZ_one (by omega) (by omega)]; simp
theorem znn {e : ByteArray} (h2 : ∀ x ∈ e.data.toList, 128 ≤ x.toNat) {i : Int} (h0 : 0 ≤ i) (hi : i < (e.size : Int)) : ∃ c, zgo e i = some c ∧ 128 ≤ c := by
  obtain ⟨n, rfl⟩ : ∃ n : Nat, i = n := ⟨i.toNat, by omega⟩
  have hn : n < e.size := by omega
  refine ⟨((e[n]'hn).toNat : Int), zmB rfl hn, ?_⟩
  have h3 : 128 ≤ (e[n]'hn).toNat := h2 _ (Array.mem_toList_iff.2 (Array.getElem_mem hn))
  omega
theorem znm {r : Nat} (hv : r < 55296 ∨ (57343 < r ∧ r ≤ 1114111)) (h : 128 ≤ r) {i : Int} (h0 : 0 ≤ i) (hi : i < ((Utf8.encode (r : Int)).size : Int)) : ∃ c, zgo (Utf8.encode (r : Int)) i = some c ∧ 128 ≤ c :=
  znn (by rw [ziq]; exact (zjw r hv h).2.2) h0 hi
theorem zod (r : Nat) (hv : r < 55296 ∨ (57343 < r ∧ r ≤ 1114111)) : zb2 (r : Int) = some (zlL (r : Int)) := by
  unfold zb2
  refine zaY (decide_eq_true (by omega)) ?_
  by_cases h1 : r < 128
  · refine zaY (decide_eq_true (by omega)) ?_
    rw [u8w _ (by omega)]
    exact congrArg some (zmy r h1)
  · have he : zlL (r : Int) = -1 := by unfold zlL; rw [if_neg (by omega), if_neg (by omega)]
    rw [he]
    refine zaT (decide_eq_false (by omega)) ?_
    by_cases h2 : r = 65533
    · refine zaY (beq_iff_eq.2 (by omega)) (zcC ?_)
      exact zmt _
    · refine zaT (beq_eq_false_iff_ne.2 (by omega)) ?_
      have hval : Lib.validRune (r : Int) = true := by
        unfold Lib.validRune; simp; omega
      refine zaT (by rw [hval]; rfl) (zcC ?_)
      obtain ⟨hs2, hs4, _⟩ := zjw r hv (by omega)
      rw [← zkQ] at hs2 hs4
      refine zcD ⟨by omega, by omega⟩ ?_
      obtain ⟨n, hn, _⟩ := zkN 1 (by decide)
      rw [hn, zbt]
      unfold zbY
      have hz : ((⟨#[13, 10]⟩ : ByteArray).size : Int) = 2 := rfl
      by_cases h3 : (Utf8.encode (r : Int)).size = 2
      · refine zaY (decide_eq_true (by rw [hz]; omega)) (zcC ?_)
        obtain ⟨c, hc, hc128⟩ := znm hv (by omega) (i := ((Utf8.encode (r : Int)).size : Int) - 1) (by omega) (by omega)
        refine za9 (a := 10) (by rw [h3]; rfl) (za9 hc (zaY (bne_iff_ne.2 (by omega)) ?_))
        refine zcD ⟨by omega, by omega⟩ (zcD ⟨by omega, by rw [hz]; omega, Int.le_refl _⟩ (za9 hc (zaY ?_ rfl)))
        have : (zbn (⟨#[13, 10]⟩ : ByteArray) (((Utf8.encode (r : Int)).size : Int) - 1 + 1) ((⟨#[13, 10]⟩ : ByteArray).size : Int)).data.toList = [] := by rw [h3]; decide +kernel
        rw [this]
        rfl
      · refine zaT (decide_eq_false (by rw [hz]; omega)) rfl
/-- Does a text hold one of the two? -/
def isE (b : UInt8) : Bool := b == 13 || b == 10
def zi8 (s : ByteArray) : Bool := s.data.toList.any isE
theorem zoc {b : UInt8} (h : 128 ≤ b.toNat) : isE b = false := by
  unfold isE
  have h1 : (b == 13) = false := beq_eq_false_iff_ne.2 (by rintro rfl; exact absurd h (by decide))
  have h2 : (b == 10) = false := beq_eq_false_iff_ne.2 (by rintro rfl; exact absurd h (by decide))
  rw [h1, h2]; rfl
theorem znj (r : Int) : decide (0 ≤ zlL r) = (decide (r = 13) || decide (r = 10)) := by
  unfold zlL
  by_cases h1 : r = 13
  · subst h1; rfl
  · by_cases h2 : r = 10
    · subst h2; rfl
    · rw [if_neg h1, if_neg h2]; simp [h1, h2]
theorem zml (l : List UInt8) (h : l ≠ []) : decide (0 ≤ zlL ((decodeL l).1 : Int)) = (l.take (decodeL l).2).any isE := by
  rw [znj]
  obtain ⟨b, t, rfl⟩ := List.exists_cons_of_ne_nil h
  by_cases hb : b.toNat < 128
  · rw [decodeL_ascii b t hb]
    simp only [List.take_succ_cons, List.take_zero, List.any_cons, List.any_nil, Bool.or_false]
    unfold isE
    congr 1
    · rw [Bool.eq_iff_iff, decide_eq_true_iff, beq_iff_eq]
      exact ⟨fun h => UInt8.toNat.inj (by show b.toNat = 13; omega), fun h => by subst h; rfl⟩
    · rw [Bool.eq_iff_iff, decide_eq_true_iff, beq_iff_eq]
      exact ⟨fun h => UInt8.toNat.inj (by show b.toNat = 10; omega), fun h => by subst h; rfl⟩
  · have hd := zny (b :: t) (by simp)
    generalize (decodeL (b :: t)).1 = r at hd ⊢
    generalize (decodeL (b :: t)).2 = w at hd ⊢
    obtain ⟨w, rfl⟩ : ∃ v, w = v + 1 := ⟨w - 1, by have := hd.pos; omega⟩
    have hall : 128 ≤ r ∧ ∀ x ∈ (b :: t).take (w + 1), 128 ≤ x.toNat := by
      by_cases hbr : r = 65533 ∧ w + 1 = 1
      · obtain ⟨rfl, hw⟩ := hbr
        obtain rfl : w = 0 := by omega
        refine ⟨by omega, fun x hx => ?_⟩
        simp at hx; subst hx; omega
      · have he := hd.bytes hbr
        have hr : 128 ≤ r := by
          rcases Nat.lt_or_ge r 128 with h1 | h1
          · rw [zmH r h1, List.take_succ_cons] at he
            have h2 : r.toUInt8 = b := (List.cons.inj he).1
            have h3 : b.toNat = r := by rw [← h2]; simp; omega
            omega
          · exact h1
        refine ⟨hr, ?_⟩
        rw [← he]
        exact (zjw r hd.valid hr).2.2
    rw [decide_eq_false (show ¬ (r : Int) = 13 by omega), decide_eq_false (show ¬ (r : Int) = 10 by omega)]
    symm
    rw [Bool.or_false, List.any_eq_false]
    intro x hx
    rw [zoc (hall.2 x hx)]
    decide
theorem zly (s : ByteArray) (j : Option Int) : ∀ (n m : Nat), (pcs s.data.toList).length - m < n → (∀ p ∈ pcs s.data.toList, zb2 (p.r : Int) = some (zlL (p.r : Int))) →
    ∃ x : Option Int, za8 (fun _ => none) (zbs s j) n m = x ∧ ((((pcs s.data.toList).drop m).any (fun p => decide (0 ≤ zlL (p.r : Int))) = true ∧ ∃ k : Nat, x = some (k : Int)) ∨ (((pcs s.data.toList).drop m).any (fun p => decide (0 ≤ zlL (p.r : Int))) = false ∧ x = j)) := by
  intro n
  induction n with
  | zero => intro m h; omega
  | succ n ih =>
    intro m hm hp
    rw [zbt]
    rcases Nat.lt_or_ge m (pcs s.data.toList).length with h1 | h1
    · obtain ⟨p, hq⟩ : ∃ p, (pcs s.data.toList)[m]? = some p := ⟨_, List.getElem?_eq_getElem h1⟩
      have hd : (pcs s.data.toList).drop m = p :: (pcs s.data.toList).drop (m + 1) := by
        rw [List.drop_eq_getElem_cons h1]; congr 1
        rw [List.getElem?_eq_getElem h1] at hq; exact Option.some.inj hq
      rw [hd, List.any_cons]
      cases hh : decide (0 ≤ zlL (p.r : Int)) with
      | true =>
        refine ⟨some (p.i : Int), ?_, .inl ⟨rfl, p.i, rfl⟩⟩
        unfold zbs
        exact zaY (decide_eq_true h1) (za9 hq (za9 (hp p (List.mem_of_getElem? hq)) (zaY hh rfl)))
      | false =>
        obtain ⟨x, hx, h3⟩ := ih (m + 1) (by omega) hp
        refine ⟨x, ?_, by rw [Bool.false_or]; exact h3⟩
        conv => lhs; unfold zbs
        refine zaY (decide_eq_true h1) (za9 hq (za9 (hp p (List.mem_of_getElem? hq)) (zaT hh hx)))
    · rw [List.drop_eq_nil_of_le h1]
      refine ⟨j, ?_, .inr ⟨rfl, rfl⟩⟩
      unfold zbs
      exact zaT (decide_eq_false (by omega)) rfl
theorem zid : ∀ (n : Nat) (l : List UInt8) (i : Nat), l.length ≤ n → (zdz i l).any (fun p => decide (0 ≤ zlL (p.r : Int))) = l.any isE
  | 0, l, i, h => by
    obtain rfl : l = [] := List.length_eq_zero_iff.1 (by omega)
    rw [zcH]; rfl
  | n + 1, l, i, h => by
    by_cases hl : l = []
    · subst hl; rw [zcH]; rfl
    · have hw := zfo l
      have hle := zhw l hl
      rw [zc5 i l hl, List.any_cons, zid n _ _ (by rw [List.length_drop]; omega)]
      show (decide (0 ≤ zlL ((decodeL l).1 : Int)) || _) = _
      rw [zml l hl, ← List.any_append, List.take_append_drop]
theorem zic : ∀ (n : Nat) (l : List UInt8) (i : Nat), l.length ≤ n → (zdz i l).length ≤ l.length
  | 0, l, i, h => by
    obtain rfl : l = [] := List.length_eq_zero_iff.1 (by omega)
    rw [zcH]; exact Nat.le_refl _
  | n + 1, l, i, h => by
    by_cases hl : l = []
    · subst hl; rw [zcH]; exact Nat.le_refl _
    · have hw := zfo l
      have hle := zhw l hl
      rw [zc5 i l hl, List.length_cons]
      have := zic n (l.drop (decodeL l).2) (i + (decodeL l).2) (by rw [List.length_drop]; omega)
      rw [List.length_drop] at this
      omega
theorem zmm (l : List UInt8) : ∀ p ∈ pcs l, p.r < 55296 ∨ (57343 < p.r ∧ p.r ≤ 1114111) := by
  have key : ∀ (n : Nat) (l : List UInt8) (i : Nat), l.length ≤ n → ∀ p ∈ zdz i l, p.r < 55296 ∨ (57343 < p.r ∧ p.r ≤ 1114111) := by
    intro n
    induction n with
    | zero =>
      intro l i h p hp
      obtain rfl : l = [] := List.length_eq_zero_iff.1 (by omega)
      rw [zcH] at hp; cases hp
    | succ n ih =>
      intro l i h p hp
      by_cases hl : l = []
      · subst hl; rw [zcH] at hp; cases hp
      · have hw := zfo l
        have hle := zhw l hl
        rw [zc5 i l hl] at hp
        rcases List.mem_cons.1 hp with rfl | hp
        · exact zkj l
        · exact ih _ _ (by rw [List.length_drop]; omega) p hp
  exact key _ l 0 (Nat.le_refl _)
theorem znR (s : ByteArray) (h8 : s.size ≤ 8) : ∃ r, zcu s = some r ∧ decide (0 ≤ r) = zi8 s := by
  unfold zcu
  obtain ⟨x, hx, h⟩ := zly s (some (-1)) zb0 0 (by
    have := zic s.data.toList.length s.data.toList 0 (Nat.le_refl _)
    have h2 : s.data.toList.length = s.size := by rw [Array.length_toList]; rfl
    have h3 : (pcs s.data.toList).length ≤ s.data.toList.length := this
    have h4 : (9 : Nat) < zb0 := by unfold zb0; omega
    omega) (fun p hp => zod p.r (zmm _ p hp))
  have hany := zid s.data.toList.length s.data.toList 0 (Nat.le_refl _)
  rw [List.drop_zero] at h
  have e : ∀ r, x = some r → zaU (decide ((⟨#[13, 10]⟩ : ByteArray) = (⟨#[]⟩ : ByteArray))) (some (-1)) (zaU ((((⟨#[13, 10]⟩ : ByteArray).size : Int) : Int) == 1) (zbO (fun (j1 : Int → Option Int) => zaG (zgo (⟨#[13, 10]⟩ : ByteArray) 0) fun (c1 : Int) => grd (I32 c1) <| zaU (decide ((128 : Int) ≤ c1)) (j1 65533) (j1 c1)) (fun (r1 : Int) => none)) (zbO (fun (j2 : Option Int) => zaU (decide (8 < ((s.size : Int) : Int))) (none) (j2)) (zbO (fun (j3 : Option Int) => za8 (fun _ => none) (zbs s j3) zb0 0) (some (-1))))) = some r := fun r hr =>
    zaT (by decide) (zaT (by decide) (zcC (zaT (decide_eq_false (by omega)) (zcC (hx.trans hr)))))
  rcases h with ⟨h1, k, rfl⟩ | ⟨h1, rfl⟩
  · exact ⟨(k : Int), e _ rfl, by rw [decide_eq_true (by omega)]; exact (hany.symm.trans h1).symm⟩
  · exact ⟨-1, e _ rfl, by rw [decide_eq_false (by omega)]; exact (hany.symm.trans h1).symm⟩
def iaV (s : ByteArray) : Int := if 8 < s.size then Lib.indexAny s.data.toList [13, 10] else (zcu s).getD 0
theorem zoS (s : ByteArray) (h : s.size ≤ 4294967280) : FnP Tryd.prog 59 [.string s, .string (⟨#[13, 10]⟩ : ByteArray)] (.int .i64 (iaV s)) := by
  unfold iaV
  split
  · rename_i h8; exact znk s h8 (by omega)
  · rename_i h8
    obtain ⟨r, hr, _⟩ := znR s (by omega)
    rw [hr]
    exact zfE hr
theorem zoT (s : ByteArray) : decide (0 ≤ iaV s) = zi8 s := by
  unfold iaV
  split
  · rename_i h8
    unfold zi8
    generalize s.data.toList = l
    induction l with
    | nil => rfl
    | cons b l ih =>
      have hge := Lib.indexAny_ge [13, 10] l
      have hc : ([13, 10] : List UInt8).contains b = isE b := by unfold isE; simp only [List.contains_cons, List.contains_nil, Bool.or_false]
      rw [Lib.indexAny, hc, List.any_cons]
      cases hb : isE b with
      | true => rfl
      | false =>
        rw [Bool.false_or, ← ih, if_neg (by decide)]
        split
        · rename_i h2; rw [beq_iff_eq.1 h2]
        · rename_i h2
          have h3 : Lib.indexAny l [13, 10] ≠ -1 := fun e => h2 (by rw [e]; rfl)
          rw [decide_eq_true (by omega), decide_eq_true (by omega)]
  · rename_i h8
    obtain ⟨r, hr, h1⟩ := znR s (by omega)
    rw [hr]; exact h1
end Go.Proofs.YtgfkogafkhbgnaaDoor
namespace Go.Proofs.YtgfkogafkhbgnaaDoor
open Go.RowKit Go.Lib
set_option linter.unusedVariables false
set_option linter.unusedSimpArgs false
/-- They hold at the world w, on blocks that are none of K. -/
def Rd (w : World) (K : Nat → Prop) (RD : List Asn) : Prop := ∀ A ∈ RD, ∃ C, A.P C w ∧ ∀ k, C k → ¬ K k
theorem Rd.nil {w : World} {K : Nat → Prop} : Rd w K [] := fun A h => by cases h
theorem Rd.ext {w0 w : World} {K C : Nat → Prop} {RD : List Asn} (h : Rd w0 K RD) (hx : Ext K C w0 w) : Rd w C RD := fun A hA => by
  obtain ⟨D, h1, h2⟩ := h A hA
  have hlt := A.lt h1
  refine ⟨D, A.loc h1 hx.1.size (fun k hk => hx.1.keep k (hlt k hk) (h2 k hk)), fun k hk hc => ?_⟩
  rcases hx.2 k hc with h | h
  · exact h2 k hk h
  · have := hlt k hk; omega
theorem Rd.append {w : World} {K : Nat → Prop} {A B : List Asn} (h1 : Rd w K A) (h2 : Rd w K B) : Rd w K (A ++ B) := fun X hX => by
  rcases List.mem_append.1 hX with h | h
  · exact h1 X h
  · exact h2 X h
theorem Rd.at {w0 w : World} {K : Nat → Prop} {L RD : List Asn} {A : Asn} {i : Nat} (h : Rd w0 K RD) (hw : Holds w0 K L w) (hi : RD[i]? = some A) : ∃ C, A.P C w := by
  obtain ⟨C, _, hx⟩ := hw
  obtain ⟨D, h1, _⟩ := h.ext hx A (List.mem_of_getElem? hi)
  exact ⟨D, h1⟩
/-- What follows of read-only assertions. -/
theorem Rd.more {w : World} {K : Nat → Prop} {RD As : List Asn} {A : Asn} {i : Nat} (h : Rd w K RD) (hi : RD[i]? = some A) (hE : ∀ C, A.P C w → ∀ B ∈ As, ∃ D, B.P D w ∧ ∀ k, D k → C k) : Rd w K (RD ++ As) := by
  refine h.append fun B hB => ?_
  obtain ⟨C, h1, h2⟩ := h A (List.mem_of_getElem? hi)
  obtain ⟨D, h3, h4⟩ := hE C h1 B hB
  exact ⟨D, h3, fun k hk => h2 k (h4 k hk)⟩
theorem zh5 {w : World} : ∀ {L : List Asn} {C : Nat → Prop}, sepL L C w → ∀ B ∈ L, ∃ D, B.P D w ∧ ∀ k, D k → C k
  | [], _, _, B, hB => by cases hB
  | A :: L, C, ⟨C1, C2, h1, h2, h3, h4⟩, B, hB => by
    rcases List.mem_cons.1 hB with rfl | hB
    · exact ⟨C1, h1, fun k hk => (h4 k).2 (.inl hk)⟩
    · obtain ⟨D, g1, g2⟩ := zh5 h2 B hB
      exact ⟨D, g1, fun k hk => (h4 k).2 (.inr (g2 k hk))⟩
/-- Where read-only assertions come from: entries of one's own (R), or read-only ones (RD0). -/
inductive RdS (R RD0 : List Asn) : List Asn → Prop
  | nil : RdS R RD0 []
  | own {A : Asn} {As R' RD : List Asn} (hs : Splits R As R') (hE : ∀ C w, sepL As C w → A.P C w) (h : RdS R RD0 RD) : RdS R RD0 (A :: RD)
  | ro {A : Asn} {RD : List Asn} (i : Nat) (hi : RD0[i]? = some A) (h : RdS R RD0 RD) : RdS R RD0 (A :: RD)
theorem RdS.rd {w0 w : World} {K C1 C2 : Nat → Prop} {R RD0 RD : List Asn} (h : RdS R RD0 RD) (hR : sepL R C2 w) (hd : ∀ k, C1 k → ¬ C2 k) (h0 : Rd w C1 RD0) : Rd w C1 RD := by
  induction h with
  | nil => exact Rd.nil
  | @own A As R' RD hs hE h ih =>
    intro B hB
    rcases List.mem_cons.1 hB with rfl | hB
    · obtain ⟨D1, D2, g1, g2, g3, g4⟩ := hs C2 w hR
      exact ⟨D1, hE D1 w g1, fun k hk hc => hd k hc ((g4 k).2 (.inl hk))⟩
    · exact ih B hB
  | @ro A RD i hi h ih =>
    intro B hB
    rcases List.mem_cons.1 hB with rfl | hB
    · exact h0 _ (List.mem_of_getElem? hi)
    · exact ih B hB
/-- The contract of a function that reads RD. -/
def FnR (P : Program) (f : FuncId) (vs : List Value) (RD As : List Asn) {β : Type} (V : β → Value) (Bs : β → List Asn) : Prop :=
  ∀ w C, Rd w C RD → FnW P f vs As V Bs w C
section
variable {F : Fence} {P : Program} {w0 : World} {K : Nat → Prop} {N : Nat} {dfs : List Deferred} {ops : Array Oper} {Q : Exit → Act → World → Prop} {rest : List Oper} {σ σ' : List (Nat × Value)} {L L' R As Bs : List Asn} {o : Oper} {v : Value}
  {d : Nat} {t : TypeId} {op : Op} {ty : TypeId} {pos : String} {aft : Array Edge} {g : Option (Nat × Bool)} {x y z : Operand} {c c1 c2 : Code} {k : Nat} {A B : Asn} {RO : List (Nat × Obj)} {RD RD0 : List Asn} {e : TypeId} {ex : Exit}
theorem FnR.intro {f : FuncId} {fn : Func} {vs : List Value} {β : Type} {V : β → Value} {Bs : β → List Asn} (hf : P.funcs[f]? = some fn) (hb : fn.body = some c) (hn : fn.ntmps = N) (hN : vs.length ≤ N)
    (h : ∀ w0 K, Rd w0 K RD → TC Fence.wide P w0 K N [] (bodyPostM Fence.wide 0 P fn (FR P V Bs w0 K)) c (zfV vs) As) : FnR P f vs RD As V Bs :=
  fun w C hR => FnW.intro hf hb hn hN (h w C hR)
theorem ziz [WideF F] {xs : List Operand} {ats : Array TypeId} {f : FuncId} {first cap : Array Value} {vs vs' : List Value} {β : Type} {V : β → Value} {Bs : β → List Asn} {dst : Option Nat} (hRd : Rd w0 K RD0)
    (hg : gd ops σ g = some true) (hx : ev σ x = some (.func (.func f) first cap)) (hxs : evL σ xs = some vs) (hv : first.toList ++ vs ++ cap.toList = vs')
    (hent : ∀ args w, (callFunc f args).run P w = .ok (.enter f args) w) (hF : FnR P f vs' RD As V Bs) (hs : Splits L As R) (hS : RdS R RD0 RD)
    (h : ∀ b a w a', a' = a.put dst (V b) → At N dfs σ a → Holds w0 K (R ++ Bs b) w → wpListIn F 0 P ops Q rest a' w) :
    TO F P w0 K N dfs ops Q (⟨dst, .call { callee := .value x, args := xs.toArray, argTypes := ats }, ty, pos, aft, g⟩ :: rest) σ L := by
  intro a w ha hw
  simp only [wpListIn, zfJ (o := ⟨dst, .call { callee := .value x, args := xs.toArray, argTypes := ats }, ty, pos, aft, g⟩) ha hg, if_true]
  refine ⟨fun f _ => WideF.fn f, ?_⟩
  have h1 : (execOp a.eval ⟨dst, .call { callee := .value x, args := xs.toArray, argTypes := ats }, ty, pos, aft, g⟩).run P w = .ok (.enter f vs'.toArray) w := by
    have e : first ++ vs.toArray ++ cap = vs'.toArray := by rw [← hv]; simp
    simp only [execOp, resolve, List.map_toArray, ha.evL hxs, ha.ev hx, Deferred.ofValue, Sem.run_bind, Sem.run_pure, Result.andThen_ok, invoke, e, hent]
  rw [Oper.semAt_plain F _ _ (by simp), h1]
  refine ⟨(fun h => by rw [WideF.depth (F := F)] at h; cases h), ?_⟩
  obtain ⟨C1, C2, hA, g2, g3, hx0, hstep⟩ := hw.split2 hs
  have hRd1 : Rd w C1 RD0 := hRd.ext hx0
  refine WideF.calls ((hF w C1 (hS.rd (w0 := w0) (K := K) g2 g3 hRd1) hA).mono ?_)
  rintro e w' ⟨b, rfl, C', hB, hx'⟩
  exact h b a w' _ rfl ha (hstep _ _ _ hx' hB)
theorem zdw [WideF F] {xs : List Operand} {ats : Array TypeId} {f : FuncId} {first cap : Array Value} {vs vs' : List Value} {β : Type} {V : β → Value} {Bs : β → List Asn} (hRd : Rd w0 K RD0)
    (hg : gd ops σ g = some true) (hd : d < N) (hx : ev σ x = some (.func (.func f) first cap)) (hxs : evL σ xs = some vs) (hv : first.toList ++ vs ++ cap.toList = vs')
    (hent : ∀ args w, (callFunc f args).run P w = .ok (.enter f args) w) (hF : FnR P f vs' RD As V Bs) (hs : Splits L As R) (hS : RdS R RD0 RD)
    (h : ∀ b, TO F P w0 K N dfs ops Q rest ((d, V b) :: σ) (R ++ Bs b)) :
    TO F P w0 K N dfs ops Q (⟨some d, .call { callee := .value x, args := xs.toArray, argTypes := ats }, ty, pos, aft, g⟩ :: rest) σ L :=
  ziz hRd hg hx hxs hv hent hF hs hS fun b a w a' ha' ha hw => by subst ha'; exact h b _ _ (ha.put hd _) hw
/-- A call that gives a plain value: the entries stay as they are. -/
theorem za4 [WideF F] {xs : List Operand} {ats : Array TypeId} {f : FuncId} {first cap : Array Value} {vs vs' : List Value} (hRd : Rd w0 K RD0)
    (hg : gd ops σ g = some true) (hd : d < N) (hx : ev σ x = some (.func (.func f) first cap)) (hxs : evL σ xs = some vs) (hv : first.toList ++ vs ++ cap.toList = vs')
    (hent : ∀ args w, (callFunc f args).run P w = .ok (.enter f args) w) (hF : FnR P f vs' RD [] (fun _ : Unit => v) (fun _ => [])) (hS : RdS L RD0 RD)
    (h : TO F P w0 K N dfs ops Q rest ((d, v) :: σ) L) :
    TO F P w0 K N dfs ops Q (⟨some d, .call { callee := .value x, args := xs.toArray, argTypes := ats }, ty, pos, aft, g⟩ :: rest) σ L :=
  ziz hRd hg hx hxs hv hent hF Splits.nil hS fun b a w a' ha' ha hw => by
    subst ha'
    rw [List.append_nil] at hw
    exact h _ _ (ha.put hd _) hw
/-! ### Reading -/
section
variable {i : Nat}
theorem zbq [WideF F] {b j : Nat} {l : List Value} {e : TypeId} (hr : Rd w0 K RD) (hi : RD[i]? = some (cells b l e)) (hT : zdD P t) (hg : gd ops σ g = some true) (hd : d < N) (hx : ev σ x = some (.pointer (some ⟨b, j, none⟩))) (hj : l[j]? = some v)
    (h : TO F P w0 K N dfs ops Q rest ((d, v) :: σ) L) : TO F P w0 K N dfs ops Q (⟨some d, .load t x, ty, pos, aft, g⟩ :: rest) σ L := by
  obtain ⟨dd, hu, hrow⟩ := hT
  exact zdJ hg hd (by simp) (fun a w ha hw => by
    obtain ⟨C, hC⟩ := hr.at hw hi
    have hc : w.cell? ⟨b, j, none⟩ = some v := zeM hC.2 (by simpa using hj)
    cases dd <;> simp_all [execOp, ha.ev hx, Instr.loadAt, Instr.sureAddr, loadVar, isAgg, Sem.run_bind, run_underlying hu]) h
variable {α : Type} {enc : α → List Value} {size : Nat} {vv : Value} {xs : List α}
theorem zjf {w : World} {C : Nat → Prop} (h : (vec enc e size vv xs).P C w) : Vw vv xs size 0 vv xs := by
  have hw : Holds w (fun _ => False) [vec enc e size vv xs] w → Vw vv xs size 0 vv xs := fun hh => zh0 (k := 0) hh rfl
  have : Holds w C [vec enc e size vv xs] w := ⟨C, sepL.one h, Ext.refl _ _⟩
  exact zh0 (k := 0) this rfl
theorem Rd.vw {w : World} (hr : Rd w K RD) (hi : RD[i]? = some (vec enc e size vv xs)) : Vw vv xs size 0 vv xs := by
  obtain ⟨C, hC, _⟩ := hr _ (List.mem_of_getElem? hi)
  exact zjf hC
theorem zhz [WideF F] {n j off : Nat} {q : α} (hr : Rd w0 K RD) (hi : RD[i]? = some (vec enc e size vv xs)) (hT : zdD P t) (hz : ∀ x, (enc x).length = size) (hg : gd ops σ g = some true) (hd : d < N) (hx : ev σ x = some (.pointer (some ⟨zff vv, off, none⟩)))
    (hq : xs[n]? = some q) (ho : off = n * size + j) (hj : j < size) (hv : (enc q)[j]? = some v) (h : TO F P w0 K N dfs ops Q rest ((d, v) :: σ) L) :
    TO F P w0 K N dfs ops Q (⟨some d, .load t x, ty, pos, aft, g⟩ :: rest) σ L := by
  subst ho
  obtain ⟨dd, hu, hr'⟩ := hT
  refine zdJ hg hd (by simp) (fun a w ha hw => ?_) h
  obtain ⟨C, hC⟩ := hr.at hw hi
  have hV : Vec enc e size vv xs C w := hC
  have hc := hV.cellAt hz hq hj hv
  have h1 := ha.ev hx
  cases dd <;> simp_all [execOp, Instr.loadAt, Instr.sureAddr, loadVar, isAgg, Sem.run_bind, run_underlying hu]
theorem zdv [WideF F] {m j off n : Nat} {q : α} {cs : List Value} (hr : Rd w0 K RD) (hi : RD[i]? = some (vec enc e size vv xs)) (hT : ziA P t n) (hz : ∀ x, (enc x).length = size) (hg : gd ops σ g = some true) (hd : d < N) (hx : ev σ x = some (.pointer (some ⟨zff vv, off, none⟩)))
    (hq : xs[m]? = some q) (ho : off = m * size + j) (hcs : ((enc q).drop j).take n = cs) (hn : cs.length = n)
    (h : TO F P w0 K N dfs ops Q rest ((d, .agg cs.toArray) :: σ) L) : TO F P w0 K N dfs ops Q (⟨some d, .load t x, ty, pos, aft, g⟩ :: rest) σ L := by
  subst ho; subst hn
  obtain ⟨dd, hu, hr', hi'⟩ := hT
  refine zdJ hg hd (by simp) (fun a w ha hw => ?_) h
  obtain ⟨C, hC⟩ := hr.at hw hi
  have hV : Vec enc e size vv xs C w := hC
  have hc : w.rangeAt (zff vv) (m * size + j) cs := fun n u hn => by
    rw [← hcs] at hn
    rw [List.getElem?_take] at hn
    split at hn
    · rw [List.getElem?_drop] at hn
      have hl : j + n < size := by rw [← hz q]; exact (List.getElem?_eq_some_iff.1 hn).1
      have := hV.cellAt hz hq hl hn
      rwa [← Nat.add_assoc] at this
    · cases hn
  simp only [execOp, ha.ev hx, Sem.run_bind, run_loadAt_mid w _ _ t cs dd hc hu hr' hi']; rfl
end
end
/-! ### A record behind a pointer -/
section
variable {α η : Type} {enc : α × η → List Value} {nest : α × η → List Asn} {t : TypeId} {p : Value} {x : α}
/-- The pointer p is nil, or leads to a block of its own with a record in it, and what that owns. -/
def zco (enc : α × η → List Value) (nest : α × η → List Asn) (t : TypeId) (p : Value) : Option α → Asn
  | none => zoU (p = .pointer none)
  | some x => exA fun bh : Nat × η => zev (zoU (p = .pointer (some ⟨bh.1, 0, none⟩)) :: cells bh.1 (enc (x, bh.2)) t :: nest (x, bh.2))
theorem fact_sep {q : Prop} {L : List Asn} {C : Nat → Prop} {w : World} : sepL (zoU q :: L) C w ↔ q ∧ sepL L C w := by
  constructor
  · rintro ⟨C1, C2, ⟨h1, hq⟩, h2, h3, h4⟩
    have : C = C2 := funext fun k => propext ⟨fun h => ((h4 k).1 h).resolve_left (h1 k), fun h => (h4 k).2 (.inr h)⟩
    subst this
    exact ⟨hq, h2⟩
  · rintro ⟨hq, h⟩
    exact ⟨fun _ => False, C, ⟨fun _ h => h, hq⟩, h, fun _ h => h.elim, fun k => by simp⟩
theorem pobj_some {C : Nat → Prop} {w : World} : (zco enc nest t p (some x)).P C w ↔ ∃ b h, p = .pointer (some ⟨b, 0, none⟩) ∧ sepL (cells b (enc (x, h)) t :: nest (x, h)) C w := by
  constructor
  · rintro ⟨⟨b, h⟩, hh⟩
    obtain ⟨h1, h2⟩ := fact_sep.1 hh
    exact ⟨b, h, h1, h2⟩
  · rintro ⟨b, h, h1, h2⟩
    exact ⟨⟨b, h⟩, fact_sep.2 ⟨h1, h2⟩⟩
theorem zn7 {b : Nat} {hd : η} {w : World} {C : Nat → Prop} (h : sepL (cells b (enc (x, hd)) t :: nest (x, hd)) C w) : (zco enc nest t (.pointer (some ⟨b, 0, none⟩)) (some x)).P C w := pobj_some.2 ⟨b, hd, rfl, h⟩
theorem zjb {b : Nat} {hd : η} : Entl (cells b (enc (x, hd)) t :: nest (x, hd)) (fun _ : Unit => [zco enc nest t (.pointer (some ⟨b, 0, none⟩)) (some x)]) (fun _ => True) := fun C w h => ⟨(), trivial, sepL.one1.2 (zn7 h)⟩
/-- Nil, or not. -/
theorem zlH {m : Option α} {C : Nat → Prop} {w : World} (h : (zco enc nest t p m).P C w) : (m = none ∧ p = .pointer none) ∨ (∃ x b, m = some x ∧ p = .pointer (some ⟨b, 0, none⟩)) := by
  cases m with
  | none => exact .inl ⟨rfl, h.2⟩
  | some x => obtain ⟨b, _, h2, _⟩ := pobj_some.1 h; exact .inr ⟨x, b, rfl, h2⟩
end
end Go.Proofs.YtgfkogafkhbgnaaDoor
namespace Go.Proofs.YtgfkogafkhbgnaaDoor
open Go.RowKit Go.Lib
set_option linter.unusedVariables false
set_option linter.unusedSimpArgs false
section
variable {α : Type} {enc : α → List Value} {size k : Nat} {vv : Value} {xs : List α}
/-- From record k on, the records xs lie in vv's block. -/
def zbk (enc : α → List Value) (size : Nat) (vv : Value) (k : Nat) (xs : List α) : Asn :=
  ⟨fun C w => (∀ b, C b → b < w.heap.size) ∧ ∀ i x j v, k ≤ i → xs[i]? = some x → (enc x)[j]? = some v → C (zff vv) ∧ w.cell? ⟨zff vv, i * size + j, none⟩ = some v,
   fun h b hb => h.1 b hb,
   fun {C w w'} h hs hk => ⟨fun b hb => Nat.lt_of_lt_of_le (h.1 b hb) hs, fun i x j v hi hx hv => by
     obtain ⟨h1, h2⟩ := h.2 i x j v hi hx hv
     refine ⟨h1, ?_⟩
     rw [← h2]
     unfold World.cell?
     simp only [hk _ h1]⟩⟩
theorem zeS {e : TypeId} (hz : ∀ x, (enc x).length = size) {C : Nat → Prop} {w : World} (h : (vec enc e size vv xs).P C w) : (zbk enc size vv 0 xs).P C w := by
  have hV : Vec enc e size vv xs C w := h
  refine ⟨(vec enc e size vv xs).lt h, fun i x j v _ hx hv => ?_⟩
  have hj : j < size := by rw [← hz x]; exact (List.getElem?_eq_some_iff.1 hv).1
  refine ⟨?_, hV.cellAt hz hx hj hv⟩
  rcases hV.shape with ⟨_, h2, _⟩ | ⟨g, cap, rfl, _⟩
  · rw [h2] at hx; simp at hx
  · rw [hV.2]; rfl
variable {F : Fence} {P : Program} {w0 : World} {K : Nat → Prop} {N : Nat} {dfs : List Deferred} {ops : Array Oper} {Q : Exit → Act → World → Prop} {rest : List Oper} {σ : List (Nat × Value)} {L RD : List Asn} {v : Value}
  {d i : Nat} {t ty : TypeId} {pos : String} {aft : Array Edge} {g : Option (Nat × Bool)} {x : Operand}
theorem zbi [WideF F] {n j off : Nat} {q : α} (hr : Rd w0 K RD) (hi : RD[i]? = some (zbk enc size vv k xs)) (hle : k ≤ n) (hT : zdD P t) (hg : gd ops σ g = some true) (hd : d < N) (hx : ev σ x = some (.pointer (some ⟨zff vv, off, none⟩)))
    (hq : xs[n]? = some q) (ho : off = n * size + j) (hv : (enc q)[j]? = some v) (h : TO F P w0 K N dfs ops Q rest ((d, v) :: σ) L) :
    TO F P w0 K N dfs ops Q (⟨some d, .load t x, ty, pos, aft, g⟩ :: rest) σ L := by
  subst ho
  obtain ⟨dd, hu, hr'⟩ := hT
  refine zdJ hg hd (by simp) (fun a w ha hw => ?_) h
  obtain ⟨C, hC⟩ := hr.at hw hi
  have hc := (hC.2 n q j v hle hq hv).2
  have h1 := ha.ev hx
  cases dd <;> simp_all [execOp, Instr.loadAt, Instr.sureAddr, loadVar, isAgg, Sem.run_bind, run_underlying hu]
theorem zjJ [WideF F] {m j off n : Nat} {q : α} {cs : List Value} (hr : Rd w0 K RD) (hi : RD[i]? = some (zbk enc size vv k xs)) (hle : k ≤ m) (hT : ziA P t n) (hg : gd ops σ g = some true) (hd : d < N) (hx : ev σ x = some (.pointer (some ⟨zff vv, off, none⟩)))
    (hq : xs[m]? = some q) (ho : off = m * size + j) (hcs : ((enc q).drop j).take n = cs) (hn : cs.length = n)
    (h : TO F P w0 K N dfs ops Q rest ((d, .agg cs.toArray) :: σ) L) : TO F P w0 K N dfs ops Q (⟨some d, .load t x, ty, pos, aft, g⟩ :: rest) σ L := by
  subst ho; subst hn
  obtain ⟨dd, hu, hr', hi'⟩ := hT
  refine zdJ hg hd (by simp) (fun a w ha hw => ?_) h
  obtain ⟨C, hC⟩ := hr.at hw hi
  have hc : w.rangeAt (zff vv) (m * size + j) cs := fun n u hn => by
    rw [← hcs] at hn
    rw [List.getElem?_take] at hn
    split at hn
    · rw [List.getElem?_drop] at hn
      have := (hC.2 m q (j + n) u hle hq hn).2
      rwa [← Nat.add_assoc] at this
    · cases hn
  simp only [execOp, ha.ev hx, Sem.run_bind, run_loadAt_mid w _ _ t cs dd hc hu hr' hi']; rfl
end
end Go.Proofs.YtgfkogafkhbgnaaDoor
namespace Go.Proofs.YtgfkogafkhbgnaaDoor
open Go.RowKit Go.Lib
set_option linter.unusedVariables false
set_option linter.unusedSimpArgs false
section
variable {F : Fence} {P : Program} {w0 : World} {K : Nat → Prop} {N : Nat} {dfs : List Deferred} {ops : Array Oper} {Q : Exit → Act → World → Prop} {rest : List Oper} {σ : List (Nat × Value)} {L : List Asn} {c : Code} {ex : Exit} {k : Nat}
  {α η : Type} {enc : α × η → List Value} {nest : α × η → List Asn} {t : TypeId} {p : Value} {m : Option α} {x : α}
theorem zdu (enc : α × η → List Value) (nest : α × η → List Asn) (t : TypeId) (h : TX w0 K N dfs Q ex σ (L ++ [zco enc nest t (.pointer none) none])) : TX w0 K N dfs Q ex σ L := fun a w ha hw =>
  h a w ha (hw.grow (C' := fun _ => False) (Ext.refl _ _) (sepL.one (A := zco enc nest t (.pointer none) none) ⟨fun _ h => h, rfl⟩))
theorem zeV (h : m = some x) : Entl [zco enc nest t p m] (fun bh : Nat × η => cells bh.1 (enc (x, bh.2)) t :: nest (x, bh.2)) (fun bh => p = .pointer (some ⟨bh.1, 0, none⟩)) := fun C w hh => by
  subst h
  obtain ⟨b, hd, h2, h3⟩ := pobj_some.1 (sepL.one1.1 hh)
  exact ⟨(b, hd), h2, h3⟩
/-- What a pointer of this kind may be. -/
def zqk (p : Value) (m : Option α) : Prop := (m.isNone = true ∧ p = .pointer none) ∨ (m.isNone = false ∧ ∃ b, p = .pointer (some ⟨b, 0, none⟩))
theorem zlR {ty e' : TypeId} {w : World} (ht : P.underlying ty = some (.pointer e')) : (Op.equal ty (.pointer none) (.pointer none)).run P w = .ok true w := by
  have h : ∀ d, (Op.equalIn (d + 1) ty (.pointer none) (.pointer none)).run P w = .ok true w := fun d => by simp [Op.equalIn, run_underlying ht]
  exact h 9999
theorem zi6 {ty e' : TypeId} {y z : Operand} (ht : P.underlying ty = some (.pointer e')) (hv : zqk p m) (w : World) : (do eqGuard .eql ty y z p (.pointer none); binOp .eql ty p (.pointer none) : Sem Value).run P w = .ok (.bool m.isNone) w := by
  rcases hv with ⟨h1, rfl⟩ | ⟨h1, b, rfl⟩
  · rw [h1]; simp [eqGuard, binOp, Sem.run_bind, zlR ht]
  · rw [h1]; exact zbf ht w
end
end Go.Proofs.YtgfkogafkhbgnaaDoor
namespace Go.Proofs.YtgfkogafkhbgnaaDoor
open Go.RowKit Go.Lib
set_option linter.unusedVariables false
set_option linter.unusedSimpArgs false
section
variable {F : Fence} {P : Program} {w0 : World} {K : Nat → Prop} {N : Nat} {dfs : List Deferred} {ops : Array Oper} {Q : Exit → Act → World → Prop} {rest : List Oper} {σ σ' : List (Nat × Value)} {L L' R As Bs : List Asn} {o : Oper} {v : Value}
  {d : Nat} {t : TypeId} {op : Op} {ty : TypeId} {pos : String} {aft : Array Edge} {g : Option (Nat × Bool)} {x y z : Operand} {c c1 c2 : Code} {k : Nat} {A B : Asn} {RO : List (Nat × Obj)} {RD RD0 : List Asn}
/-- g over caps goes through xs; it reads RD. -/
def ItrR (P : Program) (gf : FuncId) (caps : List Value) {α : Type} (enc : α → List Value) (xs : List α) (RD : List Asn) : Prop :=
  ∀ (w : World) (D : Nat → Prop), (∀ A ∈ RD, ∃ C, A.P C w ∧ ∀ k, C k → D k) → (∀ k, D k → k < w.heap.size) → Yields P gf caps.toArray (fun x => (enc x).toArray) xs D w
theorem ItrR.intro {gf : FuncId} {fn : Func} {caps : List Value} {α : Type} {enc : α → List Value} {xs : List α} (hf : P.funcs[gf]? = some fn) (hb : fn.body = some c) (hn : fn.ntmps = N) (hN : caps.length + 1 ≤ N)
    (h : ∀ l w0 K (I X : List α → Asn), Rd w0 K RD → YC P l enc xs I X w0 K →
      TC Fence.wide P w0 K N [] (bodyPostM Fence.wide 0 P fn (FY xs I X w0 K)) c (zfV (.func (.yield l) #[] #[] :: caps)) [I []]) : ItrR P gf caps enc xs RD := by
  subst hn
  intro w D hRD hDlt l I X C0 W hD hsz hC0 hIl hXl hy h0
  have hRo : Rd W C0 RD := fun A hA => by
    obtain ⟨C, h1, h2⟩ := hRD A hA
    exact ⟨C, A.loc h1 hsz (fun k hk => (hD k (h2 k hk)).2), fun k hk hc => (hC0 k hc).2 (h2 k hk)⟩
  have := h l W C0 (fun pre => zpj (I pre) (fun C W W' => hIl pre C W W')) (fun pre => zpj (X pre) (fun C W W' => hXl pre C W W')) hRo (fun pre x post C W1 hxs he hi => by
    obtain ⟨f1, t1, a1, b1, hr1, hr2⟩ := hy pre x post C W1 hxs he hi.1
    refine ⟨f1, t1, a1, b1, hr1, hr2.mono ?_⟩
    rintro e w2 ⟨b, rfl, C', hx, hc⟩
    have hlt : ∀ k, C' k → k < w2.heap.size := fun k hk => by
      have := hx.1.size
      rcases hx.2 k hk with h | h
      · have := hi.2 k h; omega
      · exact h.2
    exact ⟨b, rfl, C', hx, hc.imp (fun h => ⟨h.1, h.2, hlt⟩) (fun h => ⟨h.1, h.2, hlt⟩)⟩)
  have hs : (Value.func (.yield l) #[] #[] :: caps).toArray = #[.func (.yield l) #[] #[]] ++ caps.toArray := by simp
  rw [← hs]
  refine (ze9 hf hb (this _ W (At.start _ (by simpa using hN)) ⟨C0, sepL.one ⟨h0, fun k hk => (hC0 k hk).1⟩, Ext.refl _ _⟩)).mono ?_
  rintro e w' ⟨he, hh⟩
  refine ⟨he, ?_⟩
  rcases hh with ⟨C', hh, hx⟩ | ⟨pre, x, post, hxs, C', hh, hx⟩
  · obtain ⟨C1, C2, g1, g2, _, g4⟩ := hh
    have : C' = C1 := funext fun k => propext (by rw [g4]; exact ⟨fun h => h.resolve_right (g2 k), .inl⟩)
    subst this
    exact ⟨C', hx, .inl g1.1⟩
  · obtain ⟨C1, C2, g1, g2, _, g4⟩ := hh
    have : C' = C1 := funext fun k => propext (by rw [g4]; exact ⟨fun h => h.resolve_right (g2 k), .inl⟩)
    subst this
    exact ⟨C', hx, .inr ⟨pre, x, post, hxs, g1.1⟩⟩
section
variable {α β γ δ : Type}
/-- A range over such an iterator, in a function's own body. -/
theorem zkw {gf : FuncId} {caps : List Value} {enc : α → List Value} {xs : List α} {ps : List Nat} {assign body : Code} (hRd : Rd w0 K RD0) (hRo : Ro w0 K RO)
    (hg : ev σ x = some (.func (.func gf) #[] caps.toArray)) (hent : ∀ args w, (callFunc gf args).run P w = .ok (.enter gf args) w) (hY : ItrR P gf caps enc xs RD)
    (Inv : List α → β → Prop) (LI : List α → β → List Asn) (X : Code → List α → γ → Prop) (LX : Code → List α → γ → List Asn) (σJ : List α → α → β → δ → List (Nat × Value)) (LJ : List α → α → β → δ → List Asn) (b0 : β)
    (h0 : Inv [] b0) (hs : Splits L (LI [] b0) R) (hS : RdS R RD0 RD) (hps : ∀ x, (enc x).length = ps.length) (hpN : ∀ p ∈ ps, p < N)
    (hassign : ∀ l r pre e post b w1 K1, xs = pre ++ e :: post → Ext K K1 w0 w1 → Ro w1 K1 (RO ++ [(l, .loop r)]) → Inv pre b →
      TC (Fence.wide.inRound l) P w1 K1 N [] (Exit.then (fun a w => ∃ j, St w1 K1 N [] (σJ pre e b j) (LJ pre e b j) a w) (fun _ _ _ => False)) assign (zhK ps (enc e) σ) (LI pre b))
    (hbody : ∀ l r pre e post b j w1 K1, xs = pre ++ e :: post → Ext K K1 w0 w1 → Ro w1 K1 (RO ++ [(l, .loop r)]) → Inv pre b → TC (Fence.wide.inRound l) P w1 K1 N [] (RQ Inv LI X LX (pre ++ [e]) w1 K1) body (σJ pre e b j) (LJ pre e b j))
    (hdone : ∀ d b, Inv xs b → TX w0 K N ({ target := .collected d, args := #[] } :: dfs) Q .normal σ (R ++ (LI xs b ++ [zeO d])))
    (hstop : ∀ d c pre e post b, xs = pre ++ e :: post → X c (pre ++ [e]) b → TC Fence.wide P w0 K N ({ target := .collected d, args := #[] } :: dfs) Q c σ (R ++ (LX c (pre ++ [e]) b ++ [zeO d]))) :
    TC Fence.wide P w0 K N dfs Q (.rangeFunc x ps.toArray assign body) σ L := by
  intro a w ha hw
  obtain ⟨C1, C2, g1, g2, g3, gx, hstep⟩ := hw.split2 hs
  have hDh : Rd w C1 RD := hS.rd (w0 := w0) (K := K) g2 g3 (hRd.ext gx)
  have hlt1 := g1.lt
  have hro1 : ∀ {C : Nat → Prop} {W : World}, Ext K C w0 W → Ro W C RO := fun {C W} hx p hp => by
    obtain ⟨h1, h2⟩ := hRo p hp
    refine ⟨hx.1.at h1 h2, fun h => ?_⟩
    rcases hx.2 _ h with h | h
    · exact h2 h
    · have := zcg h1; omega
  refine zk1 (gf := gf) (lb := caps.toArray) (ha.ev hg) hent (hY w (fun k => k < w.heap.size ∧ ¬ C1 k) (fun A hA => by
    obtain ⟨C, h1, h2⟩ := hDh A hA
    exact ⟨C, h1, fun k hk => ⟨A.lt h1 k hk, h2 k hk⟩⟩) (fun k h => h.1)) (fun k h => ⟨h.1, rfl⟩) (Nat.le_refl _) (fun e => by simp [hps])
    (fun pre C W => ∃ b, Inv pre b ∧ sepL (LI pre b) C W) (fun c pre C W => ∃ b, X c pre b ∧ sepL (LX c pre b) C W)
    (fun pre e a1 C W => ∃ b j, Inv pre b ∧ At N [] (σJ pre e b j) a1 ∧ sepL (LJ pre e b j) C W) ?_ ?_ ?_ C1 (fun k hk => ⟨hlt1 k hk, fun h => h.2 hk⟩) ⟨b0, h0, g1⟩ ?_ ?_ ?_ ?_
  · rintro pre C W W' ⟨b, h1, h2⟩ hs hk; exact ⟨b, h1, h2.loc hs hk⟩
  · rintro c pre C W W' ⟨b, h1, h2⟩ hs hk; exact ⟨b, h1, h2.loc hs hk⟩
  · rintro pre e a1 _ C W W' ⟨b, j, h1, h2, h3⟩ hs hk; exact ⟨b, j, h1, h2, h3.loc hs hk⟩
  · rintro l pre e post C W1 hxs hext ⟨b, hb, hi⟩ hn hl ⟨r, hr⟩
    have hx1 : Ext K C w0 W1 := gx.trans hext
    refine wpIn_mono (hassign l r pre e post b W1 C hxs hx1 ((hro1 hx1).snoc hr hn) hb _ W1 (ha.zip ps (enc e) hpN) ⟨C, hi, Ext.refl _ _⟩) ?_
    rintro ex a' w' hq
    cases ex with
    | normal =>
      obtain ⟨j, hj, C', hL', hx'⟩ := hq
      exact ⟨C', hx', b, j, hb, hj, hL'⟩
    | _ => exact hq
  · rintro l pre e post C W1 a1 hxs hext ⟨b, j, hb, hat, hi⟩ hn hl ⟨r, hr⟩
    have hx1 : Ext K C w0 W1 := gx.trans hext
    refine wpIn_mono (hbody l r pre e post b j W1 C hxs hx1 ((hro1 hx1).snoc hr hn) hb a1 W1 hat ⟨C, hi, Ext.refl _ _⟩) ?_
    rintro ex a' w' hq
    cases ex with
    | normal => obtain ⟨b', h1, C', h2, h3⟩ := hq; exact ⟨C', h3, b', h1, h2⟩
    | ret => obtain ⟨b', h1, C', h2, h3⟩ := hq; exact ⟨C', h3, b', h1, h2⟩
    | exit id => obtain ⟨b', h1, C', h2, h3⟩ := hq; exact ⟨C', h3, b', h1, h2⟩
    | goto id => obtain ⟨b', h1, C', h2, h3⟩ := hq; exact ⟨C', h3, b', h1, h2⟩
    | panic _ => exact hq
    | outgrown => exact hq
  · rintro d C W hext ⟨b, hb, hi⟩ hd hCd hdef
    refine hdone d b hb _ W ⟨ha.1, by rw [← ha.2.1], ha.2.2⟩ (hstep _ (fun k => C k ∨ k = d) W ⟨hext.1, fun k hk => ?_⟩ ?_)
    · rcases hk with hk | rfl
      · exact hext.2 k hk
      · exact .inr ⟨hd, zcg hdef⟩
    · exact hi.append (sepL.one ⟨fun k => Iff.rfl, hdef⟩) (fun k hk e => hCd (e ▸ hk))
  · rintro d c pre e post C W hxs hext ⟨b, hb, hi⟩ hd hCd hdef
    refine hstop d c pre e post b hxs hb _ W ⟨ha.1, by rw [← ha.2.1], ha.2.2⟩ (hstep _ (fun k => C k ∨ k = d) W ⟨hext.1, fun k hk => ?_⟩ ?_)
    · rcases hk with hk | rfl
      · exact hext.2 k hk
      · exact .inr ⟨hd, zcg hdef⟩
    · exact hi.append (sepL.one ⟨fun k => Iff.rfl, hdef⟩) (fun k hk e => hCd (e ▸ hk))
end
end
end Go.Proofs.YtgfkogafkhbgnaaDoor
namespace Go.Proofs.YtgfkogafkhbgnaaDoor
open Go.RowKit Go.Lib
set_option linter.unusedVariables false
set_option linter.unusedSimpArgs false
def zc4 (s1 : ByteArray) (j1 : (List Gapi_Place) → (List Gplace_ended) → Int → Int → Int → Int → Int → Int → Int → Option ((Option Gplace_Map) × Int)) (ag1 : (List Gapi_Place) → (List Gplace_ended) → Int → Int → Int → Int → Int → Int → Int → Nat → Option ((Option Gplace_Map) × Int)) (m10 : List Gapi_Place) (m11 : List Gplace_ended) (p16 : Int) (p17 : Int) (p18 : Int) (p19 : Int) (p20 : Int) (line7 : Int) (line8 : Int) (m12 : Nat) : Option ((Option Gplace_Map) × Int) := zaU (decide (m12 < (pcs s1.data.toList).length)) ( zaG ((pcs s1.data.toList)[m12]?) fun (p21 : Pc) => zbO (fun (j2 : Int → Option ((Option Gplace_Map) × Int)) => grd (m10.length + 1 ≤ 2147483648) <| grd (I64 (p17 + 1)) <| grd (I64 (p18 + 1)) <| grd (I64 (p20 + 1)) <| zaU (decide ((65536 : Int) ≤ (p21.r : Int))) ( grd (I64 ((p18 + 1) + 1)) <| j2 ((p18 + 1) + 1)
) ( j2 (p18 + 1)
)
) (fun (p22 : Int) => zbO (fun (j3 : Int → Option ((Option Gplace_Map) × Int)) => zaU (((p21.r : Int) : Int) == 13) ( grd (I64 ((p21.i : Int) + 1)) <| zaU (decide ((((p21.i : Int) + 1) : Int) < (s1.size : Int))) ( grd (I64 ((p21.i : Int) + 1)) <| zaG (zgo s1 ((p21.i : Int) + 1)) fun (c1 : Int) => zaU ((c1 : Int) == 10) ( ag1 (m10 ++ [(⟨(p21.i : Int), p17, p18, p19, p20⟩ : Gapi_Place)]) m11 (p21.i : Int) (p17 + 1) p22 p19 (p20 + 1) line7 line8 (m12 + 1)
) ( zaU (((p21.r : Int) : Int) == 10) ( zaU (decide ((0 : Int) < (p21.i : Int))) ( grd (I64 ((p21.i : Int) - 1)) <| zaG (zgo s1 ((p21.i : Int) - 1)) fun (c2 : Int) => zaU ((c2 : Int) == 13) ( j3 2
) ( zaU (((p21.r : Int) : Int) != 13) ( zaU (((p21.r : Int) : Int) != 10) ( ag1 (m10 ++ [(⟨(p21.i : Int), p17, p18, p19, p20⟩ : Gapi_Place)]) m11 (p21.i : Int) (p17 + 1) p22 p19 (p20 + 1) line7 line8 (m12 + 1)
) ( j3 1
)
) ( j3 1
)
)
) ( zaU (((p21.r : Int) : Int) != 13) ( zaU (((p21.r : Int) : Int) != 10) ( ag1 (m10 ++ [(⟨(p21.i : Int), p17, p18, p19, p20⟩ : Gapi_Place)]) m11 (p21.i : Int) (p17 + 1) p22 p19 (p20 + 1) line7 line8 (m12 + 1)
) ( j3 1
)
) ( j3 1
)
)
) ( zaU (((p21.r : Int) : Int) != 13) ( zaU (((p21.r : Int) : Int) != 10) ( ag1 (m10 ++ [(⟨(p21.i : Int), p17, p18, p19, p20⟩ : Gapi_Place)]) m11 (p21.i : Int) (p17 + 1) p22 p19 (p20 + 1) line7 line8 (m12 + 1)
) ( j3 1
)
) ( j3 1
)
)
)
) ( zaU (((p21.r : Int) : Int) == 10) ( zaU (decide ((0 : Int) < (p21.i : Int))) ( grd (I64 ((p21.i : Int) - 1)) <| zaG (zgo s1 ((p21.i : Int) - 1)) fun (c3 : Int) => zaU ((c3 : Int) == 13) ( j3 2
) ( zaU (((p21.r : Int) : Int) != 13) ( zaU (((p21.r : Int) : Int) != 10) ( ag1 (m10 ++ [(⟨(p21.i : Int), p17, p18, p19, p20⟩ : Gapi_Place)]) m11 (p21.i : Int) (p17 + 1) p22 p19 (p20 + 1) line7 line8 (m12 + 1)
) ( j3 1
)
) ( j3 1
)
)
) ( zaU (((p21.r : Int) : Int) != 13) ( zaU (((p21.r : Int) : Int) != 10) ( ag1 (m10 ++ [(⟨(p21.i : Int), p17, p18, p19, p20⟩ : Gapi_Place)]) m11 (p21.i : Int) (p17 + 1) p22 p19 (p20 + 1) line7 line8 (m12 + 1)
) ( j3 1
)
) ( j3 1
)
)
) ( zaU (((p21.r : Int) : Int) != 13) ( zaU (((p21.r : Int) : Int) != 10) ( ag1 (m10 ++ [(⟨(p21.i : Int), p17, p18, p19, p20⟩ : Gapi_Place)]) m11 (p21.i : Int) (p17 + 1) p22 p19 (p20 + 1) line7 line8 (m12 + 1)
) ( j3 1
)
) ( j3 1
)
)
)
) ( zaU (((p21.r : Int) : Int) == 10) ( zaU (decide ((0 : Int) < (p21.i : Int))) ( grd (I64 ((p21.i : Int) - 1)) <| zaG (zgo s1 ((p21.i : Int) - 1)) fun (c4 : Int) => zaU ((c4 : Int) == 13) ( j3 2
) ( zaU (((p21.r : Int) : Int) != 13) ( zaU (((p21.r : Int) : Int) != 10) ( ag1 (m10 ++ [(⟨(p21.i : Int), p17, p18, p19, p20⟩ : Gapi_Place)]) m11 (p21.i : Int) (p17 + 1) p22 p19 (p20 + 1) line7 line8 (m12 + 1)
) ( j3 1
)
) ( j3 1
)
)
) ( zaU (((p21.r : Int) : Int) != 13) ( zaU (((p21.r : Int) : Int) != 10) ( ag1 (m10 ++ [(⟨(p21.i : Int), p17, p18, p19, p20⟩ : Gapi_Place)]) m11 (p21.i : Int) (p17 + 1) p22 p19 (p20 + 1) line7 line8 (m12 + 1)
) ( j3 1
)
) ( j3 1
)
)
) ( zaU (((p21.r : Int) : Int) != 13) ( zaU (((p21.r : Int) : Int) != 10) ( ag1 (m10 ++ [(⟨(p21.i : Int), p17, p18, p19, p20⟩ : Gapi_Place)]) m11 (p21.i : Int) (p17 + 1) p22 p19 (p20 + 1) line7 line8 (m12 + 1)
) ( j3 1
)
) ( j3 1
)
)
)
) (fun (width1 : Int) => grd (I64 ((p21.i : Int) + 1)) <| grd (I64 (((p21.i : Int) + 1) - width1)) <| grd (m11.length + 1 ≤ 2147483648) <| grd (I64 ((p21.i : Int) + 1)) <| grd (I64 (p19 + 1)) <| ag1 (m10 ++ [(⟨(p21.i : Int), p17, p18, p19, p20⟩ : Gapi_Place)]) (m11 ++ [(⟨line7, ((p21.i : Int) + 1) - width1, width1, line8⟩ : Gplace_ended)]) (p21.i : Int) (p17 + 1) p22 (p19 + 1) 0 ((p21.i : Int) + 1) ((m10 ++ [(⟨(p21.i : Int), p17, p18, p19, p20⟩ : Gapi_Place)]).length : Int) (m12 + 1)
)
)
) ( j1 m10 m11 p16 p17 p18 p19 p20 line7 line8
)
def zen (s1 : ByteArray) : Option ((Option Gplace_Map) × Int) := zaU (decide ((65536 : Int) < (s1.size : Int))) ( some (none, 3)
) ( zbO (fun (j1 : (List Gapi_Place) → (List Gplace_ended) → Int → Int → Int → Int → Int → Int → Int → Option ((Option Gplace_Map) × Int)) => za8 (fun _ _ _ _ _ _ _ _ _ _ => none) (zc4 s1 j1) zb0 ([] : List Gapi_Place) ([] : List Gplace_ended) 0 0 0 0 0 0 0 0
) (fun (m1 : List Gapi_Place) (m2 : List Gplace_ended) (p1 : Int) (p2 : Int) (p3 : Int) (p4 : Int) (p5 : Int) (line1 : Int) (line2 : Int) => grd (m1.length + 1 ≤ 2147483648) <| grd (m2.length + 1 ≤ 2147483648) <| some ((some (⟨s1, m1 ++ [(⟨(s1.size : Int), p2, p3, p4, p5⟩ : Gapi_Place)], m2 ++ [(⟨line1, (s1.size : Int), 0, line2⟩ : Gplace_ended)]⟩ : Gplace_Map)), 0)
)
)
theorem zj5 {s1 : ByteArray} {r : ((Option Gplace_Map) × Int)} (h : zen s1 = some r) : Fn Tryd.prog 45 [.string s1] [] (fun v0 : Value => .tuple #[v0, zI r.2]) (fun v0 => [zco zcz zcy 128 v0 r.1]) := by
 unfold zen at h
 refine Fn.intro Tryd.func45 rfl Tryd.ntmps45 (by simp) ?_
 intro w0 K
 refine zas (zai (zak rfl dc rfl (zak rfl dc rfl (zap (zaj ?_)))))
 refine zgs (β := Unit) (l := 0) (fun _ => False) (fun _ => []) (fun _ => []) rfl ?_ ?_
 ·
  refine zas (zas (zai (zah rfl dc rfl (zbA rfl dc rfl Tryd.underlying9 (zaz rfl dc rfl rfl zdC (zap (zaj ?_)))))))
  refine zaM rfl (fun hb1 => ?_) (fun hb1 => ?_)
  ·
   have h := za0 hb1 h
   refine zas (zai (zak rfl dc rfl (zak rfl dc rfl (zap (zaj (zaX (zay (zcR (by simp) (zdu zcz zcy 128 ?_)))))))))
   show TX _ _ _ _ _ _ _ [zco zcz zcy 128 (.pointer none) none]
   cases h
   exact za3 (rs := [.tmp 2, .tmp 3]) (.pointer none) (.inl rfl) Tryd.results45 (.cons (.tmp rfl) (.cons (.tmp rfl) .nil)) rfl (zal [0] kr rfl)
  ·
   have h := za1 hb1 h
   refine zaP (zaj ?_)
   obtain ⟨j1, hj1, h⟩ := zcp h
   refine zbm (β := (List Gapi_Place) × (List Gplace_ended) × Int × Int × Int × Int × Int × Int × Int × Nat × Hd × Hd × Nat × Nat) 4 rfl (fun b => j1 b.1 b.2.1 b.2.2.1 b.2.2.2.1 b.2.2.2.2.1 b.2.2.2.2.2.1 b.2.2.2.2.2.2.1 b.2.2.2.2.2.2.2.1 b.2.2.2.2.2.2.2.2.1 = some r) (fun b => []) (fun b => [(0, .string s1), (4, zP b.2.2.2.2.2.2.2.2.2.1), (5, zP b.2.2.2.2.2.2.2.2.2.2.2.2.1), (6, zP b.2.2.2.2.2.2.2.2.2.2.2.2.2)]) (fun b => [cells b.2.2.2.2.2.2.2.2.2.1 [.string s1, b.2.2.2.2.2.2.2.2.2.2.1.v, b.2.2.2.2.2.2.2.2.2.2.2.1.v] 128, vec zaK 130 5 b.2.2.2.2.2.2.2.2.2.2.1.v b.1, vec zaF 132 4 b.2.2.2.2.2.2.2.2.2.2.2.1.v b.2.1, cells b.2.2.2.2.2.2.2.2.2.2.2.2.1 [zI b.2.2.1, zI b.2.2.2.1, zI b.2.2.2.2.1, zI b.2.2.2.2.2.1, zI b.2.2.2.2.2.2.1] 130, cells b.2.2.2.2.2.2.2.2.2.2.2.2.2 [zI b.2.2.2.2.2.2.2.1, zI 0, zI 0, zI b.2.2.2.2.2.2.2.2.1] 132]) (fun cut => ?_) ?_
   ·
    refine zas (zai (zah rfl dc rfl ?_))
    refine zbe (v := .agg #[.string s1, .slice none 0 0, .slice none 0 0]) (ps := [(0, .tmp 13)]) rfl dc rfl (fun _ => by kernel_rfl) ?_
    refine zeE rfl dc rfl (fun b4 => ?_)
    refine zak rfl dc rfl (zap (zaj (zas (zai ?_))))
    refine zbe (v := .agg #[zI 0, zI 0, zI 0, zI 0, zI 0]) (ps := []) rfl dc rfl (fun _ => by kernel_rfl) ?_
    refine zbl zoF rfl dc (fun b5 => ?_)
    show TO _ _ _ _ _ _ _ _ _ _ [cells b4 [.string s1, .slice none 0 0, .slice none 0 0] 128, cells b5 [zI 0, zI 0, zI 0, zI 0, zI 0] 130]
    refine zaZ (k := 1) (vs := [zI 0, zI 0, zI 0, zI 0, zI 0]) (l' := [zI 0, zI 0, zI 0, zI 0, zI 0]) zoK rfl rfl rfl rfl rfl (show _ ≤ _ by simp) rfl rfl (zap (zaj (zas (zai ?_))))
    refine zbe (v := .agg #[zI 0, zI 0, zI 0, zI 0]) (ps := []) rfl dc rfl (fun _ => by kernel_rfl) ?_
    refine zbl zoE rfl dc (fun b6 => ?_)
    show TO _ _ _ _ _ _ _ _ _ _ [cells b4 [.string s1, .slice none 0 0, .slice none 0 0] 128, cells b5 [zI 0, zI 0, zI 0, zI 0, zI 0] 130, cells b6 [zI 0, zI 0, zI 0, zI 0] 132]
    refine zaZ (k := 2) (vs := [zI 0, zI 0, zI 0, zI 0]) (l' := [zI 0, zI 0, zI 0, zI 0]) ziU rfl rfl rfl rfl rfl (show _ ≤ _ by simp) rfl rfl (zap (zaj (zas (zlr (zaj (cut (zas (zai (zah rfl dc rfl ?_)))))))))
    refine zfr Tryd.underlying9 rfl dc rfl (fun b7 => ?_)
    show TO _ _ _ _ _ _ _ _ _ _ [cells b4 [.string s1, .slice none 0 0, .slice none 0 0] 128, cells b5 [zI 0, zI 0, zI 0, zI 0, zI 0] 130, cells b6 [zI 0, zI 0, zI 0, zI 0] 132, obj b7 (.stringIter s1 (zdF s1 0))]
    refine zap (zaj (za2 (zel (enc := zaK) (e := 130) (size := 5) ?_)))
    show TC _ _ _ _ _ _ _ _ _ [cells b4 [.string s1, .slice none 0 0, .slice none 0 0] 128, cells b5 [zI 0, zI 0, zI 0, zI 0, zI 0] 130, cells b6 [zI 0, zI 0, zI 0, zI 0] 132, obj b7 (.stringIter s1 (zdF s1 0)), vec zaK 130 5 (.slice none 0 0) ([] : List Gapi_Place)]
    refine zel (enc := zaF) (e := 132) (size := 4) ?_
    show TC _ _ _ _ _ _ _ _ _ [cells b4 [.string s1, (.slice none 0 0), .slice none 0 0] 128, cells b5 [zI 0, zI 0, zI 0, zI 0, zI 0] 130, cells b6 [zI 0, zI 0, zI 0, zI 0] 132, obj b7 (.stringIter s1 (zdF s1 0)), vec zaK 130 5 (.slice none 0 0) ([] : List Gapi_Place), vec zaF 132 4 (.slice none 0 0) ([] : List Gplace_ended)]
    refine zbJ (β := Nat × (List Gapi_Place) × (List Gplace_ended) × Int × Int × Int × Int × Int × Int × Int × Nat × Hd × Hd) (fun b => za8 (fun _ _ _ _ _ _ _ _ _ _ => none) (zc4 s1 j1) b.1 b.2.1 b.2.2.1 b.2.2.2.1 b.2.2.2.2.1 b.2.2.2.2.2.1 b.2.2.2.2.2.2.1 b.2.2.2.2.2.2.2.1 b.2.2.2.2.2.2.2.2.1 b.2.2.2.2.2.2.2.2.2.1 b.2.2.2.2.2.2.2.2.2.2.1 = some r) (fun b => []) (fun b => [(0, .string s1), (4, zP b4), (5, zP b5), (6, zP b6), (19, zP b7)]) (fun b => [cells b4 [.string s1, b.2.2.2.2.2.2.2.2.2.2.2.1.v, b.2.2.2.2.2.2.2.2.2.2.2.2.v] 128, vec zaK 130 5 b.2.2.2.2.2.2.2.2.2.2.2.1.v b.2.1, vec zaF 132 4 b.2.2.2.2.2.2.2.2.2.2.2.2.v b.2.2.1, cells b5 [zI b.2.2.2.1, zI b.2.2.2.2.1, zI b.2.2.2.2.2.1, zI b.2.2.2.2.2.2.1, zI b.2.2.2.2.2.2.2.1] 130, cells b6 [zI b.2.2.2.2.2.2.2.2.1, zI 0, zI 0, zI b.2.2.2.2.2.2.2.2.2.1] 132, obj b7 (.stringIter s1 (zdF s1 b.2.2.2.2.2.2.2.2.2.2.1))]) (fun b => b.1) (zb0, ([] : List Gapi_Place), ([] : List Gplace_ended), 0, 0, 0, 0, 0, 0, 0, 0, Hd.nil, Hd.nil) h rfl (zad rfl (zad rfl (zad rfl (zad rfl (zad rfl (zaH)))))) (zal [0, 4, 5, 1, 2, 3] kr rfl) ?_
    rintro ⟨n1, m10, m11, p16, p17, p18, p19, p20, line7, line8, m12, hd8, hd9⟩ h
    cases n1 with
    | zero => exact zdV h
    | succ n1 =>
     obtain ⟨ag1, hag1⟩ : ∃ ag, ag = za8 (fun _ _ _ _ _ _ _ _ _ _ => none) (zc4 s1 j1) n1 := ⟨_, rfl⟩
     have h : zc4 s1 j1 ag1 m10 m11 p16 p17 p18 p19 p20 line7 line8 m12 = some r := by rw [hag1]; exact h
     unfold zc4 at h
     show TC _ _ _ _ _ ([]) _ _ [(0, .string s1), (4, zP b4), (5, zP b5), (6, zP b6), (19, zP b7)] [cells b4 [.string s1, hd8.v, hd9.v] 128, vec zaK 130 5 hd8.v m10, vec zaF 132 4 hd9.v m11, cells b5 [zI p16, zI p17, zI p18, zI p19, zI p20] 130, cells b6 [zI line7, zI 0, zI 0, zI line8] 132, obj b7 (.stringIter s1 (zdF s1 m12))]
     refine zas (zai ?_)
     refine zfO (b := decide (m12 < (pcs s1.data.toList).length)) (fun hb2 => ?_) (fun hb2 => ?_)
     ·
      have h := za0 hb2 h
      obtain ⟨p21, hq1, h⟩ := zbN h
      refine zfL (k := 5) (m := m12) (p := p21) rfl dc rfl rfl hq1 (zaS rfl dc rfl rfl (zap (zaj (zas (zbu rfl (zaP (zaj (za2 ?_))))))))
      obtain ⟨j2, hj2, h⟩ := zcp h
      refine zbm (β := Int × Hd) 6 rfl (fun b => j2 b.1 = some r) (fun b => []) (fun b => [(0, .string s1), (4, zP b4), (5, zP b5), (6, zP b6), (7, zI (p21.i : Int)), (8, .int .i32 (p21.r : Int)), (19, zP b7)]) (fun b => [cells b4 [.string s1, b.2.v, hd9.v] 128, vec zaK 130 5 b.2.v (m10 ++ [(⟨(p21.i : Int), p17, p18, p19, p20⟩ : Gapi_Place)]), vec zaF 132 4 hd9.v m11, cells b5 [zI (p21.i : Int), zI (p17 + 1), zI b.1, zI p19, zI (p20 + 1)] 130, cells b6 [zI line7, zI 0, zI 0, zI line8] 132, obj b7 (.stringIter s1 (zdF s1 (m12 + 1)))]) (fun cut => ?_) ?_
      ·
       refine zas (zai (zaS rfl dc rfl rfl (zaS rfl dc rfl rfl (zak rfl dc rfl (zak rfl dc rfl (zap (zaj (zas (zai (zah rfl dc rfl (zar zlj rfl dc rfl (show _ = 0 from rfl) ?_)))))))))))
       refine zbo (k := 3) (l' := [zI (p21.i : Int), zI p17, zI p18, zI p19, zI p20]) zjh rfl rfl rfl rfl rfl (fun _ _ => rfl) rfl ?_
       show TO _ _ _ _ _ _ _ _ _ _ [cells b4 [.string s1, hd8.v, hd9.v] 128, vec zaK 130 5 hd8.v m10, vec zaF 132 4 hd9.v m11, cells b5 [zI (p21.i : Int), zI p17, zI p18, zI p19, zI p20] 130, cells b6 [zI line7, zI 0, zI 0, zI line8] 132, obj b7 (.stringIter s1 (zdF s1 (m12 + 1)))]
       refine zap (zaj (zas ?_))
       obtain ⟨hg1, h⟩ := zcb h
       refine zha 1 ?_
       show TC _ _ _ _ _ _ _ _ _ [cells b4 [.string s1, hd8.v, hd9.v] 128, vec zaK 130 5 hd8.v m10, vec zaF 132 4 hd9.v m11, cells b5 [zI (p21.i : Int), zI p17, zI p18, zI p19, zI p20] 130, cells b6 [zI line7, zI 0, zI 0, zI line8] 132, obj b7 (.stringIter s1 (zdF s1 (m12 + 1))), emp]
       refine let vals1 : (Nat × Hd) → List (Nat × Nat × Value) := fun b => [(0, 26, zP b4), (1, 27, zP b4), (2, 28, zP b4), (3, 29, .pointer (some ⟨b4, 1, none⟩)), (4, 30, hd8.v), (5, 31, .agg #[zI (p21.i : Int), zI p17, zI p18, zI p19, zI p20]), (6, 32, .slice (some ⟨b.1, 0, none⟩) 1 1), (7, 33, b.2.v)]; let LL1 : (Nat → Prop) → (Nat × Hd) → List Asn := fun D b => [cells b4 [.string s1, hd8.v, hd9.v] 128, eD D (vec zaK 130 5 hd8.v m10) [(7, vec zaK 130 5 b.2.v (m10 ++ [(⟨(p21.i : Int), p17, p18, p19, p20⟩ : Gapi_Place)]))], vec zaF 132 4 hd9.v m11, cells b5 [zI (p21.i : Int), zI p17, zI p18, zI p19, zI p20] 130, cells b6 [zI line7, zI 0, zI 0, zI line8] 132, obj b7 (.stringIter s1 (zdF s1 (m12 + 1))), eD D emp [(6, cells b.1 [zI (p21.i : Int), zI p17, zI p18, zI p19, zI p20] 130)]]; ?_
       refine zfa (β := Nat × Hd) 8 ((0 : Nat), Hd.nil) vals1 LL1 mixed kr kr dc (fun _ => rfl) (zaa rfl (zaa zdi (zaa rfl (zaa rfl (zaa rfl (zaa rfl (zaa zdi rfl))))))) (zaC ?_ (zaC ?_ (zaC ?_ (zaC ?_ (zaC ?_ (zaC ?_ (zaC ?_ (zaC ?_ DrawG.nil)))))))) ?_
       ·
        intro D b hn hd hcl
        obtain ⟨b8, hd11⟩ := b
        refine zaQ rfl (zah rfl dc (zaE (by rfl) rfl) ?_)
        exact zaR (b8, hd11) 0 (by rfl) (by rfl) rfl (congrArg (dl D) rfl) (zaa rfl (zaa ((zax (by rfl)).trans rfl) (zaa rfl (zaa rfl (zaa rfl (zaa rfl (zaa ((zax (by rfl)).trans rfl) rfl)))))))
       ·
        intro D b hn hd hcl
        obtain ⟨b8, hd11⟩ := b
        refine zaQ (zaa rfl (zaa (zaq (fun hD => hn (hcl 2 _ rfl (hcl 3 _ rfl (hcl 4 _ rfl (hcl 7 _ rfl hD 4 dc) 3 dc) 2 dc) 1 dc)) zaw) rfl)) ?_
        refine zah rfl dc (zaE (by rfl) rfl) ?_
        exact zaR (b8, hd11) 1 (by rfl) (by rfl) rfl (congrArg (dl D) rfl) (zaa rfl (zaa ((zax (by rfl)).trans (zaq (fun hD => hn (hcl 2 _ rfl (hcl 3 _ rfl (hcl 4 _ rfl (hcl 7 _ rfl hD 4 dc) 3 dc) 2 dc) 1 dc)) zaw)) (zaa rfl (zaa rfl (zaa rfl (zaa rfl (zaa ((zax (by rfl)).trans rfl) rfl)))))))
       ·
        intro D b hn hd hcl
        obtain ⟨b8, hd11⟩ := b
        refine zaQ (zaa rfl (zaa (zaq (fun hD => hn (hcl 3 _ rfl (hcl 4 _ rfl (hcl 7 _ rfl hD 4 dc) 3 dc) 2 dc)) zaw) rfl)) ?_
        refine zaW rfl dc (zab (m := 1) rfl rfl (hd 1 dc)) ?_
        exact zaR (b8, hd11) 2 (by rfl) (by rfl) rfl (congrArg (dl D) rfl) (zaa rfl (zaa ((zax (by rfl)).trans (zaq (fun hD => hn (hcl 3 _ rfl (hcl 4 _ rfl (hcl 7 _ rfl hD 4 dc) 3 dc) 2 dc)) zaw)) (zaa rfl (zaa rfl (zaa rfl (zaa rfl (zaa ((zax (by rfl)).trans rfl) rfl)))))))
       ·
        intro D b hn hd hcl
        obtain ⟨b8, hd11⟩ := b
        refine zaQ (zaa rfl (zaa (zaq (fun hD => hn (hcl 4 _ rfl (hcl 7 _ rfl hD 4 dc) 3 dc)) zaw) rfl)) ?_
        refine zar zg2 rfl dc (zab (m := 2) rfl rfl (hd 2 dc)) (show _ = 1 from rfl) ?_
        exact zaR (b8, hd11) 3 (by rfl) (by rfl) rfl (congrArg (dl D) rfl) (zaa rfl (zaa ((zax (by rfl)).trans (zaq (fun hD => hn (hcl 4 _ rfl (hcl 7 _ rfl hD 4 dc) 3 dc)) zaw)) (zaa rfl (zaa rfl (zaa rfl (zaa rfl (zaa ((zax (by rfl)).trans rfl) rfl)))))))
       ·
        intro D b hn hd hcl
        obtain ⟨b8, hd11⟩ := b
        refine zaQ (zaa rfl (zaa (zaq (fun hD => hn (hcl 7 _ rfl hD 4 dc)) zaw) rfl)) ?_
        refine zaN (k := 0) zma rfl dc (zab (m := 3) rfl rfl (hd 3 dc)) rfl rfl ?_
        exact zaR (b8, hd11) 4 (by rfl) (by rfl) rfl (congrArg (dl D) rfl) (zaa rfl (zaa ((zax (by rfl)).trans (zaq (fun hD => hn (hcl 7 _ rfl hD 4 dc)) zaw)) (zaa rfl (zaa rfl (zaa rfl (zaa rfl (zaa ((zax (by rfl)).trans rfl) rfl)))))))
       ·
        intro D b hn hd hcl
        obtain ⟨b8, hd11⟩ := b
        refine zaQ (zaa rfl (zaa (zaq (fun hD => hn (hcl 6 _ rfl (hcl 7 _ rfl hD 6 dc) 5 dc)) zaw) (zaa rfl (zaa rfl (zaa rfl (zaa rfl (zaa (zaq (fun hD => hn (hcl 6 _ rfl hD 5 dc)) zaw) rfl))))))) ?_
        refine zbc (k := 3) (cs := [zI (p21.i : Int), zI p17, zI p18, zI p19, zI p20]) znM rfl dc (zaE (by rfl) rfl) rfl rfl rfl ?_
        exact zaR (b8, hd11) 5 (by rfl) (by rfl) rfl (congrArg (dl D) rfl) (zaa rfl (zaa ((zax (by rfl)).trans (zaq (fun hD => hn (hcl 6 _ rfl (hcl 7 _ rfl hD 6 dc) 5 dc)) zaw)) (zaa rfl (zaa rfl (zaa rfl (zaa rfl (zaa ((zax (by rfl)).trans (zaq (fun hD => hn (hcl 6 _ rfl hD 5 dc)) zaw)) rfl)))))))
       ·
        intro D b hn hd hcl
        obtain ⟨_, hd11⟩ := b
        refine zaQ (zaa rfl (zaa (zaq (fun hD => hn (hcl 7 _ rfl hD 6 dc)) zaw) (zaa rfl (zaa rfl (zaa rfl (zaa rfl (zaa (zaq hn zaw) rfl))))))) ?_
        refine zbg (cs := [zI (p21.i : Int), zI p17, zI p18, zI p19, zI p20]) (te := 130) (ps := [(0, .tmp 31)]) rfl dc (evP.cons (zab (m := 5) rfl rfl (hd 5 dc)) evP.nil) (fun _ => by kernel_rfl) (fun b8 => ?_)
        refine zd5 6 rfl rfl ?_
        show TO _ _ _ _ _ _ _ _ _ _ [cells b4 [.string s1, hd8.v, hd9.v] 128, vec zaK 130 5 hd8.v m10, vec zaF 132 4 hd9.v m11, cells b5 [zI (p21.i : Int), zI p17, zI p18, zI p19, zI p20] 130, cells b6 [zI line7, zI 0, zI 0, zI line8] 132, obj b7 (.stringIter s1 (zdF s1 (m12 + 1))), cells b8 [zI (p21.i : Int), zI p17, zI p18, zI p19, zI p20] 130]
        exact zaR (b8, hd11) 6 (by rfl) (by rfl) rfl (zao (fun _ => rfl) (zao (fun _ => rfl) (zao (fun _ => rfl) (zao (fun _ => rfl) (zao (fun _ => rfl) (zao (fun _ => rfl) (zao (fun hD => absurd hD hn) (zao (fun _ => rfl) rfl)))))))) (zaa rfl (zaa ((zax (by rfl)).trans (zaq (fun hD => hn (hcl 7 _ rfl hD 6 dc)) zaw)) (zaa rfl (zaa rfl (zaa rfl (zaa rfl (zaa (zbb (Or.inr rfl) rfl) rfl)))))))
       ·
        intro D b hn hd hcl
        obtain ⟨b8, _⟩ := b
        refine zaQ (zaa rfl (zaa (zaq hn zaw) (zaa rfl (zaa rfl (zaa rfl (zaa rfl (zaa (zbb (hd 6 dc) rfl) rfl))))))) ?_
        refine zbr (k := 1) (k2 := 6) (ys := [(⟨(p21.i : Int), p17, p18, p19, p20⟩ : Gapi_Place)]) Tryd.underlying125 znV zfz zfy rfl dc (zab (m := 4) rfl rfl (hd 4 dc)) (zab (m := 6) rfl rfl (hd 6 dc)) rfl rfl rfl rfl hg1 (fun v1 => ?_)
        refine zb7 (k := 1) rfl (fun hd11 he1 => ?_)
        subst he1
        exact zaR (b8, hd11) 7 (by rfl) (by rfl) rfl (zao (fun _ => rfl) (zao (fun _ => rfl) (zao (fun _ => rfl) (zao (fun _ => rfl) (zao (fun _ => rfl) (zao (fun _ => rfl) (zao (fun _ => rfl) (zao (fun hD => absurd hD hn) rfl)))))))) (zaa rfl (zaa (zbb (Or.inr rfl) rfl) (zaa rfl (zaa rfl (zaa rfl (zaa rfl (zaa ((zax (by rfl)).trans (zbb (hd 6 dc) rfl)) rfl)))))))
       intro D b hall
       obtain ⟨b8, hd11⟩ := b
       refine zaQ (zaa rfl (zaa (zbb (hall 7 dc) rfl) (zaa rfl (zaa rfl (zaa rfl (zaa rfl (zaa (zbb (hall 6 dc) rfl) rfl))))))) (zaW rfl dc rfl (zar zg2 rfl dc rfl (show _ = 1 from rfl) ?_))
       refine zbo (k := 0) (l' := [.string s1, hd11.v, hd9.v]) znK rfl rfl rfl rfl rfl (fun _ _ => rfl) rfl ?_
       refine zap (zaj (zas (zai (zar zli rfl dc rfl (show _ = 1 from rfl) (zaN (k := 3) zfb rfl dc rfl rfl rfl ?_)))))
       obtain ⟨hg2, h⟩ := zcb h
       refine zaz rfl dc rfl rfl (zbh (r := p17 + 1) (IntWalk.i64_in _ hg2)) (zar zli rfl dc rfl (show _ = 1 from rfl) ?_)
       refine zbo (k := 3) (l' := [zI (p21.i : Int), zI (p17 + 1), zI p18, zI p19, zI p20]) zjh rfl rfl rfl rfl rfl (fun _ _ => rfl) rfl ?_
       show TO _ _ _ _ _ _ _ _ _ _ [cells b4 [.string s1, hd11.v, hd9.v] 128, vec zaK 130 5 hd11.v (m10 ++ [(⟨(p21.i : Int), p17, p18, p19, p20⟩ : Gapi_Place)]), vec zaF 132 4 hd9.v m11, cells b5 [zI (p21.i : Int), zI (p17 + 1), zI p18, zI p19, zI p20] 130, cells b6 [zI line7, zI 0, zI 0, zI line8] 132, obj b7 (.stringIter s1 (zdF s1 (m12 + 1))), cells b8 [zI (p21.i : Int), zI p17, zI p18, zI p19, zI p20] 130]
       refine zap (zaj (zas (zai (zar zhP rfl dc rfl (show _ = 2 from rfl) (zaN (k := 3) zfb rfl dc rfl rfl rfl ?_)))))
       obtain ⟨hg3, h⟩ := zcb h
       refine zaz rfl dc rfl rfl (zbh (r := p18 + 1) (IntWalk.i64_in _ hg3)) (zar zhP rfl dc rfl (show _ = 2 from rfl) ?_)
       refine zbo (k := 3) (l' := [zI (p21.i : Int), zI (p17 + 1), zI (p18 + 1), zI p19, zI p20]) zjh rfl rfl rfl rfl rfl (fun _ _ => rfl) rfl ?_
       refine zap (zaj (zas (zai (zar zjt rfl dc rfl (show _ = 4 from rfl) (zaN (k := 3) zfb rfl dc rfl rfl rfl ?_)))))
       obtain ⟨hg4, h⟩ := zcb h
       refine zaz rfl dc rfl rfl (zbh (r := p20 + 1) (IntWalk.i64_in _ hg4)) (zar zjt rfl dc rfl (show _ = 4 from rfl) ?_)
       refine zbo (k := 3) (l' := [zI (p21.i : Int), zI (p17 + 1), zI (p18 + 1), zI p19, zI (p20 + 1)]) zjh rfl rfl rfl rfl rfl (fun _ _ => rfl) rfl ?_
       show TO _ _ _ _ _ _ _ _ _ _ [cells b4 [.string s1, hd11.v, hd9.v] 128, vec zaK 130 5 hd11.v (m10 ++ [(⟨(p21.i : Int), p17, p18, p19, p20⟩ : Gapi_Place)]), vec zaF 132 4 hd9.v m11, cells b5 [zI (p21.i : Int), zI (p17 + 1), zI (p18 + 1), zI p19, zI (p20 + 1)] 130, cells b6 [zI line7, zI 0, zI 0, zI line8] 132, obj b7 (.stringIter s1 (zdF s1 (m12 + 1))), cells b8 [zI (p21.i : Int), zI p17, zI p18, zI p19, zI p20] 130]
       refine zap (zaj (cut (zas (zai (zah rfl dc rfl (zaz rfl dc rfl rfl zeC (zap (zaj ?_))))))))
       refine zaM rfl (fun hb3 => ?_) (fun hb3 => ?_)
       ·
        have h := za0 hb3 h
        refine zai (zar zhP rfl dc rfl (show _ = 2 from rfl) (zaN (k := 3) zfb rfl dc rfl rfl rfl ?_))
        obtain ⟨hg5, h⟩ := zcb h
        refine zaz rfl dc rfl rfl (zbh (r := (p18 + 1) + 1) (IntWalk.i64_in _ hg5)) (zar zhP rfl dc rfl (show _ = 2 from rfl) ?_)
        refine zbo (k := 3) (l' := [zI (p21.i : Int), zI (p17 + 1), zI ((p18 + 1) + 1), zI p19, zI (p20 + 1)]) zjh rfl rfl rfl rfl rfl (fun _ _ => rfl) rfl ?_
        refine zap ?_
        exact zaO ((p18 + 1) + 1, hd11) h rfl (zad rfl (zad rfl (zad rfl (zad rfl (zad rfl (zad rfl (zad rfl (zaH)))))))) (zal [0, 1, 2, 3, 4, 5] kr rfl)
       ·
        have h := za1 hb3 h
        refine zaP ?_
        exact zaO (p18 + 1, hd11) h rfl (zad rfl (zad rfl (zad rfl (zad rfl (zad rfl (zad rfl (zad rfl (zaH)))))))) (zal [0, 1, 2, 3, 4, 5] kr rfl)
      ·
       rintro ⟨p22, hd10⟩ h
       rw [hj2] at h
       show TC _ _ _ _ _ ([]) _ _ [(0, .string s1), (4, zP b4), (5, zP b5), (6, zP b6), (7, zI (p21.i : Int)), (8, .int .i32 (p21.r : Int)), (19, zP b7)] [cells b4 [.string s1, hd10.v, hd9.v] 128, vec zaK 130 5 hd10.v (m10 ++ [(⟨(p21.i : Int), p17, p18, p19, p20⟩ : Gapi_Place)]), vec zaF 132 4 hd9.v m11, cells b5 [zI (p21.i : Int), zI (p17 + 1), zI p22, zI p19, zI (p20 + 1)] 130, cells b6 [zI line7, zI 0, zI 0, zI line8] 132, obj b7 (.stringIter s1 (zdF s1 (m12 + 1)))]
       obtain ⟨j3, hj3, h⟩ := zcp h
       refine zbm (β := Int) 1 rfl (fun b => j3 b = some r) (fun b => []) (fun b => [(0, .string s1), (4, zP b4), (5, zP b5), (6, zP b6), (7, zI (p21.i : Int)), (9, zI b), (19, zP b7)]) (fun b => [cells b4 [.string s1, hd10.v, hd9.v] 128, vec zaK 130 5 hd10.v (m10 ++ [(⟨(p21.i : Int), p17, p18, p19, p20⟩ : Gapi_Place)]), vec zaF 132 4 hd9.v m11, cells b5 [zI (p21.i : Int), zI (p17 + 1), zI p22, zI p19, zI (p20 + 1)] 130, cells b6 [zI line7, zI 0, zI 0, zI line8] 132, obj b7 (.stringIter s1 (zdF s1 (m12 + 1)))]) (fun cut => ?_) ?_
       ·
        refine zas (zai (zak rfl dc rfl (zap (zaj (cut (za2 (zas (zai (zah rfl dc rfl (zaz rfl dc rfl rfl zb6 (zah rfl dc rfl ?_)))))))))))
        refine za6 (s := 57) rfl (fun hb4 => ?_) (fun hb4 => ?_)
        ·
         have h := za0 hb4 h
         refine zah rfl dc rfl ?_
         obtain ⟨hg6, h⟩ := zcb h
         refine zaz rfl dc rfl rfl (zbh (r := (p21.i : Int) + 1) (IntWalk.i64_in _ hg6)) (zah rfl dc rfl (zbA rfl dc rfl Tryd.underlying9 (zaz rfl dc rfl rfl zbF (zaB (b := true) rfl dc rfl rfl (zah rfl dc rfl ?_)))))
         refine za6 (s := 64) rfl (fun hb5 => ?_) (fun hb5 => ?_)
         ·
          have h := za0 hb5 h
          refine zah rfl dc rfl (zah rfl dc rfl ?_)
          obtain ⟨hg7, h⟩ := zcb h
          refine zaz rfl dc rfl rfl (zbh (r := (p21.i : Int) + 1) (IntWalk.i64_in _ hg7)) ?_
          obtain ⟨c1, hq2, h⟩ := zbN h
          refine zbW rfl dc rfl rfl (zba Tryd.underlying9 hq2) (zaz rfl dc rfl rfl zb6 (zaB (b := true) rfl dc rfl rfl (zak rfl dc rfl (zap (zaj ?_)))))
          refine zaM rfl (fun hb6 => ?_) (fun hb6 => ?_)
          ·
           have h := za0 hb6 h
           refine zby (zc9 dc (zaJ (zaV ?_)))
           subst hag1
           exact zbj (n1, m10 ++ [(⟨(p21.i : Int), p17, p18, p19, p20⟩ : Gapi_Place)], m11, (p21.i : Int), p17 + 1, p22, p19, p20 + 1, line7, line8, m12 + 1, hd10, hd9) h (Nat.lt_succ_self _) rfl (zad rfl (zad rfl (zad rfl (zad rfl (zad rfl (zaH)))))) (zal [0, 1, 2, 3, 4, 5] kr rfl)
          ·
           have h := za1 hb6 h
           refine zas (zai (zah rfl dc rfl (zaz rfl dc rfl rfl zb6 (zah rfl dc rfl ?_))))
           refine za6 (s := 74) rfl (fun hb7 => ?_) (fun hb7 => ?_)
           ·
            have h := za0 hb7 h
            refine zah rfl dc rfl (zaz rfl dc rfl rfl zdC (zaB (b := true) rfl dc rfl rfl (zah rfl dc rfl ?_)))
            refine za6 (s := 78) rfl (fun hb8 => ?_) (fun hb8 => ?_)
            ·
             have h := za0 hb8 h
             refine zah rfl dc rfl (zah rfl dc rfl ?_)
             obtain ⟨hg8, h⟩ := zcb h
             refine zaz rfl dc rfl rfl (zec (r := (p21.i : Int) - 1) (IntWalk.i64_in _ hg8)) ?_
             obtain ⟨c2, hq3, h⟩ := zbN h
             refine zbW rfl dc rfl rfl (zba Tryd.underlying9 hq3) (zaz rfl dc rfl rfl zb6 (zaB (b := true) rfl dc rfl rfl (zak rfl dc rfl (zap (zaj ?_)))))
             refine zaM rfl (fun hb9 => ?_) (fun hb9 => ?_)
             ·
              have h := za0 hb9 h
              refine zai (zak rfl dc rfl (zap (zaA ?_)))
              exact zaO 2 h rfl (zad rfl (zad rfl (zad rfl (zad rfl (zad rfl (zad rfl (zad rfl (zaH)))))))) (zal [0, 1, 2, 3, 4, 5] kr rfl)
             ·
              have h := za1 hb9 h
              refine zas (zai (zah rfl dc rfl (zaz rfl dc rfl rfl zbE (zah rfl dc rfl ?_))))
              refine za6 (s := 88) rfl (fun hb10 => ?_) (fun hb10 => ?_)
              ·
               have h := za0 hb10 h
               refine zah rfl dc rfl (zaz rfl dc rfl rfl zbE (zaB (b := true) rfl dc rfl rfl (zak rfl dc rfl (zap (zaj ?_)))))
               refine zaM rfl (fun hb11 => ?_) (fun hb11 => ?_)
               ·
                have h := za0 hb11 h
                refine zby (zc9 dc (zaJ (zaV ?_)))
                subst hag1
                exact zbj (n1, m10 ++ [(⟨(p21.i : Int), p17, p18, p19, p20⟩ : Gapi_Place)], m11, (p21.i : Int), p17 + 1, p22, p19, p20 + 1, line7, line8, m12 + 1, hd10, hd9) h (Nat.lt_succ_self _) rfl (zad rfl (zad rfl (zad rfl (zad rfl (zad rfl (zaH)))))) (zal [0, 1, 2, 3, 4, 5] kr rfl)
               ·
                have h := za1 hb11 h
                refine zaP (zaA ?_)
                exact zaO 1 h rfl (zad rfl (zad rfl (zad rfl (zad rfl (zad rfl (zad rfl (zad rfl (zaH)))))))) (zal [0, 1, 2, 3, 4, 5] kr rfl)
              ·
               have h := za1 hb10 h
               refine zan rfl dc (zan rfl dc (zaB (b := false) rfl dc rfl rfl (zak rfl dc rfl (zap (zaj (zbp rfl (zaP (zaA ?_))))))))
               exact zaO 1 h rfl (zad rfl (zad rfl (zad rfl (zad rfl (zad rfl (zad rfl (zad rfl (zaH)))))))) (zal [0, 1, 2, 3, 4, 5] kr rfl)
            ·
             have h := za1 hb8 h
             refine zan rfl dc (zan rfl dc (zan rfl dc (zan rfl dc (zan rfl dc (zaB (b := false) rfl dc rfl rfl (zak rfl dc rfl (zap (zaj (zbp rfl (zas (zai (zah rfl dc rfl (zaz rfl dc rfl rfl zbE ?_)))))))))))))
             refine zah rfl dc rfl ?_
             refine za6 (s := 88) rfl (fun hb12 => ?_) (fun hb12 => ?_)
             ·
              have h := za0 hb12 h
              refine zah rfl dc rfl (zaz rfl dc rfl rfl zbE (zaB (b := true) rfl dc rfl rfl (zak rfl dc rfl (zap (zaj ?_)))))
              refine zaM rfl (fun hb13 => ?_) (fun hb13 => ?_)
              ·
               have h := za0 hb13 h
               refine zby (zc9 dc (zaJ (zaV ?_)))
               subst hag1
               exact zbj (n1, m10 ++ [(⟨(p21.i : Int), p17, p18, p19, p20⟩ : Gapi_Place)], m11, (p21.i : Int), p17 + 1, p22, p19, p20 + 1, line7, line8, m12 + 1, hd10, hd9) h (Nat.lt_succ_self _) rfl (zad rfl (zad rfl (zad rfl (zad rfl (zad rfl (zaH)))))) (zal [0, 1, 2, 3, 4, 5] kr rfl)
              ·
               have h := za1 hb13 h
               refine zaP (zaA ?_)
               exact zaO 1 h rfl (zad rfl (zad rfl (zad rfl (zad rfl (zad rfl (zad rfl (zad rfl (zaH)))))))) (zal [0, 1, 2, 3, 4, 5] kr rfl)
             ·
              have h := za1 hb12 h
              refine zan rfl dc (zan rfl dc (zaB (b := false) rfl dc rfl rfl (zak rfl dc rfl (zap (zaj (zbp rfl (zaP (zaA ?_))))))))
              exact zaO 1 h rfl (zad rfl (zad rfl (zad rfl (zad rfl (zad rfl (zad rfl (zad rfl (zaH)))))))) (zal [0, 1, 2, 3, 4, 5] kr rfl)
           ·
            have h := za1 hb7 h
            refine zan rfl dc (zan rfl dc (zaB (b := false) rfl dc rfl rfl (zah rfl dc rfl (zan rfl dc (zan rfl dc (zan rfl dc (zan rfl dc (zan rfl dc (zaB (b := false) rfl dc rfl rfl (zak rfl dc rfl (zap (zaj (zbp rfl ?_)))))))))))))
            refine zas (zai (zah rfl dc rfl (zaz rfl dc rfl rfl zbE (zah rfl dc rfl ?_))))
            refine za6 (s := 88) rfl (fun hb14 => ?_) (fun hb14 => ?_)
            ·
             have h := za0 hb14 h
             refine zah rfl dc rfl (zaz rfl dc rfl rfl zbE (zaB (b := true) rfl dc rfl rfl (zak rfl dc rfl (zap (zaj ?_)))))
             refine zaM rfl (fun hb15 => ?_) (fun hb15 => ?_)
             ·
              have h := za0 hb15 h
              refine zby (zc9 dc (zaJ (zaV ?_)))
              subst hag1
              exact zbj (n1, m10 ++ [(⟨(p21.i : Int), p17, p18, p19, p20⟩ : Gapi_Place)], m11, (p21.i : Int), p17 + 1, p22, p19, p20 + 1, line7, line8, m12 + 1, hd10, hd9) h (Nat.lt_succ_self _) rfl (zad rfl (zad rfl (zad rfl (zad rfl (zad rfl (zaH)))))) (zal [0, 1, 2, 3, 4, 5] kr rfl)
             ·
              have h := za1 hb15 h
              refine zaP (zaA ?_)
              exact zaO 1 h rfl (zad rfl (zad rfl (zad rfl (zad rfl (zad rfl (zad rfl (zad rfl (zaH)))))))) (zal [0, 1, 2, 3, 4, 5] kr rfl)
            ·
             have h := za1 hb14 h
             refine zan rfl dc (zan rfl dc (zaB (b := false) rfl dc rfl rfl (zak rfl dc rfl (zap (zaj (zbp rfl (zaP (zaA ?_))))))))
             exact zaO 1 h rfl (zad rfl (zad rfl (zad rfl (zad rfl (zad rfl (zad rfl (zad rfl (zaH)))))))) (zal [0, 1, 2, 3, 4, 5] kr rfl)
         ·
          have h := za1 hb5 h
          refine zan rfl dc (zan rfl dc (zan rfl dc (zan rfl dc (zan rfl dc (zaB (b := false) rfl dc rfl rfl (zak rfl dc rfl (zap (zaj (zbp rfl (zas (zai (zah rfl dc rfl (zaz rfl dc rfl rfl zb6 ?_)))))))))))))
          refine zah rfl dc rfl ?_
          refine za6 (s := 74) rfl (fun hb16 => ?_) (fun hb16 => ?_)
          ·
           have h := za0 hb16 h
           refine zah rfl dc rfl (zaz rfl dc rfl rfl zdC (zaB (b := true) rfl dc rfl rfl (zah rfl dc rfl ?_)))
           refine za6 (s := 78) rfl (fun hb17 => ?_) (fun hb17 => ?_)
           ·
            have h := za0 hb17 h
            refine zah rfl dc rfl (zah rfl dc rfl ?_)
            obtain ⟨hg9, h⟩ := zcb h
            refine zaz rfl dc rfl rfl (zec (r := (p21.i : Int) - 1) (IntWalk.i64_in _ hg9)) ?_
            obtain ⟨c3, hq4, h⟩ := zbN h
            refine zbW rfl dc rfl rfl (zba Tryd.underlying9 hq4) (zaz rfl dc rfl rfl zb6 (zaB (b := true) rfl dc rfl rfl (zak rfl dc rfl (zap (zaj ?_)))))
            refine zaM rfl (fun hb18 => ?_) (fun hb18 => ?_)
            ·
             have h := za0 hb18 h
             refine zai (zak rfl dc rfl (zap (zaA ?_)))
             exact zaO 2 h rfl (zad rfl (zad rfl (zad rfl (zad rfl (zad rfl (zad rfl (zad rfl (zaH)))))))) (zal [0, 1, 2, 3, 4, 5] kr rfl)
            ·
             have h := za1 hb18 h
             refine zas (zai (zah rfl dc rfl (zaz rfl dc rfl rfl zbE (zah rfl dc rfl ?_))))
             refine za6 (s := 88) rfl (fun hb19 => ?_) (fun hb19 => ?_)
             ·
              have h := za0 hb19 h
              refine zah rfl dc rfl (zaz rfl dc rfl rfl zbE (zaB (b := true) rfl dc rfl rfl (zak rfl dc rfl (zap (zaj ?_)))))
              refine zaM rfl (fun hb20 => ?_) (fun hb20 => ?_)
              ·
               have h := za0 hb20 h
               refine zby (zc9 dc (zaJ (zaV ?_)))
               subst hag1
               exact zbj (n1, m10 ++ [(⟨(p21.i : Int), p17, p18, p19, p20⟩ : Gapi_Place)], m11, (p21.i : Int), p17 + 1, p22, p19, p20 + 1, line7, line8, m12 + 1, hd10, hd9) h (Nat.lt_succ_self _) rfl (zad rfl (zad rfl (zad rfl (zad rfl (zad rfl (zaH)))))) (zal [0, 1, 2, 3, 4, 5] kr rfl)
              ·
               have h := za1 hb20 h
               refine zaP (zaA ?_)
               exact zaO 1 h rfl (zad rfl (zad rfl (zad rfl (zad rfl (zad rfl (zad rfl (zad rfl (zaH)))))))) (zal [0, 1, 2, 3, 4, 5] kr rfl)
             ·
              have h := za1 hb19 h
              refine zan rfl dc (zan rfl dc (zaB (b := false) rfl dc rfl rfl (zak rfl dc rfl (zap (zaj (zbp rfl (zaP (zaA ?_))))))))
              exact zaO 1 h rfl (zad rfl (zad rfl (zad rfl (zad rfl (zad rfl (zad rfl (zad rfl (zaH)))))))) (zal [0, 1, 2, 3, 4, 5] kr rfl)
           ·
            have h := za1 hb17 h
            refine zan rfl dc (zan rfl dc (zan rfl dc (zan rfl dc (zan rfl dc (zaB (b := false) rfl dc rfl rfl (zak rfl dc rfl (zap (zaj (zbp rfl (zas (zai (zah rfl dc rfl (zaz rfl dc rfl rfl zbE ?_)))))))))))))
            refine zah rfl dc rfl ?_
            refine za6 (s := 88) rfl (fun hb21 => ?_) (fun hb21 => ?_)
            ·
             have h := za0 hb21 h
             refine zah rfl dc rfl (zaz rfl dc rfl rfl zbE (zaB (b := true) rfl dc rfl rfl (zak rfl dc rfl (zap (zaj ?_)))))
             refine zaM rfl (fun hb22 => ?_) (fun hb22 => ?_)
             ·
              have h := za0 hb22 h
              refine zby (zc9 dc (zaJ (zaV ?_)))
              subst hag1
              exact zbj (n1, m10 ++ [(⟨(p21.i : Int), p17, p18, p19, p20⟩ : Gapi_Place)], m11, (p21.i : Int), p17 + 1, p22, p19, p20 + 1, line7, line8, m12 + 1, hd10, hd9) h (Nat.lt_succ_self _) rfl (zad rfl (zad rfl (zad rfl (zad rfl (zad rfl (zaH)))))) (zal [0, 1, 2, 3, 4, 5] kr rfl)
             ·
              have h := za1 hb22 h
              refine zaP (zaA ?_)
              exact zaO 1 h rfl (zad rfl (zad rfl (zad rfl (zad rfl (zad rfl (zad rfl (zad rfl (zaH)))))))) (zal [0, 1, 2, 3, 4, 5] kr rfl)
            ·
             have h := za1 hb21 h
             refine zan rfl dc (zan rfl dc (zaB (b := false) rfl dc rfl rfl (zak rfl dc rfl (zap (zaj (zbp rfl (zaP (zaA ?_))))))))
             exact zaO 1 h rfl (zad rfl (zad rfl (zad rfl (zad rfl (zad rfl (zad rfl (zad rfl (zaH)))))))) (zal [0, 1, 2, 3, 4, 5] kr rfl)
          ·
           have h := za1 hb16 h
           refine zan rfl dc (zan rfl dc (zaB (b := false) rfl dc rfl rfl (zah rfl dc rfl (zan rfl dc (zan rfl dc (zan rfl dc (zan rfl dc (zan rfl dc (zaB (b := false) rfl dc rfl rfl (zak rfl dc rfl (zap (zaj (zbp rfl ?_)))))))))))))
           refine zas (zai (zah rfl dc rfl (zaz rfl dc rfl rfl zbE (zah rfl dc rfl ?_))))
           refine za6 (s := 88) rfl (fun hb23 => ?_) (fun hb23 => ?_)
           ·
            have h := za0 hb23 h
            refine zah rfl dc rfl (zaz rfl dc rfl rfl zbE (zaB (b := true) rfl dc rfl rfl (zak rfl dc rfl (zap (zaj ?_)))))
            refine zaM rfl (fun hb24 => ?_) (fun hb24 => ?_)
            ·
             have h := za0 hb24 h
             refine zby (zc9 dc (zaJ (zaV ?_)))
             subst hag1
             exact zbj (n1, m10 ++ [(⟨(p21.i : Int), p17, p18, p19, p20⟩ : Gapi_Place)], m11, (p21.i : Int), p17 + 1, p22, p19, p20 + 1, line7, line8, m12 + 1, hd10, hd9) h (Nat.lt_succ_self _) rfl (zad rfl (zad rfl (zad rfl (zad rfl (zad rfl (zaH)))))) (zal [0, 1, 2, 3, 4, 5] kr rfl)
            ·
             have h := za1 hb24 h
             refine zaP (zaA ?_)
             exact zaO 1 h rfl (zad rfl (zad rfl (zad rfl (zad rfl (zad rfl (zad rfl (zad rfl (zaH)))))))) (zal [0, 1, 2, 3, 4, 5] kr rfl)
           ·
            have h := za1 hb23 h
            refine zan rfl dc (zan rfl dc (zaB (b := false) rfl dc rfl rfl (zak rfl dc rfl (zap (zaj (zbp rfl (zaP (zaA ?_))))))))
            exact zaO 1 h rfl (zad rfl (zad rfl (zad rfl (zad rfl (zad rfl (zad rfl (zad rfl (zaH)))))))) (zal [0, 1, 2, 3, 4, 5] kr rfl)
        ·
         have h := za1 hb4 h
         refine zan rfl dc (zan rfl dc (zan rfl dc (zan rfl dc (zan rfl dc (zaB (b := false) rfl dc rfl rfl (zah rfl dc rfl (zan rfl dc (zan rfl dc (zan rfl dc (zan rfl dc (zan rfl dc (zaB (b := false) rfl dc rfl rfl (zak rfl dc rfl ?_)))))))))))))
         refine zap (zaj (zbp rfl (zas (zai (zah rfl dc rfl (zaz rfl dc rfl rfl zb6 (zah rfl dc rfl ?_)))))))
         refine za6 (s := 74) rfl (fun hb25 => ?_) (fun hb25 => ?_)
         ·
          have h := za0 hb25 h
          refine zah rfl dc rfl (zaz rfl dc rfl rfl zdC (zaB (b := true) rfl dc rfl rfl (zah rfl dc rfl ?_)))
          refine za6 (s := 78) rfl (fun hb26 => ?_) (fun hb26 => ?_)
          ·
           have h := za0 hb26 h
           refine zah rfl dc rfl (zah rfl dc rfl ?_)
           obtain ⟨hg10, h⟩ := zcb h
           refine zaz rfl dc rfl rfl (zec (r := (p21.i : Int) - 1) (IntWalk.i64_in _ hg10)) ?_
           obtain ⟨c4, hq5, h⟩ := zbN h
           refine zbW rfl dc rfl rfl (zba Tryd.underlying9 hq5) (zaz rfl dc rfl rfl zb6 (zaB (b := true) rfl dc rfl rfl (zak rfl dc rfl (zap (zaj ?_)))))
           refine zaM rfl (fun hb27 => ?_) (fun hb27 => ?_)
           ·
            have h := za0 hb27 h
            refine zai (zak rfl dc rfl (zap (zaA ?_)))
            exact zaO 2 h rfl (zad rfl (zad rfl (zad rfl (zad rfl (zad rfl (zad rfl (zad rfl (zaH)))))))) (zal [0, 1, 2, 3, 4, 5] kr rfl)
           ·
            have h := za1 hb27 h
            refine zas (zai (zah rfl dc rfl (zaz rfl dc rfl rfl zbE (zah rfl dc rfl ?_))))
            refine za6 (s := 88) rfl (fun hb28 => ?_) (fun hb28 => ?_)
            ·
             have h := za0 hb28 h
             refine zah rfl dc rfl (zaz rfl dc rfl rfl zbE (zaB (b := true) rfl dc rfl rfl (zak rfl dc rfl (zap (zaj ?_)))))
             refine zaM rfl (fun hb29 => ?_) (fun hb29 => ?_)
             ·
              have h := za0 hb29 h
              refine zby (zc9 dc (zaJ (zaV ?_)))
              subst hag1
              exact zbj (n1, m10 ++ [(⟨(p21.i : Int), p17, p18, p19, p20⟩ : Gapi_Place)], m11, (p21.i : Int), p17 + 1, p22, p19, p20 + 1, line7, line8, m12 + 1, hd10, hd9) h (Nat.lt_succ_self _) rfl (zad rfl (zad rfl (zad rfl (zad rfl (zad rfl (zaH)))))) (zal [0, 1, 2, 3, 4, 5] kr rfl)
             ·
              have h := za1 hb29 h
              refine zaP (zaA ?_)
              exact zaO 1 h rfl (zad rfl (zad rfl (zad rfl (zad rfl (zad rfl (zad rfl (zad rfl (zaH)))))))) (zal [0, 1, 2, 3, 4, 5] kr rfl)
            ·
             have h := za1 hb28 h
             refine zan rfl dc (zan rfl dc (zaB (b := false) rfl dc rfl rfl (zak rfl dc rfl (zap (zaj (zbp rfl (zaP (zaA ?_))))))))
             exact zaO 1 h rfl (zad rfl (zad rfl (zad rfl (zad rfl (zad rfl (zad rfl (zad rfl (zaH)))))))) (zal [0, 1, 2, 3, 4, 5] kr rfl)
          ·
           have h := za1 hb26 h
           refine zan rfl dc (zan rfl dc (zan rfl dc (zan rfl dc (zan rfl dc (zaB (b := false) rfl dc rfl rfl (zak rfl dc rfl (zap (zaj (zbp rfl (zas (zai (zah rfl dc rfl (zaz rfl dc rfl rfl zbE ?_)))))))))))))
           refine zah rfl dc rfl ?_
           refine za6 (s := 88) rfl (fun hb30 => ?_) (fun hb30 => ?_)
           ·
            have h := za0 hb30 h
            refine zah rfl dc rfl (zaz rfl dc rfl rfl zbE (zaB (b := true) rfl dc rfl rfl (zak rfl dc rfl (zap (zaj ?_)))))
            refine zaM rfl (fun hb31 => ?_) (fun hb31 => ?_)
            ·
             have h := za0 hb31 h
             refine zby (zc9 dc (zaJ (zaV ?_)))
             subst hag1
             exact zbj (n1, m10 ++ [(⟨(p21.i : Int), p17, p18, p19, p20⟩ : Gapi_Place)], m11, (p21.i : Int), p17 + 1, p22, p19, p20 + 1, line7, line8, m12 + 1, hd10, hd9) h (Nat.lt_succ_self _) rfl (zad rfl (zad rfl (zad rfl (zad rfl (zad rfl (zaH)))))) (zal [0, 1, 2, 3, 4, 5] kr rfl)
            ·
             have h := za1 hb31 h
             refine zaP (zaA ?_)
             exact zaO 1 h rfl (zad rfl (zad rfl (zad rfl (zad rfl (zad rfl (zad rfl (zad rfl (zaH)))))))) (zal [0, 1, 2, 3, 4, 5] kr rfl)
           ·
            have h := za1 hb30 h
            refine zan rfl dc (zan rfl dc (zaB (b := false) rfl dc rfl rfl (zak rfl dc rfl (zap (zaj (zbp rfl (zaP (zaA ?_))))))))
            exact zaO 1 h rfl (zad rfl (zad rfl (zad rfl (zad rfl (zad rfl (zad rfl (zad rfl (zaH)))))))) (zal [0, 1, 2, 3, 4, 5] kr rfl)
         ·
          have h := za1 hb25 h
          refine zan rfl dc (zan rfl dc (zaB (b := false) rfl dc rfl rfl (zah rfl dc rfl (zan rfl dc (zan rfl dc (zan rfl dc (zan rfl dc (zan rfl dc (zaB (b := false) rfl dc rfl rfl (zak rfl dc rfl (zap (zaj (zbp rfl ?_)))))))))))))
          refine zas (zai (zah rfl dc rfl (zaz rfl dc rfl rfl zbE (zah rfl dc rfl ?_))))
          refine za6 (s := 88) rfl (fun hb32 => ?_) (fun hb32 => ?_)
          ·
           have h := za0 hb32 h
           refine zah rfl dc rfl (zaz rfl dc rfl rfl zbE (zaB (b := true) rfl dc rfl rfl (zak rfl dc rfl (zap (zaj ?_)))))
           refine zaM rfl (fun hb33 => ?_) (fun hb33 => ?_)
           ·
            have h := za0 hb33 h
            refine zby (zc9 dc (zaJ (zaV ?_)))
            subst hag1
            exact zbj (n1, m10 ++ [(⟨(p21.i : Int), p17, p18, p19, p20⟩ : Gapi_Place)], m11, (p21.i : Int), p17 + 1, p22, p19, p20 + 1, line7, line8, m12 + 1, hd10, hd9) h (Nat.lt_succ_self _) rfl (zad rfl (zad rfl (zad rfl (zad rfl (zad rfl (zaH)))))) (zal [0, 1, 2, 3, 4, 5] kr rfl)
           ·
            have h := za1 hb33 h
            refine zaP (zaA ?_)
            exact zaO 1 h rfl (zad rfl (zad rfl (zad rfl (zad rfl (zad rfl (zad rfl (zad rfl (zaH)))))))) (zal [0, 1, 2, 3, 4, 5] kr rfl)
          ·
           have h := za1 hb32 h
           refine zan rfl dc (zan rfl dc (zaB (b := false) rfl dc rfl rfl (zak rfl dc rfl (zap (zaj (zbp rfl (zaP (zaA ?_))))))))
           exact zaO 1 h rfl (zad rfl (zad rfl (zad rfl (zad rfl (zad rfl (zad rfl (zad rfl (zaH)))))))) (zal [0, 1, 2, 3, 4, 5] kr rfl)
       ·
        rintro width1 h
        rw [hj3] at h
        show TC _ _ _ _ _ ([]) _ _ [(0, .string s1), (4, zP b4), (5, zP b5), (6, zP b6), (7, zI (p21.i : Int)), (9, zI width1), (19, zP b7)] [cells b4 [.string s1, hd10.v, hd9.v] 128, vec zaK 130 5 hd10.v (m10 ++ [(⟨(p21.i : Int), p17, p18, p19, p20⟩ : Gapi_Place)]), vec zaF 132 4 hd9.v m11, cells b5 [zI (p21.i : Int), zI (p17 + 1), zI p22, zI p19, zI (p20 + 1)] 130, cells b6 [zI line7, zI 0, zI 0, zI line8] 132, obj b7 (.stringIter s1 (zdF s1 (m12 + 1)))]
        refine zas (zai (zah rfl dc rfl ?_))
        obtain ⟨hg11, h⟩ := zcb h
        refine zaz rfl dc rfl rfl (zbh (r := (p21.i : Int) + 1) (IntWalk.i64_in _ hg11)) (zah rfl dc rfl ?_)
        obtain ⟨hg12, h⟩ := zcb h
        refine zaz rfl dc rfl rfl (zec (r := ((p21.i : Int) + 1) - width1) (IntWalk.i64_in _ hg12)) (zar zhO rfl dc rfl (show _ = 0 from rfl) (zar zfC rfl dc rfl (show _ = 1 from rfl) ?_))
        refine zbo (k := 4) (l' := [zI line7, zI (((p21.i : Int) + 1) - width1), zI 0, zI line8]) zjh rfl rfl rfl rfl rfl (fun _ _ => rfl) rfl ?_
        refine zap (zaj (zas (zai (zah rfl dc rfl (zar zjs rfl dc rfl (show _ = 2 from rfl) ?_)))))
        refine zbo (k := 4) (l' := [zI line7, zI (((p21.i : Int) + 1) - width1), zI width1, zI line8]) zjh rfl rfl rfl rfl rfl (fun _ _ => rfl) rfl ?_
        show TO _ _ _ _ _ _ _ _ _ _ [cells b4 [.string s1, hd10.v, hd9.v] 128, vec zaK 130 5 hd10.v (m10 ++ [(⟨(p21.i : Int), p17, p18, p19, p20⟩ : Gapi_Place)]), vec zaF 132 4 hd9.v m11, cells b5 [zI (p21.i : Int), zI (p17 + 1), zI p22, zI p19, zI (p20 + 1)] 130, cells b6 [zI line7, zI (((p21.i : Int) + 1) - width1), zI width1, zI line8] 132, obj b7 (.stringIter s1 (zdF s1 (m12 + 1)))]
        refine zap (zaj (zas ?_))
        obtain ⟨hg13, h⟩ := zcb h
        refine zha 1 ?_
        show TC _ _ _ _ _ _ _ _ _ [cells b4 [.string s1, hd10.v, hd9.v] 128, vec zaK 130 5 hd10.v (m10 ++ [(⟨(p21.i : Int), p17, p18, p19, p20⟩ : Gapi_Place)]), vec zaF 132 4 hd9.v m11, cells b5 [zI (p21.i : Int), zI (p17 + 1), zI p22, zI p19, zI (p20 + 1)] 130, cells b6 [zI line7, zI (((p21.i : Int) + 1) - width1), zI width1, zI line8] 132, obj b7 (.stringIter s1 (zdF s1 (m12 + 1))), emp]
        refine let vals2 : (Nat × Hd) → List (Nat × Nat × Value) := fun b => [(0, 100, zP b4), (1, 101, zP b4), (2, 102, zP b4), (3, 103, .pointer (some ⟨b4, 2, none⟩)), (4, 104, hd9.v), (5, 105, .agg #[zI line7, zI (((p21.i : Int) + 1) - width1), zI width1, zI line8]), (6, 106, .slice (some ⟨b.1, 0, none⟩) 1 1), (7, 107, b.2.v)]; let LL2 : (Nat → Prop) → (Nat × Hd) → List Asn := fun D b => [cells b4 [.string s1, hd10.v, hd9.v] 128, vec zaK 130 5 hd10.v (m10 ++ [(⟨(p21.i : Int), p17, p18, p19, p20⟩ : Gapi_Place)]), eD D (vec zaF 132 4 hd9.v m11) [(7, vec zaF 132 4 b.2.v (m11 ++ [(⟨line7, ((p21.i : Int) + 1) - width1, width1, line8⟩ : Gplace_ended)]))], cells b5 [zI (p21.i : Int), zI (p17 + 1), zI p22, zI p19, zI (p20 + 1)] 130, cells b6 [zI line7, zI (((p21.i : Int) + 1) - width1), zI width1, zI line8] 132, obj b7 (.stringIter s1 (zdF s1 (m12 + 1))), eD D emp [(6, cells b.1 [zI line7, zI (((p21.i : Int) + 1) - width1), zI width1, zI line8] 132)]]; ?_
        refine zfa (β := Nat × Hd) 8 ((0 : Nat), Hd.nil) vals2 LL2 mixed kr kr dc (fun _ => rfl) (zaa rfl (zaa rfl (zaa zdi (zaa rfl (zaa rfl (zaa rfl (zaa zdi rfl))))))) (zaC ?_ (zaC ?_ (zaC ?_ (zaC ?_ (zaC ?_ (zaC ?_ (zaC ?_ (zaC ?_ DrawG.nil)))))))) ?_
        ·
         intro D b hn hd hcl
         obtain ⟨b9, hd12⟩ := b
         refine zaQ rfl (zah rfl dc (zaE (by rfl) rfl) ?_)
         exact zaR (b9, hd12) 0 (by rfl) (by rfl) rfl (congrArg (dl D) rfl) (zaa rfl (zaa rfl (zaa ((zax (by rfl)).trans rfl) (zaa rfl (zaa rfl (zaa rfl (zaa ((zax (by rfl)).trans rfl) rfl)))))))
        ·
         intro D b hn hd hcl
         obtain ⟨b9, hd12⟩ := b
         refine zaQ (zaa rfl (zaa rfl (zaa (zaq (fun hD => hn (hcl 2 _ rfl (hcl 3 _ rfl (hcl 4 _ rfl (hcl 7 _ rfl hD 4 dc) 3 dc) 2 dc) 1 dc)) zaw) rfl))) ?_
         refine zah rfl dc (zaE (by rfl) rfl) ?_
         exact zaR (b9, hd12) 1 (by rfl) (by rfl) rfl (congrArg (dl D) rfl) (zaa rfl (zaa rfl (zaa ((zax (by rfl)).trans (zaq (fun hD => hn (hcl 2 _ rfl (hcl 3 _ rfl (hcl 4 _ rfl (hcl 7 _ rfl hD 4 dc) 3 dc) 2 dc) 1 dc)) zaw)) (zaa rfl (zaa rfl (zaa rfl (zaa ((zax (by rfl)).trans rfl) rfl)))))))
        ·
         intro D b hn hd hcl
         obtain ⟨b9, hd12⟩ := b
         refine zaQ (zaa rfl (zaa rfl (zaa (zaq (fun hD => hn (hcl 3 _ rfl (hcl 4 _ rfl (hcl 7 _ rfl hD 4 dc) 3 dc) 2 dc)) zaw) rfl))) ?_
         refine zaW rfl dc (zab (m := 1) rfl rfl (hd 1 dc)) ?_
         exact zaR (b9, hd12) 2 (by rfl) (by rfl) rfl (congrArg (dl D) rfl) (zaa rfl (zaa rfl (zaa ((zax (by rfl)).trans (zaq (fun hD => hn (hcl 3 _ rfl (hcl 4 _ rfl (hcl 7 _ rfl hD 4 dc) 3 dc) 2 dc)) zaw)) (zaa rfl (zaa rfl (zaa rfl (zaa ((zax (by rfl)).trans rfl) rfl)))))))
        ·
         intro D b hn hd hcl
         obtain ⟨b9, hd12⟩ := b
         refine zaQ (zaa rfl (zaa rfl (zaa (zaq (fun hD => hn (hcl 4 _ rfl (hcl 7 _ rfl hD 4 dc) 3 dc)) zaw) rfl))) ?_
         refine zar zeQ rfl dc (zab (m := 2) rfl rfl (hd 2 dc)) (show _ = 2 from rfl) ?_
         exact zaR (b9, hd12) 3 (by rfl) (by rfl) rfl (congrArg (dl D) rfl) (zaa rfl (zaa rfl (zaa ((zax (by rfl)).trans (zaq (fun hD => hn (hcl 4 _ rfl (hcl 7 _ rfl hD 4 dc) 3 dc)) zaw)) (zaa rfl (zaa rfl (zaa rfl (zaa ((zax (by rfl)).trans rfl) rfl)))))))
        ·
         intro D b hn hd hcl
         obtain ⟨b9, hd12⟩ := b
         refine zaQ (zaa rfl (zaa rfl (zaa (zaq (fun hD => hn (hcl 7 _ rfl hD 4 dc)) zaw) rfl))) ?_
         refine zaN (k := 0) zhu rfl dc (zab (m := 3) rfl rfl (hd 3 dc)) rfl rfl ?_
         exact zaR (b9, hd12) 4 (by rfl) (by rfl) rfl (congrArg (dl D) rfl) (zaa rfl (zaa rfl (zaa ((zax (by rfl)).trans (zaq (fun hD => hn (hcl 7 _ rfl hD 4 dc)) zaw)) (zaa rfl (zaa rfl (zaa rfl (zaa ((zax (by rfl)).trans rfl) rfl)))))))
        ·
         intro D b hn hd hcl
         obtain ⟨b9, hd12⟩ := b
         refine zaQ (zaa rfl (zaa rfl (zaa (zaq (fun hD => hn (hcl 6 _ rfl (hcl 7 _ rfl hD 6 dc) 5 dc)) zaw) (zaa rfl (zaa rfl (zaa rfl (zaa (zaq (fun hD => hn (hcl 6 _ rfl hD 5 dc)) zaw) rfl))))))) ?_
         refine zbc (k := 4) (cs := [zI line7, zI (((p21.i : Int) + 1) - width1), zI width1, zI line8]) znL rfl dc (zaE (by rfl) rfl) rfl rfl rfl ?_
         exact zaR (b9, hd12) 5 (by rfl) (by rfl) rfl (congrArg (dl D) rfl) (zaa rfl (zaa rfl (zaa ((zax (by rfl)).trans (zaq (fun hD => hn (hcl 6 _ rfl (hcl 7 _ rfl hD 6 dc) 5 dc)) zaw)) (zaa rfl (zaa rfl (zaa rfl (zaa ((zax (by rfl)).trans (zaq (fun hD => hn (hcl 6 _ rfl hD 5 dc)) zaw)) rfl)))))))
        ·
         intro D b hn hd hcl
         obtain ⟨_, hd12⟩ := b
         refine zaQ (zaa rfl (zaa rfl (zaa (zaq (fun hD => hn (hcl 7 _ rfl hD 6 dc)) zaw) (zaa rfl (zaa rfl (zaa rfl (zaa (zaq hn zaw) rfl))))))) ?_
         refine zbg (cs := [zI line7, zI (((p21.i : Int) + 1) - width1), zI width1, zI line8]) (te := 132) (ps := [(0, .tmp 105)]) rfl dc (evP.cons (zab (m := 5) rfl rfl (hd 5 dc)) evP.nil) (fun _ => by kernel_rfl) (fun b9 => ?_)
         refine zd5 6 rfl rfl ?_
         show TO _ _ _ _ _ _ _ _ _ _ [cells b4 [.string s1, hd10.v, hd9.v] 128, vec zaK 130 5 hd10.v (m10 ++ [(⟨(p21.i : Int), p17, p18, p19, p20⟩ : Gapi_Place)]), vec zaF 132 4 hd9.v m11, cells b5 [zI (p21.i : Int), zI (p17 + 1), zI p22, zI p19, zI (p20 + 1)] 130, cells b6 [zI line7, zI (((p21.i : Int) + 1) - width1), zI width1, zI line8] 132, obj b7 (.stringIter s1 (zdF s1 (m12 + 1))), cells b9 [zI line7, zI (((p21.i : Int) + 1) - width1), zI width1, zI line8] 132]
         exact zaR (b9, hd12) 6 (by rfl) (by rfl) rfl (zao (fun _ => rfl) (zao (fun _ => rfl) (zao (fun _ => rfl) (zao (fun _ => rfl) (zao (fun _ => rfl) (zao (fun _ => rfl) (zao (fun hD => absurd hD hn) (zao (fun _ => rfl) rfl)))))))) (zaa rfl (zaa rfl (zaa ((zax (by rfl)).trans (zaq (fun hD => hn (hcl 7 _ rfl hD 6 dc)) zaw)) (zaa rfl (zaa rfl (zaa rfl (zaa (zbb (Or.inr rfl) rfl) rfl)))))))
        ·
         intro D b hn hd hcl
         obtain ⟨b9, _⟩ := b
         refine zaQ (zaa rfl (zaa rfl (zaa (zaq hn zaw) (zaa rfl (zaa rfl (zaa rfl (zaa (zbb (hd 6 dc) rfl) rfl))))))) ?_
         refine zbr (k := 2) (k2 := 6) (ys := [(⟨line7, ((p21.i : Int) + 1) - width1, width1, line8⟩ : Gplace_ended)]) Tryd.underlying126 znU zcB ze5 rfl dc (zab (m := 4) rfl rfl (hd 4 dc)) (zab (m := 6) rfl rfl (hd 6 dc)) rfl rfl rfl rfl hg13 (fun v2 => ?_)
         refine zb7 (k := 2) rfl (fun hd12 he2 => ?_)
         subst he2
         exact zaR (b9, hd12) 7 (by rfl) (by rfl) rfl (zao (fun _ => rfl) (zao (fun _ => rfl) (zao (fun _ => rfl) (zao (fun _ => rfl) (zao (fun _ => rfl) (zao (fun _ => rfl) (zao (fun _ => rfl) (zao (fun hD => absurd hD hn) rfl)))))))) (zaa rfl (zaa rfl (zaa (zbb (Or.inr rfl) rfl) (zaa rfl (zaa rfl (zaa rfl (zaa ((zax (by rfl)).trans (zbb (hd 6 dc) rfl)) rfl)))))))
        intro D b hall
        obtain ⟨b9, hd12⟩ := b
        refine zaQ (zaa rfl (zaa rfl (zaa (zbb (hall 7 dc) rfl) (zaa rfl (zaa rfl (zaa rfl (zaa (zbb (hall 6 dc) rfl) rfl))))))) (zaW rfl dc rfl (zar zeQ rfl dc rfl (show _ = 2 from rfl) ?_))
        refine zbo (k := 0) (l' := [.string s1, hd10.v, hd12.v]) znJ rfl rfl rfl rfl rfl (fun _ _ => rfl) rfl ?_
        refine zap (zaj (zas (zai (zah rfl dc rfl ?_))))
        obtain ⟨hg14, h⟩ := zcb h
        refine zaz rfl dc rfl rfl (zbh (r := (p21.i : Int) + 1) (IntWalk.i64_in _ hg14)) ?_
        refine zbe (v := .agg #[zI ((p21.i : Int) + 1), zI 0]) (ps := [(0, .tmp 111)]) rfl dc rfl (fun _ => by kernel_rfl) ?_
        refine zah rfl dc rfl (zaW rfl dc rfl (zar zg2 rfl dc rfl (show _ = 1 from rfl) (zaN (k := 0) zma rfl dc rfl rfl rfl (zdf (k := 1) rfl dc rfl rfl Tryd.underlying125 ?_))))
        refine zbe (v := .agg #[zI ((p21.i : Int) + 1), zI 0, zI 0, zI ((m10 ++ [(⟨(p21.i : Int), p17, p18, p19, p20⟩ : Gapi_Place)]).length : Int)]) (ps := [(0, .tmp 112), (2, .tmp 117)]) rfl dc rfl (fun _ => by kernel_rfl) ?_
        refine zaZ (k := 4) (vs := [zI ((p21.i : Int) + 1), zI 0, zI 0, zI ((m10 ++ [(⟨(p21.i : Int), p17, p18, p19, p20⟩ : Gapi_Place)]).length : Int)]) (l' := [zI ((p21.i : Int) + 1), zI 0, zI 0, zI ((m10 ++ [(⟨(p21.i : Int), p17, p18, p19, p20⟩ : Gapi_Place)]).length : Int)]) ziU rfl rfl rfl rfl rfl (show _ ≤ _ by simp) rfl rfl ?_
        show TO _ _ _ _ _ _ _ _ _ _ [cells b4 [.string s1, hd10.v, hd12.v] 128, vec zaK 130 5 hd10.v (m10 ++ [(⟨(p21.i : Int), p17, p18, p19, p20⟩ : Gapi_Place)]), vec zaF 132 4 hd12.v (m11 ++ [(⟨line7, ((p21.i : Int) + 1) - width1, width1, line8⟩ : Gplace_ended)]), cells b5 [zI (p21.i : Int), zI (p17 + 1), zI p22, zI p19, zI (p20 + 1)] 130, cells b6 [zI ((p21.i : Int) + 1), zI 0, zI 0, zI ((m10 ++ [(⟨(p21.i : Int), p17, p18, p19, p20⟩ : Gapi_Place)]).length : Int)] 132, obj b7 (.stringIter s1 (zdF s1 (m12 + 1))), cells b9 [zI line7, zI (((p21.i : Int) + 1) - width1), zI width1, zI line8] 132]
        refine zap (zaj (zas (zai (zar zlh rfl dc rfl (show _ = 3 from rfl) (zaN (k := 3) zfb rfl dc rfl rfl rfl ?_)))))
        obtain ⟨hg15, h⟩ := zcb h
        refine zaz rfl dc rfl rfl (zbh (r := p19 + 1) (IntWalk.i64_in _ hg15)) (zar zlh rfl dc rfl (show _ = 3 from rfl) ?_)
        refine zbo (k := 3) (l' := [zI (p21.i : Int), zI (p17 + 1), zI p22, zI (p19 + 1), zI (p20 + 1)]) zjh rfl rfl rfl rfl rfl (fun _ _ => rfl) rfl ?_
        refine zap (zaj (zai (zar zjt rfl dc rfl (show _ = 4 from rfl) ?_)))
        refine zbo (k := 3) (l' := [zI (p21.i : Int), zI (p17 + 1), zI p22, zI (p19 + 1), zI 0]) zjh rfl rfl rfl rfl rfl (fun _ _ => rfl) rfl ?_
        show TO _ _ _ _ _ _ _ _ _ _ [cells b4 [.string s1, hd10.v, hd12.v] 128, vec zaK 130 5 hd10.v (m10 ++ [(⟨(p21.i : Int), p17, p18, p19, p20⟩ : Gapi_Place)]), vec zaF 132 4 hd12.v (m11 ++ [(⟨line7, ((p21.i : Int) + 1) - width1, width1, line8⟩ : Gplace_ended)]), cells b5 [zI (p21.i : Int), zI (p17 + 1), zI p22, zI (p19 + 1), zI 0] 130, cells b6 [zI ((p21.i : Int) + 1), zI 0, zI 0, zI ((m10 ++ [(⟨(p21.i : Int), p17, p18, p19, p20⟩ : Gapi_Place)]).length : Int)] 132, obj b7 (.stringIter s1 (zdF s1 (m12 + 1))), cells b9 [zI line7, zI (((p21.i : Int) + 1) - width1), zI width1, zI line8] 132]
        refine zap (zaA ?_)
        subst hag1
        exact zbj (n1, m10 ++ [(⟨(p21.i : Int), p17, p18, p19, p20⟩ : Gapi_Place)], m11 ++ [(⟨line7, ((p21.i : Int) + 1) - width1, width1, line8⟩ : Gplace_ended)], (p21.i : Int), p17 + 1, p22, p19 + 1, 0, (p21.i : Int) + 1, ((m10 ++ [(⟨(p21.i : Int), p17, p18, p19, p20⟩ : Gapi_Place)]).length : Int), m12 + 1, hd10, hd12) h (Nat.lt_succ_self _) rfl (zad rfl (zad rfl (zad rfl (zad rfl (zad rfl (zaH)))))) (zal [0, 1, 2, 3, 4, 5] kr rfl)
     ·
      have h := za1 hb2 h
      refine zfM (k := 5) (m := m12) rfl dc rfl rfl (Nat.le_of_not_lt (of_decide_eq_false hb2)) (zaS rfl dc rfl rfl (zap (zaj (zas (zbp rfl (zby (zaJ (zaJ (zaV ?_)))))))))
      exact zaO (m10, m11, p16, p17, p18, p19, p20, line7, line8, b4, hd8, hd9, b5, b6) h rfl (zad rfl (zad rfl (zad rfl (zad rfl (zaH))))) (zal [0, 1, 2, 3, 4] kr rfl)
   ·
    rintro ⟨m1, m2, p1, p2, p3, p4, p5, line1, line2, b1, hd1, hd2, b2, b3⟩ h
    rw [hj1] at h
    show TC _ _ _ _ _ ([]) _ _ [(0, .string s1), (4, zP b1), (5, zP b2), (6, zP b3)] [cells b1 [.string s1, hd1.v, hd2.v] 128, vec zaK 130 5 hd1.v m1, vec zaF 132 4 hd2.v m2, cells b2 [zI p1, zI p2, zI p3, zI p4, zI p5] 130, cells b3 [zI line1, zI 0, zI 0, zI line2] 132]
    refine zas (zai (zah rfl dc rfl (zbA rfl dc rfl Tryd.underlying9 (zar zlj rfl dc rfl (show _ = 0 from rfl) ?_))))
    refine zbo (k := 3) (l' := [zI (s1.size : Int), zI p2, zI p3, zI p4, zI p5]) zjh rfl rfl rfl rfl rfl (fun _ _ => rfl) rfl ?_
    refine zap (zaj (zas ?_))
    obtain ⟨hg16, h⟩ := zcb h
    refine zha 1 ?_
    show TC _ _ _ _ _ _ _ _ _ [cells b1 [.string s1, hd1.v, hd2.v] 128, vec zaK 130 5 hd1.v m1, vec zaF 132 4 hd2.v m2, cells b2 [zI (s1.size : Int), zI p2, zI p3, zI p4, zI p5] 130, cells b3 [zI line1, zI 0, zI 0, zI line2] 132, emp]
    refine let vals3 : (Nat × Hd) → List (Nat × Nat × Value) := fun b => [(0, 127, zP b1), (1, 128, zP b1), (2, 129, zP b1), (3, 130, .pointer (some ⟨b1, 1, none⟩)), (4, 131, hd1.v), (5, 132, .agg #[zI (s1.size : Int), zI p2, zI p3, zI p4, zI p5]), (6, 133, .slice (some ⟨b.1, 0, none⟩) 1 1), (7, 134, b.2.v)]; let LL3 : (Nat → Prop) → (Nat × Hd) → List Asn := fun D b => [cells b1 [.string s1, hd1.v, hd2.v] 128, eD D (vec zaK 130 5 hd1.v m1) [(7, vec zaK 130 5 b.2.v (m1 ++ [(⟨(s1.size : Int), p2, p3, p4, p5⟩ : Gapi_Place)]))], vec zaF 132 4 hd2.v m2, cells b2 [zI (s1.size : Int), zI p2, zI p3, zI p4, zI p5] 130, cells b3 [zI line1, zI 0, zI 0, zI line2] 132, eD D emp [(6, cells b.1 [zI (s1.size : Int), zI p2, zI p3, zI p4, zI p5] 130)]]; ?_
    refine zfa (β := Nat × Hd) 8 ((0 : Nat), Hd.nil) vals3 LL3 mixed kr kr dc (fun _ => rfl) (zaa rfl (zaa zdi (zaa rfl (zaa rfl (zaa rfl (zaa zdi rfl)))))) (zaC ?_ (zaC ?_ (zaC ?_ (zaC ?_ (zaC ?_ (zaC ?_ (zaC ?_ (zaC ?_ DrawG.nil)))))))) ?_
    ·
     intro D b hn hd hcl
     obtain ⟨b10, hd13⟩ := b
     refine zaQ rfl (zah rfl dc (zaE (by rfl) rfl) ?_)
     exact zaR (b10, hd13) 0 (by rfl) (by rfl) rfl (congrArg (dl D) rfl) (zaa rfl (zaa ((zax (by rfl)).trans rfl) (zaa rfl (zaa rfl (zaa rfl (zaa ((zax (by rfl)).trans rfl) rfl))))))
    ·
     intro D b hn hd hcl
     obtain ⟨b10, hd13⟩ := b
     refine zaQ (zaa rfl (zaa (zaq (fun hD => hn (hcl 2 _ rfl (hcl 3 _ rfl (hcl 4 _ rfl (hcl 7 _ rfl hD 4 dc) 3 dc) 2 dc) 1 dc)) zaw) rfl)) ?_
     refine zah rfl dc (zaE (by rfl) rfl) ?_
     exact zaR (b10, hd13) 1 (by rfl) (by rfl) rfl (congrArg (dl D) rfl) (zaa rfl (zaa ((zax (by rfl)).trans (zaq (fun hD => hn (hcl 2 _ rfl (hcl 3 _ rfl (hcl 4 _ rfl (hcl 7 _ rfl hD 4 dc) 3 dc) 2 dc) 1 dc)) zaw)) (zaa rfl (zaa rfl (zaa rfl (zaa ((zax (by rfl)).trans rfl) rfl))))))
    ·
     intro D b hn hd hcl
     obtain ⟨b10, hd13⟩ := b
     refine zaQ (zaa rfl (zaa (zaq (fun hD => hn (hcl 3 _ rfl (hcl 4 _ rfl (hcl 7 _ rfl hD 4 dc) 3 dc) 2 dc)) zaw) rfl)) ?_
     refine zaW rfl dc (zab (m := 1) rfl rfl (hd 1 dc)) ?_
     exact zaR (b10, hd13) 2 (by rfl) (by rfl) rfl (congrArg (dl D) rfl) (zaa rfl (zaa ((zax (by rfl)).trans (zaq (fun hD => hn (hcl 3 _ rfl (hcl 4 _ rfl (hcl 7 _ rfl hD 4 dc) 3 dc) 2 dc)) zaw)) (zaa rfl (zaa rfl (zaa rfl (zaa ((zax (by rfl)).trans rfl) rfl))))))
    ·
     intro D b hn hd hcl
     obtain ⟨b10, hd13⟩ := b
     refine zaQ (zaa rfl (zaa (zaq (fun hD => hn (hcl 4 _ rfl (hcl 7 _ rfl hD 4 dc) 3 dc)) zaw) rfl)) ?_
     refine zar zg2 rfl dc (zab (m := 2) rfl rfl (hd 2 dc)) (show _ = 1 from rfl) ?_
     exact zaR (b10, hd13) 3 (by rfl) (by rfl) rfl (congrArg (dl D) rfl) (zaa rfl (zaa ((zax (by rfl)).trans (zaq (fun hD => hn (hcl 4 _ rfl (hcl 7 _ rfl hD 4 dc) 3 dc)) zaw)) (zaa rfl (zaa rfl (zaa rfl (zaa ((zax (by rfl)).trans rfl) rfl))))))
    ·
     intro D b hn hd hcl
     obtain ⟨b10, hd13⟩ := b
     refine zaQ (zaa rfl (zaa (zaq (fun hD => hn (hcl 7 _ rfl hD 4 dc)) zaw) rfl)) ?_
     refine zaN (k := 0) zma rfl dc (zab (m := 3) rfl rfl (hd 3 dc)) rfl rfl ?_
     exact zaR (b10, hd13) 4 (by rfl) (by rfl) rfl (congrArg (dl D) rfl) (zaa rfl (zaa ((zax (by rfl)).trans (zaq (fun hD => hn (hcl 7 _ rfl hD 4 dc)) zaw)) (zaa rfl (zaa rfl (zaa rfl (zaa ((zax (by rfl)).trans rfl) rfl))))))
    ·
     intro D b hn hd hcl
     obtain ⟨b10, hd13⟩ := b
     refine zaQ (zaa rfl (zaa (zaq (fun hD => hn (hcl 6 _ rfl (hcl 7 _ rfl hD 6 dc) 5 dc)) zaw) (zaa rfl (zaa rfl (zaa rfl (zaa (zaq (fun hD => hn (hcl 6 _ rfl hD 5 dc)) zaw) rfl)))))) ?_
     refine zbc (k := 3) (cs := [zI (s1.size : Int), zI p2, zI p3, zI p4, zI p5]) znM rfl dc (zaE (by rfl) rfl) rfl rfl rfl ?_
     exact zaR (b10, hd13) 5 (by rfl) (by rfl) rfl (congrArg (dl D) rfl) (zaa rfl (zaa ((zax (by rfl)).trans (zaq (fun hD => hn (hcl 6 _ rfl (hcl 7 _ rfl hD 6 dc) 5 dc)) zaw)) (zaa rfl (zaa rfl (zaa rfl (zaa ((zax (by rfl)).trans (zaq (fun hD => hn (hcl 6 _ rfl hD 5 dc)) zaw)) rfl))))))
    ·
     intro D b hn hd hcl
     obtain ⟨_, hd13⟩ := b
     refine zaQ (zaa rfl (zaa (zaq (fun hD => hn (hcl 7 _ rfl hD 6 dc)) zaw) (zaa rfl (zaa rfl (zaa rfl (zaa (zaq hn zaw) rfl)))))) ?_
     refine zbg (cs := [zI (s1.size : Int), zI p2, zI p3, zI p4, zI p5]) (te := 130) (ps := [(0, .tmp 132)]) rfl dc (evP.cons (zab (m := 5) rfl rfl (hd 5 dc)) evP.nil) (fun _ => by kernel_rfl) (fun b10 => ?_)
     show TO _ _ _ _ _ _ _ _ _ _ [cells b1 [.string s1, hd1.v, hd2.v] 128, vec zaK 130 5 hd1.v m1, vec zaF 132 4 hd2.v m2, cells b2 [zI (s1.size : Int), zI p2, zI p3, zI p4, zI p5] 130, cells b3 [zI line1, zI 0, zI 0, zI line2] 132, emp, cells b10 [zI (s1.size : Int), zI p2, zI p3, zI p4, zI p5] 130]
     refine zd5 5 rfl rfl ?_
     show TO _ _ _ _ _ _ _ _ _ _ [cells b1 [.string s1, hd1.v, hd2.v] 128, vec zaK 130 5 hd1.v m1, vec zaF 132 4 hd2.v m2, cells b2 [zI (s1.size : Int), zI p2, zI p3, zI p4, zI p5] 130, cells b3 [zI line1, zI 0, zI 0, zI line2] 132, cells b10 [zI (s1.size : Int), zI p2, zI p3, zI p4, zI p5] 130]
     exact zaR (b10, hd13) 6 (by rfl) (by rfl) rfl (zao (fun _ => rfl) (zao (fun _ => rfl) (zao (fun _ => rfl) (zao (fun _ => rfl) (zao (fun _ => rfl) (zao (fun _ => rfl) (zao (fun hD => absurd hD hn) (zao (fun _ => rfl) rfl)))))))) (zaa rfl (zaa ((zax (by rfl)).trans (zaq (fun hD => hn (hcl 7 _ rfl hD 6 dc)) zaw)) (zaa rfl (zaa rfl (zaa rfl (zaa (zbb (Or.inr rfl) rfl) rfl))))))
    ·
     intro D b hn hd hcl
     obtain ⟨b10, _⟩ := b
     refine zaQ (zaa rfl (zaa (zaq hn zaw) (zaa rfl (zaa rfl (zaa rfl (zaa (zbb (hd 6 dc) rfl) rfl)))))) ?_
     refine zbr (k := 1) (k2 := 5) (ys := [(⟨(s1.size : Int), p2, p3, p4, p5⟩ : Gapi_Place)]) Tryd.underlying125 znV zfz zfy rfl dc (zab (m := 4) rfl rfl (hd 4 dc)) (zab (m := 6) rfl rfl (hd 6 dc)) rfl rfl rfl rfl hg16 (fun v3 => ?_)
     refine zb7 (k := 1) rfl (fun hd13 he3 => ?_)
     subst he3
     show TO _ _ _ _ _ _ _ _ _ _ [cells b1 [.string s1, hd1.v, hd2.v] 128, vec zaK 130 5 hd13.v (m1 ++ [(⟨(s1.size : Int), p2, p3, p4, p5⟩ : Gapi_Place)]), vec zaF 132 4 hd2.v m2, cells b2 [zI (s1.size : Int), zI p2, zI p3, zI p4, zI p5] 130, cells b3 [zI line1, zI 0, zI 0, zI line2] 132, cells b10 [zI (s1.size : Int), zI p2, zI p3, zI p4, zI p5] 130]
     exact zaR (b10, hd13) 7 (by rfl) (by rfl) rfl (zao (fun _ => rfl) (zao (fun _ => rfl) (zao (fun _ => rfl) (zao (fun _ => rfl) (zao (fun _ => rfl) (zao (fun _ => rfl) (zao (fun _ => rfl) (zao (fun hD => absurd hD hn) rfl)))))))) (zaa rfl (zaa (zbb (Or.inr rfl) rfl) (zaa rfl (zaa rfl (zaa rfl (zaa ((zax (by rfl)).trans (zbb (hd 6 dc) rfl)) rfl))))))
    intro D b hall
    obtain ⟨b10, hd13⟩ := b
    refine zaQ (zaa rfl (zaa (zbb (hall 7 dc) rfl) (zaa rfl (zaa rfl (zaa rfl (zaa (zbb (hall 6 dc) rfl) rfl)))))) (zaW rfl dc rfl (zar zg2 rfl dc rfl (show _ = 1 from rfl) ?_))
    refine zbo (k := 0) (l' := [.string s1, hd13.v, hd2.v]) znK rfl rfl rfl rfl rfl (fun _ _ => rfl) rfl ?_
    show TO _ _ _ _ _ _ _ _ _ _ [cells b1 [.string s1, hd13.v, hd2.v] 128, vec zaK 130 5 hd13.v (m1 ++ [(⟨(s1.size : Int), p2, p3, p4, p5⟩ : Gapi_Place)]), vec zaF 132 4 hd2.v m2, cells b2 [zI (s1.size : Int), zI p2, zI p3, zI p4, zI p5] 130, cells b3 [zI line1, zI 0, zI 0, zI line2] 132, cells b10 [zI (s1.size : Int), zI p2, zI p3, zI p4, zI p5] 130]
    refine zap (zaj (zas (zai (zah rfl dc rfl (zbA rfl dc rfl Tryd.underlying9 (zar zhO rfl dc rfl (show _ = 0 from rfl) (zar zfC rfl dc rfl (show _ = 1 from rfl) ?_)))))))
    refine zbo (k := 4) (l' := [zI line1, zI (s1.size : Int), zI 0, zI line2]) zjh rfl rfl rfl rfl rfl (fun _ _ => rfl) rfl ?_
    refine zap (zaj (zas ?_))
    obtain ⟨hg17, h⟩ := zcb h
    refine zha 1 ?_
    show TC _ _ _ _ _ _ _ _ _ [cells b1 [.string s1, hd13.v, hd2.v] 128, vec zaK 130 5 hd13.v (m1 ++ [(⟨(s1.size : Int), p2, p3, p4, p5⟩ : Gapi_Place)]), vec zaF 132 4 hd2.v m2, cells b2 [zI (s1.size : Int), zI p2, zI p3, zI p4, zI p5] 130, cells b3 [zI line1, zI (s1.size : Int), zI 0, zI line2] 132, cells b10 [zI (s1.size : Int), zI p2, zI p3, zI p4, zI p5] 130, emp]
    refine let vals4 : (Nat × Hd) → List (Nat × Nat × Value) := fun b => [(0, 141, zP b1), (1, 142, zP b1), (2, 143, zP b1), (3, 144, .pointer (some ⟨b1, 2, none⟩)), (4, 145, hd2.v), (5, 146, .agg #[zI line1, zI (s1.size : Int), zI 0, zI line2]), (6, 147, .slice (some ⟨b.1, 0, none⟩) 1 1), (7, 148, b.2.v)]; let LL4 : (Nat → Prop) → (Nat × Hd) → List Asn := fun D b => [cells b1 [.string s1, hd13.v, hd2.v] 128, vec zaK 130 5 hd13.v (m1 ++ [(⟨(s1.size : Int), p2, p3, p4, p5⟩ : Gapi_Place)]), eD D (vec zaF 132 4 hd2.v m2) [(7, vec zaF 132 4 b.2.v (m2 ++ [(⟨line1, (s1.size : Int), 0, line2⟩ : Gplace_ended)]))], cells b2 [zI (s1.size : Int), zI p2, zI p3, zI p4, zI p5] 130, cells b3 [zI line1, zI (s1.size : Int), zI 0, zI line2] 132, cells b10 [zI (s1.size : Int), zI p2, zI p3, zI p4, zI p5] 130, eD D emp [(6, cells b.1 [zI line1, zI (s1.size : Int), zI 0, zI line2] 132)]]; ?_
    refine zfa (β := Nat × Hd) 8 ((0 : Nat), Hd.nil) vals4 LL4 mixed kr kr dc (fun _ => rfl) (zaa rfl (zaa rfl (zaa zdi (zaa rfl (zaa rfl (zaa rfl (zaa zdi rfl))))))) (zaC ?_ (zaC ?_ (zaC ?_ (zaC ?_ (zaC ?_ (zaC ?_ (zaC ?_ (zaC ?_ DrawG.nil)))))))) ?_
    ·
     intro D b hn hd hcl
     obtain ⟨b11, hd14⟩ := b
     refine zaQ rfl (zah rfl dc (zaE (by rfl) rfl) ?_)
     exact zaR (b11, hd14) 0 (by rfl) (by rfl) rfl (congrArg (dl D) rfl) (zaa rfl (zaa rfl (zaa ((zax (by rfl)).trans rfl) (zaa rfl (zaa rfl (zaa rfl (zaa ((zax (by rfl)).trans rfl) rfl)))))))
    ·
     intro D b hn hd hcl
     obtain ⟨b11, hd14⟩ := b
     refine zaQ (zaa rfl (zaa rfl (zaa (zaq (fun hD => hn (hcl 2 _ rfl (hcl 3 _ rfl (hcl 4 _ rfl (hcl 7 _ rfl hD 4 dc) 3 dc) 2 dc) 1 dc)) zaw) rfl))) ?_
     refine zah rfl dc (zaE (by rfl) rfl) ?_
     exact zaR (b11, hd14) 1 (by rfl) (by rfl) rfl (congrArg (dl D) rfl) (zaa rfl (zaa rfl (zaa ((zax (by rfl)).trans (zaq (fun hD => hn (hcl 2 _ rfl (hcl 3 _ rfl (hcl 4 _ rfl (hcl 7 _ rfl hD 4 dc) 3 dc) 2 dc) 1 dc)) zaw)) (zaa rfl (zaa rfl (zaa rfl (zaa ((zax (by rfl)).trans rfl) rfl)))))))
    ·
     intro D b hn hd hcl
     obtain ⟨b11, hd14⟩ := b
     refine zaQ (zaa rfl (zaa rfl (zaa (zaq (fun hD => hn (hcl 3 _ rfl (hcl 4 _ rfl (hcl 7 _ rfl hD 4 dc) 3 dc) 2 dc)) zaw) rfl))) ?_
     refine zaW rfl dc (zab (m := 1) rfl rfl (hd 1 dc)) ?_
     exact zaR (b11, hd14) 2 (by rfl) (by rfl) rfl (congrArg (dl D) rfl) (zaa rfl (zaa rfl (zaa ((zax (by rfl)).trans (zaq (fun hD => hn (hcl 3 _ rfl (hcl 4 _ rfl (hcl 7 _ rfl hD 4 dc) 3 dc) 2 dc)) zaw)) (zaa rfl (zaa rfl (zaa rfl (zaa ((zax (by rfl)).trans rfl) rfl)))))))
    ·
     intro D b hn hd hcl
     obtain ⟨b11, hd14⟩ := b
     refine zaQ (zaa rfl (zaa rfl (zaa (zaq (fun hD => hn (hcl 4 _ rfl (hcl 7 _ rfl hD 4 dc) 3 dc)) zaw) rfl))) ?_
     refine zar zeQ rfl dc (zab (m := 2) rfl rfl (hd 2 dc)) (show _ = 2 from rfl) ?_
     exact zaR (b11, hd14) 3 (by rfl) (by rfl) rfl (congrArg (dl D) rfl) (zaa rfl (zaa rfl (zaa ((zax (by rfl)).trans (zaq (fun hD => hn (hcl 4 _ rfl (hcl 7 _ rfl hD 4 dc) 3 dc)) zaw)) (zaa rfl (zaa rfl (zaa rfl (zaa ((zax (by rfl)).trans rfl) rfl)))))))
    ·
     intro D b hn hd hcl
     obtain ⟨b11, hd14⟩ := b
     refine zaQ (zaa rfl (zaa rfl (zaa (zaq (fun hD => hn (hcl 7 _ rfl hD 4 dc)) zaw) rfl))) ?_
     refine zaN (k := 0) zhu rfl dc (zab (m := 3) rfl rfl (hd 3 dc)) rfl rfl ?_
     exact zaR (b11, hd14) 4 (by rfl) (by rfl) rfl (congrArg (dl D) rfl) (zaa rfl (zaa rfl (zaa ((zax (by rfl)).trans (zaq (fun hD => hn (hcl 7 _ rfl hD 4 dc)) zaw)) (zaa rfl (zaa rfl (zaa rfl (zaa ((zax (by rfl)).trans rfl) rfl)))))))
    ·
     intro D b hn hd hcl
     obtain ⟨b11, hd14⟩ := b
     refine zaQ (zaa rfl (zaa rfl (zaa (zaq (fun hD => hn (hcl 6 _ rfl (hcl 7 _ rfl hD 6 dc) 5 dc)) zaw) (zaa rfl (zaa rfl (zaa rfl (zaa (zaq (fun hD => hn (hcl 6 _ rfl hD 5 dc)) zaw) rfl))))))) ?_
     refine zbc (k := 4) (cs := [zI line1, zI (s1.size : Int), zI 0, zI line2]) znL rfl dc (zaE (by rfl) rfl) rfl rfl rfl ?_
     exact zaR (b11, hd14) 5 (by rfl) (by rfl) rfl (congrArg (dl D) rfl) (zaa rfl (zaa rfl (zaa ((zax (by rfl)).trans (zaq (fun hD => hn (hcl 6 _ rfl (hcl 7 _ rfl hD 6 dc) 5 dc)) zaw)) (zaa rfl (zaa rfl (zaa rfl (zaa ((zax (by rfl)).trans (zaq (fun hD => hn (hcl 6 _ rfl hD 5 dc)) zaw)) rfl)))))))
    ·
     intro D b hn hd hcl
     obtain ⟨_, hd14⟩ := b
     refine zaQ (zaa rfl (zaa rfl (zaa (zaq (fun hD => hn (hcl 7 _ rfl hD 6 dc)) zaw) (zaa rfl (zaa rfl (zaa rfl (zaa (zaq hn zaw) rfl))))))) ?_
     refine zbg (cs := [zI line1, zI (s1.size : Int), zI 0, zI line2]) (te := 132) (ps := [(0, .tmp 146)]) rfl dc (evP.cons (zab (m := 5) rfl rfl (hd 5 dc)) evP.nil) (fun _ => by kernel_rfl) (fun b11 => ?_)
     show TO _ _ _ _ _ _ _ _ _ _ [cells b1 [.string s1, hd13.v, hd2.v] 128, vec zaK 130 5 hd13.v (m1 ++ [(⟨(s1.size : Int), p2, p3, p4, p5⟩ : Gapi_Place)]), vec zaF 132 4 hd2.v m2, cells b2 [zI (s1.size : Int), zI p2, zI p3, zI p4, zI p5] 130, cells b3 [zI line1, zI (s1.size : Int), zI 0, zI line2] 132, cells b10 [zI (s1.size : Int), zI p2, zI p3, zI p4, zI p5] 130, emp, cells b11 [zI line1, zI (s1.size : Int), zI 0, zI line2] 132]
     refine zd5 6 rfl rfl ?_
     show TO _ _ _ _ _ _ _ _ _ _ [cells b1 [.string s1, hd13.v, hd2.v] 128, vec zaK 130 5 hd13.v (m1 ++ [(⟨(s1.size : Int), p2, p3, p4, p5⟩ : Gapi_Place)]), vec zaF 132 4 hd2.v m2, cells b2 [zI (s1.size : Int), zI p2, zI p3, zI p4, zI p5] 130, cells b3 [zI line1, zI (s1.size : Int), zI 0, zI line2] 132, cells b10 [zI (s1.size : Int), zI p2, zI p3, zI p4, zI p5] 130, cells b11 [zI line1, zI (s1.size : Int), zI 0, zI line2] 132]
     exact zaR (b11, hd14) 6 (by rfl) (by rfl) rfl (zao (fun _ => rfl) (zao (fun _ => rfl) (zao (fun _ => rfl) (zao (fun _ => rfl) (zao (fun _ => rfl) (zao (fun _ => rfl) (zao (fun hD => absurd hD hn) (zao (fun _ => rfl) rfl)))))))) (zaa rfl (zaa rfl (zaa ((zax (by rfl)).trans (zaq (fun hD => hn (hcl 7 _ rfl hD 6 dc)) zaw)) (zaa rfl (zaa rfl (zaa rfl (zaa (zbb (Or.inr rfl) rfl) rfl)))))))
    ·
     intro D b hn hd hcl
     obtain ⟨b11, _⟩ := b
     refine zaQ (zaa rfl (zaa rfl (zaa (zaq hn zaw) (zaa rfl (zaa rfl (zaa rfl (zaa (zbb (hd 6 dc) rfl) rfl))))))) ?_
     refine zbr (k := 2) (k2 := 6) (ys := [(⟨line1, (s1.size : Int), 0, line2⟩ : Gplace_ended)]) Tryd.underlying126 znU zcB ze5 rfl dc (zab (m := 4) rfl rfl (hd 4 dc)) (zab (m := 6) rfl rfl (hd 6 dc)) rfl rfl rfl rfl hg17 (fun v4 => ?_)
     refine zb7 (k := 2) rfl (fun hd14 he4 => ?_)
     subst he4
     show TO _ _ _ _ _ _ _ _ _ _ [cells b1 [.string s1, hd13.v, hd2.v] 128, vec zaK 130 5 hd13.v (m1 ++ [(⟨(s1.size : Int), p2, p3, p4, p5⟩ : Gapi_Place)]), vec zaF 132 4 hd14.v (m2 ++ [(⟨line1, (s1.size : Int), 0, line2⟩ : Gplace_ended)]), cells b2 [zI (s1.size : Int), zI p2, zI p3, zI p4, zI p5] 130, cells b3 [zI line1, zI (s1.size : Int), zI 0, zI line2] 132, cells b10 [zI (s1.size : Int), zI p2, zI p3, zI p4, zI p5] 130, cells b11 [zI line1, zI (s1.size : Int), zI 0, zI line2] 132]
     exact zaR (b11, hd14) 7 (by rfl) (by rfl) rfl (zao (fun _ => rfl) (zao (fun _ => rfl) (zao (fun _ => rfl) (zao (fun _ => rfl) (zao (fun _ => rfl) (zao (fun _ => rfl) (zao (fun _ => rfl) (zao (fun hD => absurd hD hn) rfl)))))))) (zaa rfl (zaa rfl (zaa (zbb (Or.inr rfl) rfl) (zaa rfl (zaa rfl (zaa rfl (zaa ((zax (by rfl)).trans (zbb (hd 6 dc) rfl)) rfl)))))))
    intro D b hall
    obtain ⟨b11, hd14⟩ := b
    refine zaQ (zaa rfl (zaa rfl (zaa (zbb (hall 7 dc) rfl) (zaa rfl (zaa rfl (zaa rfl (zaa (zbb (hall 6 dc) rfl) rfl))))))) (zaW rfl dc rfl (zar zeQ rfl dc rfl (show _ = 2 from rfl) ?_))
    refine zbo (k := 0) (l' := [.string s1, hd13.v, hd14.v]) znJ rfl rfl rfl rfl rfl (fun _ _ => rfl) rfl ?_
    show TO _ _ _ _ _ _ _ _ _ _ [cells b1 [.string s1, hd13.v, hd14.v] 128, vec zaK 130 5 hd13.v (m1 ++ [(⟨(s1.size : Int), p2, p3, p4, p5⟩ : Gapi_Place)]), vec zaF 132 4 hd14.v (m2 ++ [(⟨line1, (s1.size : Int), 0, line2⟩ : Gplace_ended)]), cells b2 [zI (s1.size : Int), zI p2, zI p3, zI p4, zI p5] 130, cells b3 [zI line1, zI (s1.size : Int), zI 0, zI line2] 132, cells b10 [zI (s1.size : Int), zI p2, zI p3, zI p4, zI p5] 130, cells b11 [zI line1, zI (s1.size : Int), zI 0, zI line2] 132]
    refine zap (zaj (zas (zai (zah rfl dc rfl (zak rfl dc rfl (zak rfl dc rfl (zap (zaj (zaX (zcR (by simp) ?_))))))))))
    refine zmU (As := [cells b1 [.string s1, hd13.v, hd14.v] 128, vec zaK 130 5 hd13.v (m1 ++ [(⟨(s1.size : Int), p2, p3, p4, p5⟩ : Gapi_Place)]), vec zaF 132 4 hd14.v (m2 ++ [(⟨line1, (s1.size : Int), 0, line2⟩ : Gplace_ended)])]) (zal [0, 1, 2] kr rfl) (zjb (enc := zcz) (nest := zcy) (t := 128) (x := (⟨s1, m1 ++ [(⟨(s1.size : Int), p2, p3, p4, p5⟩ : Gapi_Place)], m2 ++ [(⟨line1, (s1.size : Int), 0, line2⟩ : Gplace_ended)]⟩ : Gplace_Map)) (b := b1) (hd := (hd13, hd14))) (fun _ _ => ?_)
    show TX _ _ _ _ _ _ _ [emp, emp, emp, cells b2 [zI (s1.size : Int), zI p2, zI p3, zI p4, zI p5] 130, cells b3 [zI line1, zI (s1.size : Int), zI 0, zI line2] 132, cells b10 [zI (s1.size : Int), zI p2, zI p3, zI p4, zI p5] 130, cells b11 [zI line1, zI (s1.size : Int), zI 0, zI line2] 132, zco zcz zcy 128 (zP b1) (some (⟨s1, m1 ++ [(⟨(s1.size : Int), p2, p3, p4, p5⟩ : Gapi_Place)], m2 ++ [(⟨line1, (s1.size : Int), 0, line2⟩ : Gplace_ended)]⟩ : Gplace_Map))]
    cases h
    exact za3 (rs := [.tmp 2, .tmp 3]) (zP b1) (.inl rfl) Tryd.results45 (.cons (.tmp rfl) (.cons (.tmp rfl) .nil)) rfl (zal [7] kr rfl)
 ·
  exact fun b hb => hb.elim
def zeK (m1 : Gplace_Map) : Option Int := some (m1.lines.length : Int)
theorem zgW {bm1 : Nat} {m1 : Gplace_Map} {m1_h0 m1_h1 : Hd} {r : Int} (h : zeK m1 = some r) : FnR Tryd.prog 46 [zP bm1] [cells bm1 [.string m1.text, m1_h0.v, m1_h1.v] 128, vec zaK 130 5 m1_h0.v m1.places, vec zaF 132 4 m1_h1.v m1.lines] [] (fun _ : Unit => (zI r)) (fun _ => []) := by
 unfold zeK at h
 refine FnR.intro Tryd.func46 rfl Tryd.ntmps46 (by simp) ?_
 intro w0 K hrd
 refine zas (zai (zak rfl dc rfl (zap (zaj (zas (zas (zai (zah rfl dc rfl (zaz rfl dc rfl rfl (zbf Tryd.underlying86) (zap (zaj (zbp rfl (zaP ?_)))))))))))))
 refine zaj (zas (zai (zah rfl dc rfl (zaW rfl dc rfl (zar zeQ rfl dc rfl (show _ = 2 from rfl) (zbq (i := 0) hrd rfl zhu rfl dc rfl rfl (zbG (hrd.vw (i := 2) rfl) rfl dc rfl Tryd.underlying126 (zak rfl dc rfl (zap (zaj (zaX ?_)))))))))))
 cases h
 exact za3 (rs := [.tmp 2]) () (.inl rfl) Tryd.results46 (.cons (.tmp rfl) .nil) rfl Splits.nil
def zdZ (m1 : Gplace_Map) (line1 : Int) : Option (Gapi_Span × Int × Int) := zaU (decide ((line1 : Int) < 0)) ( some ((⟨0, 0⟩ : Gapi_Span), 0, 5)
) ( zaU (decide (((m1.lines.length : Int) : Int) ≤ line1)) ( some ((⟨0, 0⟩ : Gapi_Span), 0, 5)
) ( zaG (zdh m1.lines line1) fun (q1 : Gplace_ended) => some ((⟨q1.span_From, q1.span_To⟩ : Gapi_Span), q1.end_, 0)
)
)
theorem zhi {bm1 : Nat} {m1 : Gplace_Map} {m1_h0 m1_h1 : Hd} {line1 : Int} {r : (Gapi_Span × Int × Int)} (h : zdZ m1 line1 = some r) : FnR Tryd.prog 47 [zP bm1, zI line1] [cells bm1 [.string m1.text, m1_h0.v, m1_h1.v] 128, vec zaK 130 5 m1_h0.v m1.places, vec zaF 132 4 m1_h1.v m1.lines] [] (fun _ : Unit => (.tuple #[.agg #[zI r.1.From, zI r.1.To], zI r.2.1, zI r.2.2])) (fun _ => []) := by
 unfold zdZ at h
 refine FnR.intro Tryd.func47 rfl Tryd.ntmps47 (by simp) ?_
 intro w0 K hrd
 refine zas (zai ?_)
 refine zbl zky rfl dc (fun b1 => ?_)
 refine zak rfl dc rfl (zak rfl dc rfl (zap (zaj (zas (zas (zai (zah rfl dc rfl (zaz rfl dc rfl rfl (zbf Tryd.underlying86) (zap (zaj (zbp rfl (zaP (zaj ?_)))))))))))))
 refine zas (zas (zai (zah rfl dc rfl (zaz rfl dc rfl rfl zbF (zah rfl dc rfl ?_)))))
 refine za6 (s := 12) rfl (fun hb1 => ?_) (fun hb1 => ?_)
 ·
  have h := za0 hb1 h
  refine zan rfl dc (zan rfl dc (zan rfl dc (zan rfl dc (zan rfl dc (zan rfl dc (zan rfl dc (zaB (b := true) rfl dc rfl rfl (zap (zaj (zbu rfl (zas (zai ?_))))))))))))
  refine zbe (v := .agg #[zI 0, zI 0]) (ps := []) rfl dc rfl (fun _ => by kernel_rfl) ?_
  refine zaZ (k := 0) (vs := [zI 0, zI 0]) (l' := [zI 0, zI 0]) zgt rfl rfl rfl rfl rfl (show _ ≤ _ by simp) rfl rfl ?_
  show TO _ _ _ _ _ _ _ _ _ _ [cells b1 [zI 0, zI 0] 34]
  refine zak rfl dc rfl (zak rfl dc rfl (zap (zaj (zaX (zay ?_)))))
  cases h
  exact za3 (rs := [.cell 4 34, .tmp 5, .tmp 6]) () (.inl rfl) Tryd.results47 (.cons (.cells zhf (k := 0) rfl rfl rfl) (.cons (.tmp rfl) (.cons (.tmp rfl) .nil))) rfl Splits.nil
 ·
  have h := za1 hb1 h
  refine zah rfl dc rfl (zah rfl dc rfl (zaW rfl dc rfl (zar zeQ rfl dc rfl (show _ = 2 from rfl) (zbq (i := 0) hrd rfl zhu rfl dc rfl rfl (zbG (hrd.vw (i := 2) rfl) rfl dc rfl Tryd.underlying126 (zaz rfl dc rfl rfl zeC (zaB (b := false) rfl dc rfl rfl (zap (zaj ?_)))))))))
  refine zaM rfl (fun hb2 => ?_) (fun hb2 => ?_)
  ·
   have h := za0 hb2 h
   refine zas (zai ?_)
   refine zbe (v := .agg #[zI 0, zI 0]) (ps := []) rfl dc rfl (fun _ => by kernel_rfl) ?_
   refine zaZ (k := 0) (vs := [zI 0, zI 0]) (l' := [zI 0, zI 0]) zgt rfl rfl rfl rfl rfl (show _ ≤ _ by simp) rfl rfl ?_
   show TO _ _ _ _ _ _ _ _ _ _ [cells b1 [zI 0, zI 0] 34]
   refine zak rfl dc rfl (zak rfl dc rfl (zap (zaj (zaX (zay ?_)))))
   cases h
   exact za3 (rs := [.cell 4 34, .tmp 5, .tmp 6]) () (.inl rfl) Tryd.results47 (.cons (.cells zhf (k := 0) rfl rfl rfl) (.cons (.tmp rfl) (.cons (.tmp rfl) .nil))) rfl Splits.nil
  ·
   have h := za1 hb2 h
   refine zaP (zaj (zas ?_))
   obtain ⟨q1, hq1, h⟩ := zbN h
   refine zhb (β := Unit) 17 16 _ [(0, 22, zP bm1), (1, 23, zP bm1), (2, 24, .pointer (some ⟨bm1, 2, none⟩)), (3, 25, m1_h1.v), (4, 26, zI line1), (5, 27, .pointer (some ⟨zff m1_h1.v, (0 + (line1 : Int).toNat) * 4, none⟩)), (6, 28, .pointer (some ⟨zff m1_h1.v, (0 + (line1 : Int).toNat) * 4, none⟩)), (7, 29, .agg #[zI q1.span_From, zI q1.span_To]), (8, 30, zP bm1), (9, 31, zP bm1), (10, 32, .pointer (some ⟨bm1, 2, none⟩)), (11, 33, m1_h1.v), (12, 34, zI line1), (13, 35, .pointer (some ⟨zff m1_h1.v, (0 + (line1 : Int).toNat) * 4, none⟩)), (14, 36, .pointer (some ⟨zff m1_h1.v, (0 + (line1 : Int).toNat) * 4 + 2, none⟩)), (15, 37, zI q1.end_)] (fun _b => []) (fun _b => [cells b1 [zI q1.span_From, zI q1.span_To] 34]) mixed kr kr rfl dc dc (by rfl) kr kr (DrawPreX.cons ?_ (DrawPreX.cons ?_ (DrawPreX.cons ?_ (DrawPreX.cons ?_ (DrawPreX.cons ?_ (DrawPreX.cons ?_ (DrawPreX.cons ?_ (DrawPreX.cons ?_ (DrawPreX.cons ?_ (DrawPreX.cons ?_ (DrawPreX.cons ?_ (DrawPreX.cons ?_ (DrawPreX.cons ?_ (DrawPreX.cons ?_ (DrawPreX.cons ?_ (DrawPreX.cons ?_ (zcO DrawPreX.nil))))))))))))))))) (fun _b => (DrawPreX.cons ?_ (DrawPreX.cons ?_ (DrawPreX.cons ?_ (DrawPreX.cons ?_ (DrawPreX.cons ?_ (DrawPreX.cons ?_ (DrawPreX.cons ?_ (DrawPreX.cons ?_ (DrawPreX.cons ?_ (DrawPreX.cons ?_ (DrawPreX.cons ?_ (DrawPreX.cons ?_ (DrawPreX.cons ?_ (DrawPreX.cons ?_ (DrawPreX.cons ?_ (DrawPreX.cons ?_ (zcO DrawPreX.nil)))))))))))))))))) ?_ ?_
   ·
    intro D hn hd hcl hu hi
    refine zah rfl dc (zaE (by rfl) rfl) ?_
    exact zaf 0 hu hi rfl
   ·
    intro D hn hd hcl hu hi
    refine zaW rfl dc (zab (m := 0) hu rfl (hd 0 dc)) ?_
    exact zaf 1 hu hi rfl
   ·
    intro D hn hd hcl hu hi
    refine zar zeQ rfl dc (zab (m := 1) hu rfl (hd 1 dc)) (show _ = 2 from rfl) ?_
    exact zaf 2 hu hi rfl
   ·
    intro D hn hd hcl hu hi
    refine zbq (i := 0) hrd rfl zhu rfl dc (zab (m := 2) hu rfl (hd 2 dc)) rfl ?_
    exact zaf 3 hu hi rfl
   ·
    intro D hn hd hcl hu hi
    refine zah rfl dc (zaE (by rfl) rfl) ?_
    exact zaf 4 hu hi rfl
   ·
    intro D hn hd hcl hu hi
    refine zbd (hrd.vw (i := 2) rfl) hq1 Tryd.underlying126 ziU rfl dc (zab (m := 3) hu rfl (hd 3 dc)) (zab (m := 4) hu rfl (hd 4 dc)) rfl ?_
    exact zaf 5 hu hi rfl
   ·
    intro D hn hd hcl hu hi
    refine zar zhO rfl dc (zab (m := 5) hu rfl (hd 5 dc)) (show _ = (0 + (line1 : Int).toNat) * 4 from rfl) ?_
    exact zaf 6 hu hi rfl
   ·
    intro D hn hd hcl hu hi
    refine zdv (m := 0 + (line1 : Int).toNat) (j := 0) (i := 2) (q := q1) (cs := [zI q1.span_From, zI q1.span_To]) hrd rfl zhf zcB rfl dc (zab (m := 6) hu rfl (hd 6 dc)) (Vw.get (hrd.vw (i := 2) rfl) hq1) rfl rfl rfl ?_
    exact zaf 7 hu hi rfl
   ·
    intro D hn hd hcl hu hi
    refine zah rfl dc (zaE (by rfl) rfl) ?_
    exact zaf 8 hu hi rfl
   ·
    intro D hn hd hcl hu hi
    refine zaW rfl dc (zab (m := 8) hu rfl (hd 8 dc)) ?_
    exact zaf 9 hu hi rfl
   ·
    intro D hn hd hcl hu hi
    refine zar zeQ rfl dc (zab (m := 9) hu rfl (hd 9 dc)) (show _ = 2 from rfl) ?_
    exact zaf 10 hu hi rfl
   ·
    intro D hn hd hcl hu hi
    refine zbq (i := 0) hrd rfl zhu rfl dc (zab (m := 10) hu rfl (hd 10 dc)) rfl ?_
    exact zaf 11 hu hi rfl
   ·
    intro D hn hd hcl hu hi
    refine zah rfl dc (zaE (by rfl) rfl) ?_
    exact zaf 12 hu hi rfl
   ·
    intro D hn hd hcl hu hi
    refine zbd (hrd.vw (i := 2) rfl) hq1 Tryd.underlying126 ziU rfl dc (zab (m := 11) hu rfl (hd 11 dc)) (zab (m := 12) hu rfl (hd 12 dc)) rfl ?_
    exact zaf 13 hu hi rfl
   ·
    intro D hn hd hcl hu hi
    refine zar zjs rfl dc (zab (m := 13) hu rfl (hd 13 dc)) (show _ = (0 + (line1 : Int).toNat) * 4 + 2 from rfl) ?_
    exact zaf 14 hu hi rfl
   ·
    intro D hn hd hcl hu hi
    refine zhz (n := 0 + (line1 : Int).toNat) (j := 2) (i := 2) (q := q1) hrd rfl zfb zcB rfl dc (zab (m := 14) hu rfl (hd 14 dc)) (Vw.get (hrd.vw (i := 2) rfl) hq1) rfl dc rfl ?_
    exact zaf 15 hu hi rfl
   ·
    intro D hn hd hcl hu hi
    refine zah rfl dc (zaE (by rfl) rfl) ?_
    exact zaf 0 hu hi rfl
   ·
    intro D hn hd hcl hu hi
    refine zaW rfl dc (zab (m := 0) hu rfl (hd 0 dc)) ?_
    exact zaf 1 hu hi rfl
   ·
    intro D hn hd hcl hu hi
    refine zar zeQ rfl dc (zab (m := 1) hu rfl (hd 1 dc)) (show _ = 2 from rfl) ?_
    exact zaf 2 hu hi rfl
   ·
    intro D hn hd hcl hu hi
    refine zbq (i := 0) hrd rfl zhu rfl dc (zab (m := 2) hu rfl (hd 2 dc)) rfl ?_
    exact zaf 3 hu hi rfl
   ·
    intro D hn hd hcl hu hi
    refine zah rfl dc (zaE (by rfl) rfl) ?_
    exact zaf 4 hu hi rfl
   ·
    intro D hn hd hcl hu hi
    refine zbd (hrd.vw (i := 2) rfl) hq1 Tryd.underlying126 ziU rfl dc (zab (m := 3) hu rfl (hd 3 dc)) (zab (m := 4) hu rfl (hd 4 dc)) rfl ?_
    exact zaf 5 hu hi rfl
   ·
    intro D hn hd hcl hu hi
    refine zar zhO rfl dc (zab (m := 5) hu rfl (hd 5 dc)) (show _ = (0 + (line1 : Int).toNat) * 4 from rfl) ?_
    exact zaf 6 hu hi rfl
   ·
    intro D hn hd hcl hu hi
    refine zdv (m := 0 + (line1 : Int).toNat) (j := 0) (i := 2) (q := q1) (cs := [zI q1.span_From, zI q1.span_To]) hrd rfl zhf zcB rfl dc (zab (m := 6) hu rfl (hd 6 dc)) (Vw.get (hrd.vw (i := 2) rfl) hq1) rfl rfl rfl ?_
    exact zaf 7 hu hi rfl
   ·
    intro D hn hd hcl hu hi
    refine zah rfl dc (zaE (by rfl) rfl) ?_
    exact zaf 8 hu hi rfl
   ·
    intro D hn hd hcl hu hi
    refine zaW rfl dc (zab (m := 8) hu rfl (hd 8 dc)) ?_
    exact zaf 9 hu hi rfl
   ·
    intro D hn hd hcl hu hi
    refine zar zeQ rfl dc (zab (m := 9) hu rfl (hd 9 dc)) (show _ = 2 from rfl) ?_
    exact zaf 10 hu hi rfl
   ·
    intro D hn hd hcl hu hi
    refine zbq (i := 0) hrd rfl zhu rfl dc (zab (m := 10) hu rfl (hd 10 dc)) rfl ?_
    exact zaf 11 hu hi rfl
   ·
    intro D hn hd hcl hu hi
    refine zah rfl dc (zaE (by rfl) rfl) ?_
    exact zaf 12 hu hi rfl
   ·
    intro D hn hd hcl hu hi
    refine zbd (hrd.vw (i := 2) rfl) hq1 Tryd.underlying126 ziU rfl dc (zab (m := 11) hu rfl (hd 11 dc)) (zab (m := 12) hu rfl (hd 12 dc)) rfl ?_
    exact zaf 13 hu hi rfl
   ·
    intro D hn hd hcl hu hi
    refine zar zjs rfl dc (zab (m := 13) hu rfl (hd 13 dc)) (show _ = (0 + (line1 : Int).toNat) * 4 + 2 from rfl) ?_
    exact zaf 14 hu hi rfl
   ·
    intro D hn hd hcl hu hi
    refine zhz (n := 0 + (line1 : Int).toNat) (j := 2) (i := 2) (q := q1) hrd rfl zfb zcB rfl dc (zab (m := 14) hu rfl (hd 14 dc)) (Vw.get (hrd.vw (i := 2) rfl) hq1) rfl dc rfl ?_
    exact zaf 15 hu hi rfl
   ·
    intro D hn hd hcl
    refine zaZ (k := 0) (vs := [zI q1.span_From, zI q1.span_To]) (l' := [zI q1.span_From, zI q1.span_To]) zgt rfl (zaE (by rfl) rfl) (zab (m := 7) kr rfl (hd 7 dc)) rfl rfl (show _ ≤ _ by simp) rfl rfl ?_
    show TO _ _ _ _ _ _ _ _ _ _ [cells b1 [zI q1.span_From, zI q1.span_To] 34]
    exact fun a w ha hw => ⟨(), ha, hw⟩
   intro _b
   show TO _ _ _ _ _ _ _ _ _ _ [cells b1 [zI q1.span_From, zI q1.span_To] 34]
   refine zak rfl dc rfl (zak rfl dc rfl (zap (zaj (zaX ?_))))
   cases h
   exact za3 (rs := [.cell 4 34, .tmp 5, .tmp 6]) () (.inl rfl) Tryd.results47 (.cons (.cells zhf (k := 0) rfl rfl rfl) (.cons (.tmp rfl) (.cons (.tmp rfl) .nil))) rfl Splits.nil
end Go.Proofs.YtgfkogafkhbgnaaDoor
