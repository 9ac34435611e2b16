/-
  A logic of triples over symbolic slots and owned blocks: the core. No program is named here. Nothing is assumed.
-/
import Derived.Test.YtekjfmjeemjcjaaSep
namespace Go.Proofs.Ytekjfmjeemjcjaa
open Go.RowKit Go.Lib
set_option linter.unusedVariables false
set_option linter.unusedSimpArgs false

/-- An assertion with the blocks that it speaks of. -/
structure Asn where
  P : (Nat → Prop) → World → Prop
  lt : ∀ {C w}, P C w → ∀ k, C k → k < w.heap.size
  loc : ∀ {C w w'}, P C w → w.heap.size ≤ w'.heap.size → (∀ k, C k → w'.heap[k]? = w.heap[k]?) → P C w'

def emp : Asn := ⟨fun C _ => ∀ k, ¬ C k, fun h k hk => absurd hk (h k), fun h _ _ => h⟩
/-- One block, whole. -/
def obj (b : Nat) (o : Obj) : Asn :=
  ⟨fun C w => (∀ k, C k ↔ k = b) ∧ w.heap[b]? = some o, fun h k hk => (h.1 k).1 hk ▸ lt_of_some h.2, fun h _ hk => ⟨h.1, (hk b ((h.1 b).2 rfl)).trans h.2⟩⟩
def cells (b : Nat) (l : List Value) (t : TypeId) : Asn := obj b (.cells l.toArray t (0, 0))
/-- A fact beside. -/
def fact (p : Prop) : Asn := ⟨fun C _ => (∀ k, ¬ C k) ∧ p, fun h k hk => absurd hk (h.1 k), fun h _ _ => h⟩

def sepL : List Asn → (Nat → Prop) → World → Prop
  | [], C, _ => ∀ k, ¬ C k
  | A :: L, C, w => ∃ C1 C2, A.P C1 w ∧ sepL L C2 w ∧ (∀ k, C1 k → ¬ C2 k) ∧ (∀ k, C k ↔ C1 k ∨ C2 k)
theorem sepL.lt : ∀ {L : List Asn} {C : Nat → Prop} {w : World}, sepL L C w → ∀ k, C k → k < w.heap.size
  | [], C, w, h, k, hk => absurd hk (h k)
  | A :: L, C, w, ⟨C1, C2, h1, h2, _, h4⟩, k, hk => by
    rcases (h4 k).1 hk with h | h
    · exact A.lt h1 k h
    · exact sepL.lt h2 k h
theorem sepL.loc : ∀ {L : List Asn} {C : Nat → Prop} {w w' : World}, sepL L C w → w.heap.size ≤ w'.heap.size → (∀ k, C k → w'.heap[k]? = w.heap[k]?) → sepL L C w'
  | [], C, w, w', h, _, _ => h
  | A :: L, C, w, w', ⟨C1, C2, h1, h2, h3, h4⟩, hs, hk =>
    ⟨C1, C2, A.loc h1 hs (fun k h => hk k ((h4 k).2 (.inl h))), sepL.loc h2 hs (fun k h => hk k ((h4 k).2 (.inr h))), h3, h4⟩
theorem sepL.congr {L : List Asn} {C C' : Nat → Prop} {w : World} (h : sepL L C w) (hc : ∀ k, C' k ↔ C k) : sepL L C' w := by
  have : C' = C := funext fun k => propext (hc k)
  rw [this]; exact h
/-- All of a list as one assertion. -/
def star (L : List Asn) : Asn := ⟨sepL L, sepL.lt, sepL.loc⟩

/-- L falls into As and R. -/
def Splits (L As R : List Asn) : Prop := ∀ C w, sepL L C w → ∃ C1 C2, sepL As C1 w ∧ sepL R C2 w ∧ (∀ k, C1 k → ¬ C2 k) ∧ (∀ k, C k ↔ C1 k ∨ C2 k)
theorem sepL.take : ∀ {L : List Asn} {k : Nat} {A : Asn} {C : Nat → Prop} {w : World}, L[k]? = some A → sepL L C w →
    ∃ C1 C2, A.P C1 w ∧ sepL (L.set k emp) C2 w ∧ (∀ k, C1 k → ¬ C2 k) ∧ (∀ k, C k ↔ C1 k ∨ C2 k)
  | B :: L, 0, A, C, w, hk, ⟨C1, C2, h1, h2, h3, h4⟩ => by
    simp at hk; subst hk
    exact ⟨C1, C2, h1, ⟨fun _ => False, C2, fun _ h => h, h2, fun _ h => h.elim, fun k => by simp⟩, h3, h4⟩
  | B :: L, k + 1, A, C, w, hk, ⟨C1, C2, h1, h2, h3, h4⟩ => by
    obtain ⟨D1, D2, g1, g2, g3, g4⟩ := sepL.take (L := L) (k := k) (by simpa using hk) h2
    refine ⟨D1, fun j => C1 j ∨ D2 j, g1, ⟨C1, D2, h1, g2, fun j h h' => h3 j h ((g4 j).2 (.inr h')), fun j => Iff.rfl⟩, fun j h h' => ?_, fun j => ?_⟩
    · rcases h' with h' | h'
      · exact h3 j h' ((g4 j).2 (.inl h))
      · exact g3 j h h'
    · rw [h4, g4]; exact or_left_comm
theorem sepL.put : ∀ {L : List Asn} {k : Nat} {A : Asn} {C1 C2 C : Nat → Prop} {w : World}, k < L.length → A.P C1 w → sepL (L.set k emp) C2 w → (∀ k, C1 k → ¬ C2 k) → (∀ k, C k ↔ C1 k ∨ C2 k) → sepL (L.set k A) C w
  | B :: L, 0, A, C1, C2, C, w, hk, hA, ⟨D1, D2, g1, g2, g3, g4⟩, h3, h4 => by
    have e : ∀ k, C2 k ↔ D2 k := fun k => by rw [g4]; constructor; exact fun h => h.resolve_left (g1 k); exact .inr
    exact ⟨C1, C2, hA, g2.congr e, h3, h4⟩
  | B :: L, k + 1, A, C1, C2, C, w, hk, hA, ⟨D1, D2, g1, g2, g3, g4⟩, h3, h4 => by
    refine ⟨D1, fun j => C1 j ∨ D2 j, g1, sepL.put (L := L) (k := k) (by simpa using hk) hA g2 (fun j h h' => h3 j h ((g4 j).2 (.inr h'))) (fun j => Iff.rfl), fun j h h' => ?_, fun j => ?_⟩
    · rcases h' with h' | h'
      · exact h3 j h' ((g4 j).2 (.inl h))
      · exact g3 j h h'
    · rw [h4, g4]; exact or_left_comm
theorem Splits.nil {L : List Asn} : Splits L [] L := fun C w h => ⟨fun _ => False, C, fun _ h => h, h, fun _ h => h.elim, fun k => by simp⟩
theorem Splits.cons {L As R : List Asn} {k : Nat} {A : Asn} (hk : L[k]? = some A) (h : Splits (L.set k emp) As R) : Splits L (A :: As) R := by
  intro C w hL
  obtain ⟨C1, C2, h1, h2, h3, h4⟩ := sepL.take hk hL
  obtain ⟨D1, D2, g1, g2, g3, g4⟩ := h C2 w h2
  refine ⟨fun j => C1 j ∨ D1 j, D2, ⟨C1, D1, h1, g1, fun j h h' => h3 j h ((g4 j).2 (.inl h')), fun j => Iff.rfl⟩, g2, fun j h h' => ?_, fun j => ?_⟩
  · rcases h with h | h
    · exact h3 j h ((g4 j).2 (.inr h'))
    · exact g3 j h h'
  · rw [h4, g4, or_assoc]
theorem Splits.openS {L As Bs R : List Asn} {k : Nat} (hk : L[k]? = some (star As)) (h : Splits (L.set k emp) Bs R) : Splits L (As ++ Bs) R := by
  intro C w hL
  obtain ⟨C1, C2, h1, h2, h3, h4⟩ := sepL.take hk hL
  obtain ⟨D1, D2, g1, g2, g3, g4⟩ := h C2 w h2
  have cat : ∀ {A B : List Asn} {C1 C2 : Nat → Prop} {w : World}, sepL A C1 w → sepL B C2 w → (∀ k, C1 k → ¬ C2 k) → sepL (A ++ B) (fun k => C1 k ∨ C2 k) w := by
    intro A
    induction A with
    | nil => intro B C1 C2 w h1 h2 h3; exact h2.congr (fun k => ⟨fun h => h.resolve_left (h1 k), .inr⟩)
    | cons A L ih =>
      rintro B C1 C2 w ⟨D1, D2, g1, g2, g3, g4⟩ h2 h3
      exact ⟨D1, fun k => D2 k ∨ C2 k, g1, ih g2 h2 (fun k h => h3 k ((g4 k).2 (.inr h))), fun k h h' => h'.elim (g3 k h) (h3 k ((g4 k).2 (.inl h))), fun k => by show C1 k ∨ C2 k ↔ _; rw [g4, or_assoc]⟩
  refine ⟨fun j => C1 j ∨ D1 j, D2, cat h1 g1 (fun j h h' => h3 j h ((g4 j).2 (.inl h'))), g2, fun j h h' => ?_, fun j => ?_⟩
  · rcases h with h | h
    · exact h3 j h ((g4 j).2 (.inr h'))
    · exact g3 j h h'
  · rw [h4, g4, or_assoc]
theorem Splits.open0 {L As : List Asn} {k : Nat} (hk : L[k]? = some (star As)) : Splits L As (L.set k emp) := by
  have := Splits.openS hk Splits.nil
  rwa [List.append_nil] at this
theorem Splits.consS {L As Bs R1 R : List Asn} (h1 : Splits L As R1) (h2 : Splits R1 Bs R) : Splits L (star As :: Bs) R := by
  intro C w hL
  obtain ⟨C1, C2, a1, a2, a3, a4⟩ := h1 C w hL
  obtain ⟨D1, D2, g1, g2, g3, g4⟩ := h2 C2 w a2
  refine ⟨fun j => C1 j ∨ D1 j, D2, ⟨C1, D1, a1, g1, fun j h h' => a3 j h ((g4 j).2 (.inl h')), fun j => Iff.rfl⟩, g2, fun j h h' => ?_, fun j => ?_⟩
  · rcases h with h | h
    · exact a3 j h ((g4 j).2 (.inr h'))
    · exact g3 j h h'
  · rw [a4, g4, or_assoc]
def emps (L : List Asn) : List Nat → List Asn
  | [] => L
  | k :: ks => emps (L.set k emp) ks
def pickAll (L : List Asn) : List Nat → Option (List Asn)
  | [] => some []
  | k :: ks => match L[k]?, pickAll L ks with
    | some A, some As => some (A :: As)
    | _, _ => none
def distinct : List Nat → Bool
  | [] => true
  | k :: ks => !ks.contains k && distinct ks
theorem pickAll_set {L : List Asn} {k : Nat} {B : Asn} : ∀ {ks : List Nat}, ks.contains k = false → pickAll (L.set k B) ks = pickAll L ks
  | [], _ => rfl
  | j :: ks, h => by
    simp only [List.contains_cons, Bool.or_eq_false_iff] at h
    have hne : k ≠ j := by have := h.1; simp at this; exact this
    simp only [pickAll, pickAll_set (ks := ks) h.2, List.getElem?_set_ne hne]
theorem Splits.of {L As : List Asn} : ∀ (ks : List Nat), pickAll L ks = some As → distinct ks = true → Splits L As (emps L ks) := by
  intro ks
  induction ks generalizing L As with
  | nil => intro h _; simp only [pickAll, Option.some.injEq] at h; subst h; exact Splits.nil
  | cons k ks ih =>
    intro h hd
    simp only [distinct, Bool.and_eq_true, Bool.not_eq_true'] at hd
    simp only [pickAll] at h
    split at h
    · rename_i A As' h1 h2
      cases h
      exact Splits.cons h1 (ih (by rw [pickAll_set hd.1]; exact h2) hd.2)
    · cases h
theorem sepL.append : ∀ {A B : List Asn} {C1 C2 : Nat → Prop} {w : World}, sepL A C1 w → sepL B C2 w → (∀ k, C1 k → ¬ C2 k) → sepL (A ++ B) (fun k => C1 k ∨ C2 k) w
  | [], B, C1, C2, w, h1, h2, h3 => h2.congr (fun k => ⟨fun h => h.resolve_left (h1 k), .inr⟩)
  | A :: L, B, C1, C2, w, ⟨D1, D2, g1, g2, g3, g4⟩, h2, h3 =>
    ⟨D1, fun k => D2 k ∨ C2 k, g1, sepL.append g2 h2 (fun k h => h3 k ((g4 k).2 (.inr h))), fun k h h' => h'.elim (g3 k h) (h3 k ((g4 k).2 (.inl h))), fun k => by show C1 k ∨ C2 k ↔ _; rw [g4, or_assoc]⟩

/-- The world w, begun at w0 with K one's own: its own blocks read as L, all else of w0 is as it was. -/
def Holds (w0 : World) (K : Nat → Prop) (L : List Asn) (w : World) : Prop := ∃ C, sepL L C w ∧ Ext K C w0 w
section
variable {w0 w w' : World} {K : Nat → Prop} {L As R : List Asn} {A B : Asn} {k : Nat}
/-- A step with the footprint C1 → C1'. -/
theorem Holds.split (h : Holds w0 K L w) (hs : Splits L As R) : ∃ C1, sepL As C1 w ∧ ∀ Bs C1' w', Ext C1 C1' w w' → sepL Bs C1' w' → Holds w0 K (R ++ Bs) w' := by
  obtain ⟨C, hL, hx⟩ := h
  obtain ⟨C1, C2, h1, h2, h3, h4⟩ := hs C w hL
  refine ⟨C1, h1, fun Bs C1' w' he hB => ?_⟩
  have hsz := he.1.size
  have h2' : sepL R C2 w' := h2.loc hsz (fun k hk => he.1.keep k (h2.lt k hk) (fun h => h3 k h hk))
  have hd : ∀ k, C2 k → ¬ C1' k := fun k hk h' => by
    rcases he.2 k h' with h | h
    · exact h3 k h hk
    · have := h2.lt k hk; omega
  refine ⟨_, h2'.append hB hd, hx.1.trans' he.1 (fun i hi hc => ?_), fun k hk => ?_⟩
  · rcases hx.2 i ((h4 i).2 (.inl hc)) with h | h
    · exact h
    · omega
  · have := hx.1.size
    rcases hk with hk | hk
    · rcases hx.2 k ((h4 k).2 (.inr hk)) with h | h
      · exact .inl h
      · exact .inr (by omega)
    · rcases he.2 k hk with h | h
      · rcases hx.2 k ((h4 k).2 (.inl h)) with h | h
        · exact .inl h
        · exact .inr (by omega)
      · exact .inr (by omega)
theorem Holds.focus (h : Holds w0 K L w) (hk : L[k]? = some A) : ∃ C1, A.P C1 w ∧ ∀ B C1' w', Ext C1 C1' w w' → B.P C1' w' → Holds w0 K (L.set k B) w' := by
  obtain ⟨C, hL, hx⟩ := h
  obtain ⟨C1, C2, h1, h2, h3, h4⟩ := sepL.take hk hL
  refine ⟨C1, h1, fun B C1' w' he hB => ?_⟩
  have hlen : k < L.length := (List.getElem?_eq_some_iff.1 hk).1
  have hsz := he.1.size
  have h2' : sepL (L.set k emp) C2 w' := h2.loc hsz (fun k hk => he.1.keep k (h2.lt k hk) (fun h => h3 k h hk))
  have hd : ∀ k, C1' k → ¬ C2 k := fun k h' hk => by
    rcases he.2 k h' with h | h
    · exact h3 k h hk
    · have := h2.lt k hk; omega
  refine ⟨_, sepL.put hlen hB h2' hd (fun k => Iff.rfl), hx.1.trans' he.1 (fun i hi hc => ?_), fun k hk => ?_⟩
  · rcases hx.2 i ((h4 i).2 (.inl hc)) with h | h
    · exact h
    · omega
  · have := hx.1.size
    rcases hk with hk | hk
    · rcases he.2 k hk with h | h
      · rcases hx.2 k ((h4 k).2 (.inl h)) with h | h
        · exact .inl h
        · exact .inr (by omega)
      · exact .inr (by omega)
    · rcases hx.2 k ((h4 k).2 (.inr hk)) with h | h
      · exact .inl h
      · exact .inr (by omega)
theorem Holds.obj {b : Nat} {o : Obj} (h : Holds w0 K L w) (hk : L[k]? = some (obj b o)) : w.heap[b]? = some o := by
  obtain ⟨C1, h1, _⟩ := h.focus hk; exact h1.2
theorem Holds.cell {b j : Nat} {l : List Value} {t : TypeId} {v : Value} (h : Holds w0 K L w) (hk : L[k]? = some (cells b l t)) (hj : l[j]? = some v) : w.cell? ⟨b, j, none⟩ = some v :=
  cell_at (h.obj hk) (by simpa using hj)
theorem Holds.drew (h : Holds w0 K L w) : Holds w0 K L w.drew := by
  obtain ⟨C, h1, h2⟩ := h
  exact ⟨C, h1.loc (Nat.le_refl _) (fun _ _ => rfl), h2.drew⟩
theorem Ext.refl' (C : Nat → Prop) (w : World) : Ext C C w w := Ext.refl C w
/-- New blocks. -/
theorem Holds.grow {Bs : List Asn} {C' : Nat → Prop} (h : Holds w0 K L w) (hx : Ext (fun _ => False) C' w w') (hB : sepL Bs C' w') : Holds w0 K (L ++ Bs) w' := by
  obtain ⟨C1, h1, h2⟩ := h.split (Splits.nil (L := L))
  exact h2 Bs C' w' (by
    have : C1 = fun _ => False := funext fun k => propext ⟨fun h => absurd h (h1 k), fun h => h.elim⟩
    rw [this]; exact hx) hB
theorem sepL.one {C : Nat → Prop} (h : A.P C w) : sepL [A] C w := ⟨C, fun _ => False, h, fun _ h => h, fun _ _ h => h, fun k => by simp⟩
theorem Holds.alloc (h : Holds w0 K L w) (o : Obj) : Holds w0 K (L ++ [Go.Proofs.Ytekjfmjeemjcjaa.obj w.heap.size o]) (w.alloc o) := by
  refine h.grow (C' := fun k => k = w.heap.size) ⟨(Fr.refl _ _).alloc _, fun k hk => .inr ⟨by omega, by simp; omega⟩⟩ (sepL.one ⟨fun k => Iff.rfl, World.alloc_heap_new w o⟩)
theorem Holds.below (h : Holds w0 K L w) (hb : Below w.heap.size w w') : Holds w0 K L w' := by
  have := h.grow (Bs := []) (C' := fun _ => False) (Ext.ofBelow hb) (fun _ h => h)
  rwa [List.append_nil] at this
theorem Holds.setCell {b j : Nat} {l l' : List Value} {t : TypeId} {v : Value} (h : Holds w0 K L w) (hk : L[k]? = some (cells b l t)) (hl : l.set j v = l') : Holds w0 K (L.set k (cells b l' t)) (w.setCell ⟨b, j, none⟩ v) := by
  obtain ⟨C1, h1, h2⟩ := h.focus hk
  refine h2 _ C1 _ ((Ext.refl _ _).setCell ((h1.1 b).2 rfl) v) ⟨h1.1, ?_⟩
  subst hl
  have := h1.2
  simp [World.setCell, this, Array.getElem?_modify]
theorem Holds.setObj {b : Nat} {o o' : Obj} (h : Holds w0 K L w) (hk : L[k]? = some (Go.Proofs.Ytekjfmjeemjcjaa.obj b o)) : Holds w0 K (L.set k (Go.Proofs.Ytekjfmjeemjcjaa.obj b o')) (w.putObj b o') := by
  obtain ⟨C1, h1, h2⟩ := h.focus hk
  refine h2 _ C1 _ ⟨(Fr.refl _ _).putObj (.inl ((h1.1 b).2 rfl)) _, fun k hk => .inl hk⟩ ⟨h1.1, ?_⟩
  exact World.putObj_heap_same (lt_of_some h1.2)
theorem Holds.weaken {L' : List Asn} (h : Holds w0 K L w) (hs : Splits L L' R) : Holds w0 K L' w := by
  obtain ⟨C, hL, hx⟩ := h
  obtain ⟨C1, C2, h1, h2, h3, h4⟩ := hs C w hL
  exact ⟨C1, h1, hx.1, fun k hk => hx.2 k ((h4 k).2 (.inl hk))⟩
/-- One assertion follows from another. -/
def Ent (A B : Asn) : Prop := ∀ C w, A.P C w → B.P C w
theorem Holds.ent (h : Holds w0 K L w) (hk : L[k]? = some A) (he : Ent A B) : Holds w0 K (L.set k B) w := by
  obtain ⟨C1, h1, h2⟩ := h.focus hk
  exact h2 B C1 w (Ext.refl _ _) (he _ _ h1)
theorem Holds.rewE {A' : Asn} (h : Holds w0 K L w) (hk : L[k]? = some A) (he : A = A') : Holds w0 K (L.set k A') w := by
  subst he
  obtain ⟨C1, h1, h2⟩ := h.focus hk
  exact h2 A C1 w (Ext.refl _ _) h1
theorem Holds.starCons {j : Nat} {X : List Asn} (h : Holds w0 K L w) (hk : L[k]? = some A) (hj : L[j]? = some (star X)) (hne : k ≠ j) : Holds w0 K ((L.set k emp).set j (star (A :: X))) w := by
  obtain ⟨C, hL, hx⟩ := h
  obtain ⟨C1, C2, h1, h2, h3, h4⟩ := sepL.take hk hL
  have hj' : (L.set k emp)[j]? = some (star X) := by rw [List.getElem?_set_ne hne]; exact hj
  obtain ⟨D1, D2, g1, g2, g3, g4⟩ := sepL.take hj' h2
  refine ⟨C, sepL.put (C1 := fun i => C1 i ∨ D1 i) (C2 := D2) (List.getElem?_eq_some_iff.1 hj').1 ⟨C1, D1, h1, g1, fun i a b => h3 i a ((g4 i).2 (.inl b)), fun i => Iff.rfl⟩ g2 (fun i a b => ?_) (fun i => ?_), hx⟩
  · rcases a with a | a
    · exact h3 i a ((g4 i).2 (.inr b))
    · exact g3 i a b
  · rw [h4, g4, or_assoc]
theorem Holds.star0 (h : Holds w0 K L w) : Holds w0 K (L ++ [star []]) w := by
  obtain ⟨C, hL, hx⟩ := h
  exact ⟨_, hL.append (sepL.one (A := star []) (C := fun _ => False) (fun _ h => h)) (fun _ _ h => h), hx.1, fun k hk => hx.2 k (hk.resolve_right (fun h => h))⟩
theorem Holds.start (w : World) (K : Nat → Prop) (h : sepL L K w) : Holds w K L w := ⟨K, h, Ext.refl _ _⟩
end

/-- What the slots hold. -/
def At (N : Nat) (dfs : List Deferred) (σ : List (Nat × Value)) (a : Act) : Prop := a.tmps.size = N ∧ a.defers = dfs ∧ ∀ t v, σ.lookup t = some v → a.tmps.getD t undef = v
def ev (σ : List (Nat × Value)) : Operand → Option Value
  | .tmp t => σ.lookup t
  | .const v => some v
  | .func f => some (.func (.func f) #[] #[])
  | .global _ => none
theorem At.ev {N : Nat} {dfs : List Deferred} {σ : List (Nat × Value)} {a : Act} (h : At N dfs σ a) {x : Operand} {v : Value} (hx : ev σ x = some v) : a.eval x = v := by
  cases x <;> simp [Go.Proofs.Ytekjfmjeemjcjaa.ev] at hx
  · exact h.2.2 _ _ hx
  · exact hx
  · exact hx
theorem At.put {N : Nat} {dfs : List Deferred} {σ : List (Nat × Value)} {a : Act} (h : At N dfs σ a) {d : Nat} (hd : d < N) (v : Value) : At N dfs ((d, v) :: σ) (a.put (some d) v) := by
  refine ⟨by simp [Act.put, h.1], h.2.1, fun t u ht => ?_⟩
  simp only [List.lookup] at ht
  split at ht
  · rename_i e
    have : t = d := by simpa using e
    subst this; cases ht
    have h1 := h.1
    simp [Act.put, Array.getD, h1, hd]
  · rename_i e
    have : t ≠ d := by simpa using e
    rw [← h.2.2 t u ht]
    have hne : ¬ d = t := fun h => this h.symm
    show (a.tmps.setIfInBounds d v).getD t undef = _
    by_cases hl : t < a.tmps.size
    · have hl' : t < (a.tmps.setIfInBounds d v).size := by simpa using hl
      unfold Array.getD
      rw [dif_pos hl', dif_pos hl]
      show (a.tmps.setIfInBounds d v)[t] = a.tmps[t]
      exact Array.getElem_setIfInBounds_ne hl hne
    · have hl' : ¬ t < (a.tmps.setIfInBounds d v).size := by simpa using hl
      unfold Array.getD
      rw [dif_neg hl', dif_neg hl]
theorem At.put0 {N : Nat} {dfs : List Deferred} {σ : List (Nat × Value)} {a : Act} (h : At N dfs σ a) (v : Value) : At N dfs σ (a.put none v) := h
theorem At.weaken {N : Nat} {dfs : List Deferred} {σ σ' : List (Nat × Value)} {a : Act} (h : At N dfs σ a) (hs : ∀ t v, σ'.lookup t = some v → σ.lookup t = some v) : At N dfs σ' a := ⟨h.1, h.2.1, fun t v ht => h.2.2 t v (hs t v ht)⟩
/-- σ' says no more than σ. -/
def Sbs (σ σ' : List (Nat × Value)) : Prop := ∀ a N dfs, At N dfs σ a → At N dfs σ' a
theorem Sbs.nil {σ : List (Nat × Value)} : Sbs σ [] := fun a N dfs h => ⟨h.1, h.2.1, fun t v ht => by cases ht⟩
theorem Sbs.cons {σ σ' : List (Nat × Value)} {t : Nat} {v : Value} (h : σ.lookup t = some v) (hs : Sbs σ σ') : Sbs σ ((t, v) :: σ') := fun a N dfs ha => by
  refine ⟨ha.1, ha.2.1, fun s u hu => ?_⟩
  simp only [List.lookup] at hu
  split at hu
  · rename_i e
    have : s = t := by simpa using e
    subst this; cases hu
    exact ha.2.2 _ _ h
  · exact (hs a N dfs ha).2.2 s u hu
theorem Sbs.refl {σ : List (Nat × Value)} : Sbs σ σ := fun a N dfs h => h

/-- A fence within which calls are taken by their contracts. -/
class WideF (F : Fence) : Prop where
  fn : ∀ f, F.fn f
  depth : F.depth = none
  calls : ∀ {P : Program} {f : FuncId} {args : Array Value} {w : World} {R : Ending → World → Prop}, Calls P f args w R → CallsIn F 0 P f args w R
  rounds : ∀ {P : Program} {l : Nat} {f : FuncId} {tmps : Array Value} {assign body : Code} {w : World} {R : Ending → World → Prop}, RoundIn Fence.wide 0 P l f tmps assign body w R → RoundIn F 0 P l f tmps assign body w R
instance : WideF Fence.wide := ⟨fun _ => trivial, rfl, fun h => callsIn_wide.2 h, fun h => h⟩
instance (l : Nat) : WideF (Fence.wide.inRound l) := ⟨fun _ => trivial, rfl, fun h => CallsIn.inRound l (callsIn_wide.2 h), fun h => h⟩

end Go.Proofs.Ytekjfmjeemjcjaa
