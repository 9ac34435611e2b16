/-
  Rows of records that a call has built: what is read, stored, appended. No program is named here. Nothing is assumed.
-/
import Derived.Test.YtekjfmjeemjcjaaIter2
import Derived.OwnWalkIn
namespace Go.Proofs.Ytekjfmjeemjcjaa
open Go.RowKit Go.Lib

section
variable {α : Type} {enc : α → List Value} {size : Nat}
theorem flat_len (hz : ∀ x, (enc x).length = size) (L : List α) : (L.flatMap enc).length = L.length * size := by
  induction L with
  | nil => simp
  | cons x L ih => simp [ih, hz, Nat.add_mul]; omega
theorem flat_get (hz : ∀ x, (enc x).length = size) : ∀ (L : List α) (n j : Nat) (x : α), L[n]? = some x → j < size → (L.flatMap enc)[n * size + j]? = (enc x)[j]?
  | [], n, j, x, h, hj => by simp at h
  | y :: L, 0, j, x, h, hj => by
    simp at h; subst h
    simp only [List.flatMap_cons, Nat.zero_mul, Nat.zero_add]
    rw [List.getElem?_append_left (by rw [hz]; exact hj)]
  | y :: L, n + 1, j, x, h, hj => by
    simp at h
    simp only [List.flatMap_cons]
    rw [List.getElem?_append_right (by rw [hz, Nat.add_mul]; omega), hz]
    have : (n + 1) * size + j - size = n * size + j := by rw [Nat.add_mul]; omega
    rw [this]
    exact flat_get hz L n j x h hj
theorem flat_set (hz : ∀ x, (enc x).length = size) : ∀ (L : List α) (n j : Nat) (x y : α) (u : Value), L[n]? = some x → j < size → enc y = (enc x).set j u →
    (L.flatMap enc).set (n * size + j) u = (L.set n y).flatMap enc
  | [], n, j, x, y, u, h, hj, he => by simp at h
  | z :: L, 0, j, x, y, u, h, hj, he => by
    simp at h; subst h
    simp only [List.flatMap_cons, Nat.zero_mul, Nat.zero_add, List.set_cons_zero]
    rw [List.set_append_left _ _ (by rw [hz]; exact hj), he]
  | z :: L, n + 1, j, x, y, u, h, hj, he => by
    simp at h
    simp only [List.flatMap_cons, List.set_cons_succ]
    rw [List.set_append_right _ _ (by rw [hz, Nat.add_mul]; omega), hz]
    have : (n + 1) * size + j - size = n * size + j := by rw [Nat.add_mul]; omega
    rw [this, flat_set hz L n j x y u h hj he]

/-- The slice value v owns the records L. -/
def Rw (enc : α → List Value) (w : World) (base : Nat) (e : TypeId) (size : Nat) (v : Value) (L : List α) : Prop := w.ownsRow base e size v L.length (L.flatMap enc)

theorem Rw.nil (w : World) (base : Nat) (e : TypeId) : Rw enc w base e size (.slice none 0 0) ([] : List α) := World.ownsRow_nil w base e size

theorem Rw.shape {w : World} {base : Nat} {e : TypeId} {v : Value} {L : List α} (h : Rw enc w base e size v L) :
    (v = .slice none 0 0 ∧ L = []) ∨ ∃ g cap, v = .slice (some ⟨g, 0, none⟩) L.length cap ∧ base ≤ g ∧ g < w.heap.size ∧ L.length ≤ cap ∧ cap ≤ maxLen := by
  rcases h.2 with ⟨h1, h2⟩ | ⟨g, cap, cur, h1, h2, h3, h4, h5, _⟩
  · exact .inl ⟨h1, List.eq_nil_of_length_eq_zero h2⟩
  · exact .inr ⟨g, cap, h1, h2, (Array.getElem?_eq_some_iff.1 h3).1, h4, h5⟩

theorem Rw.cell {w : World} {base : Nat} {e : TypeId} {g cap : Nat} {L : List α} (hz : ∀ x, (enc x).length = size) (h : Rw enc w base e size (.slice (some ⟨g, 0, none⟩) L.length cap) L)
    {n : Nat} {x : α} (hx : L[n]? = some x) {j : Nat} {u : Value} (hj : j < size) (hu : (enc x)[j]? = some u) : w.cell? ⟨g, n * size + j, none⟩ = some u := by
  have hn : n < L.length := (List.getElem?_eq_some_iff.1 hx).1
  have hlt : n * size + j < L.length * size := by
    have : (n + 1) * size ≤ L.length * size := Nat.mul_le_mul_right _ hn
    rw [Nat.add_mul] at this; omega
  rw [World.ownsRow.cellAt h _ hlt, flat_get hz L n j x hx hj, hu]
theorem Rw.frozen {w : World} {base : Nat} {e : TypeId} {g n cap : Nat} {L : List α} (h : Rw enc w base e size (.slice (some ⟨g, 0, none⟩) n cap) L) (hn : n = L.length) (j : Nat) : w.frozen? ⟨g, j, none⟩ = false := by
  subst hn; exact World.ownsRow.frozenAt h j
theorem Rw.stored {w : World} {base : Nat} {e : TypeId} {g cap : Nat} {L : List α} (hz : ∀ x, (enc x).length = size) (h : Rw enc w base e size (.slice (some ⟨g, 0, none⟩) L.length cap) L)
    {n : Nat} {x : α} (hx : L[n]? = some x) {j : Nat} (hj : j < size) (y : α) {u : Value} (he : enc y = (enc x).set j u) :
    Rw enc (w.setCell ⟨g, n * size + j, none⟩ u) base e size (.slice (some ⟨g, 0, none⟩) L.length cap) (L.set n y) ∧ w.grownBy (w.setCell ⟨g, n * size + j, none⟩ u) (some g) := by
  have := World.ownsRow.stored h (n * size + j) u
  refine ⟨?_, this.2⟩
  have h1 := this.1
  rw [flat_set hz L n j x y u hx hj he] at h1
  unfold Rw
  rw [List.length_set]
  exact h1
theorem Rw.kept {w w' : World} {base : Nat} {e : TypeId} {v : Value} {L : List α} {row : Option Nat} (h : Rw enc w base e size v L) (hg : w.grownBy w' row) (hne : v.ownBlock = none ∨ v.ownBlock ≠ row) : Rw enc w' base e size v L :=
  World.ownsRow.kept h hg hne
theorem Rw.below {w w' : World} {base : Nat} {e : TypeId} {v : Value} {L : List α} (h : Rw enc w base e size v L) (hb : Below w.heap.size w w') : Rw enc w' base e size v L := by
  refine ⟨h.1, ?_⟩
  rcases h.2 with hn | ⟨g, cap, cur, rfl, h2, h3, rest⟩
  · exact .inl hn
  · exact .inr ⟨g, cap, cur, rfl, h2, some_lt h3 hb, rest⟩
theorem Rw.at {w w' : World} {base : Nat} {e : TypeId} {v : Value} {L : List α} {C : Nat → Prop} (h : Rw enc w base e size v L) (hf : Fr C w w') (hn : ∀ g, v.ownBlock = some g → ¬ C g) : Rw enc w' base e size v L := by
  refine ⟨h.1, ?_⟩
  rcases h.2 with hn' | ⟨g, cap, cur, rfl, h2, h3, rest⟩
  · exact .inl hn'
  · exact .inr ⟨g, cap, cur, rfl, h2, hf.at h3 (hn g rfl), rest⟩
theorem Rw.base {w : World} {base b : Nat} {e : TypeId} {v : Value} {L : List α} (h : Rw enc w base e size v L) (hb : b ≤ base) : Rw enc w b e size v L := by
  refine ⟨h.1, ?_⟩
  rcases h.2 with hn | ⟨g, cap, cur, rfl, h2, rest⟩
  · exact .inl hn
  · exact .inr ⟨g, cap, cur, rfl, Nat.le_trans hb h2, rest⟩
end

theorem wpList_append_rec {α : Type} {enc : α → List Value} {size : Nat} {P : Program} (w : World) {ops : Array Oper} {rest : List Oper} {o : Oper} {a : Act} {Q : Exit → Act → World → Prop}
    (hgd : o.guard = none) (s x : Operand) (t : TypeId) (ho : o.op = .call { callee := .builtin .append, args := #[s, x], argTypes := #[t, t] })
    (base : Nat) (e : TypeId) (i : TypeInfo) (z : Value) (bytes : Nat) (ht : P.underlying t = some (.slice e)) (hi : P.info? e = some i) (hz : i.zero = some z)
    (hsize : i.size = size) (hby : i.bytes = bytes) (hzs : z.cells.size = size) (hsz : 0 < size) (hlen : ∀ x, (enc x).length = size) (h1 : ∀ x, ∀ u ∈ enc x, u.oneCell' = true)
    (v : Value) (L : List α) (hs : a.eval s = v) (hown : Rw enc w base e size v L) (y : α) (b c : Nat) (hx : a.eval x = .slice (some ⟨b, 0, none⟩) 1 c)
    (e' : TypeId) (fz : Nat × Nat) (hb : w.heap[b]? = some (.cells (enc y).toArray e' fz)) (hn : L.length ≤ 2147483647) (hbytes : bytes ≤ 65536) (hbase : base ≤ w.heap.size)
    (h : ∀ v' w', Rw enc w' base e size v' (L ++ [y]) → w.grownBy w' v.ownBlock → (∃ g cap, v' = .slice (some ⟨g, 0, none⟩) (L.length + 1) cap ∧ base ≤ g ∧ g < w'.heap.size) → wpList P ops Q rest (a.put o.dst v') w') : wpList P ops Q (o :: rest) a w := by
  refine wpList_append_own w hgd s x t ho base e i z size bytes ht hi hz hsize hby hzs hsz v L.length (L.flatMap enc) hs hown ⟨b, 0, none⟩ 1 c (enc y) hx (by rw [hlen]; omega) ?_ (h1 y) (by simp [maxLen]; omega) ?_ hbase ?_
  · intro j u hu
    have hadd : (⟨b, 0, none⟩ : Addr).add j = ⟨b, j, none⟩ := by unfold Addr.add; split <;> simp_all
    rw [hadd, cell_at hb (v := u) (by simpa using hu)]
  · have : (L.length + 1) * bytes ≤ 2147483648 * 65536 := Nat.mul_le_mul (by omega) hbytes
    omega
  · intro v' w' r1 r2 _
    have hR : Rw enc w' base e size v' (L ++ [y]) := by
      unfold Rw; rw [List.length_append, List.flatMap_append]; simpa using r1
    refine h v' w' hR r2 ?_
    rcases hR.shape with ⟨_, h2⟩ | ⟨g, cap, hv, hb', hg, _⟩
    · simp at h2
    · exact ⟨g, cap, by simpa using hv, hb', hg⟩

theorem flat_snoc {α : Type} (enc : α → List Value) (L : List α) (x : α) : (L ++ [x]).flatMap enc = L.flatMap enc ++ enc x := by simp

/-- A row that grows only touches its own block or a new one. -/
theorem Fr.row {C : Nat → Prop} {a w w' : World} {row : Option Nat} (h : Fr C a w) (hg : w.grownBy w' row) (hr : ∀ r, row = some r → C r ∨ a.heap.size ≤ r) : Fr C a w' := h.grown hg hr

end Go.Proofs.Ytekjfmjeemjcjaa
