/-
  Owned slices with footprints; an append says which block it may have moved to; a region that draws its order, by an invariant. No program is named here. Nothing is assumed.
-/
import Derived.Test.YtekjfmjeemjcjaaRow
import Derived.Lib.AppendStr
import Derived.Laws.IdiomStrings
import Derived.Lib.BufferRead
import Derived.OrdersIn
namespace Go.Proofs.Ytekjfmjeemjcjaa
open Go.RowKit Go.Lib
set_option linter.unusedVariables false
set_option linter.unusedSimpArgs false

theorem Ext.alloc {C C' : Nat → Prop} {a w : World} (h : Ext C C' a w) (o : Obj) : Ext C C' a (w.alloc o) :=
  ⟨h.1.alloc o, fun k hk => (h.2 k hk).imp id (fun q => ⟨q.1, by simp; omega⟩)⟩
theorem Ext.alloc' {C C' : Nat → Prop} {a w : World} (h : Ext C C' a w) (o : Obj) : Ext C (fun k => C' k ∨ k = w.heap.size) a (w.alloc o) :=
  ⟨h.1.alloc o, fun k hk => by
    have := h.1.size
    rcases hk with hk | rfl
    · exact (h.2 k hk).imp id (fun q => ⟨q.1, by simp; omega⟩)
    · exact .inr ⟨this, by simp⟩⟩
theorem Ext.drew {C C' : Nat → Prop} {a w : World} (h : Ext C C' a w) : Ext C C' a w.drew := ⟨h.1.drew, h.2⟩
theorem Ext.setCell {C C' : Nat → Prop} {a w : World} (h : Ext C C' a w) {p : Addr} (hp : C' p.block) (u : Value) : Ext C C' a (w.setCell p u) := by
  have hs : (w.setCell p u).heap.size = w.heap.size := by simp [World.setCell]
  refine ⟨h.1.setCell ?_ u, fun k hk => by rw [hs]; exact h.2 k hk⟩
  rcases h.2 _ hp with h' | h'
  · exact .inl h'
  · exact .inr h'.1
theorem Ext.toBelow {C C' : Nat → Prop} {B : Nat} {w w' : World} (h : Ext C C' w w') (hB : B ≤ w.heap.size) (hC : ∀ k, k < B → ¬ C k) : Below B w w' := h.1.toBelow hB hC
theorem Ext.ofBelow {C : Nat → Prop} {w w' : World} (h : Below w.heap.size w w') : Ext C C w w' := Ext.below h

/-- The slice value v owns the records L; C: its block. -/
def Vec {α : Type} (enc : α → List Value) (e : TypeId) (size : Nat) (v : Value) (L : List α) (C : Nat → Prop) (w : World) : Prop :=
  Rw enc w 0 e size v L ∧ C = (fun k => v.ownBlock = some k)

section
variable {α : Type} {enc : α → List Value} {size : Nat} {e : TypeId} {v : Value} {L : List α} {C : Nat → Prop} {w w' : World}
theorem Vec.local (h : Vec enc e size v L C w) (hk : ∀ k, C k → w'.heap[k]? = w.heap[k]?) : Vec enc e size v L C w' := by
  obtain ⟨h1, rfl⟩ := h
  refine ⟨⟨h1.1, ?_⟩, rfl⟩
  rcases h1.2 with hn | ⟨g, cap, cur, rfl, h5, h6, rest⟩
  · exact .inl hn
  · exact .inr ⟨g, cap, cur, rfl, h5, (hk g rfl).trans h6, rest⟩
theorem Vec.lt (h : Vec enc e size v L C w) : ∀ k, C k → k < w.heap.size := by
  obtain ⟨h1, rfl⟩ := h
  exact fun k hk => (World.ownsRow.lt h1 k hk).2
theorem Vec.ext {D D' : Nat → Prop} (h : Vec enc e size v L C w) (hx : Ext D D' w w') (hd : ∀ k, C k → ¬ D k) : Vec enc e size v L C w' :=
  h.local (fun k hk => hx.1.keep k (h.lt k hk) (hd k hk))
theorem Vec.below (h : Vec enc e size v L C w) (hx : Below w.heap.size w w') : Vec enc e size v L C w' :=
  h.local (fun k hk => hx.block k (h.lt k hk))
theorem Vec.alloc (h : Vec enc e size v L C w) (o : Obj) : Vec enc e size v L C (w.alloc o) :=
  h.local (fun k hk => Below.heap_alloc _ _ _ (h.lt k hk))
theorem Vec.drew (h : Vec enc e size v L C w) : Vec enc e size v L C w.drew := h
theorem Vec.nil : Vec enc e size (.slice none 0 0) ([] : List α) (fun _ => False) w := ⟨Rw.nil _ _ _, by funext k; simp [Value.ownBlock]⟩
theorem Vec.shape (h : Vec enc e size v L C w) :
    (v = .slice none 0 0 ∧ L = [] ∧ C = fun _ => False) ∨ ∃ g cap, v = .slice (some ⟨g, 0, none⟩) L.length cap ∧ g < w.heap.size ∧ L.length ≤ cap ∧ cap ≤ maxLen ∧ C = (fun k => k = g) := by
  obtain ⟨h1, rfl⟩ := h
  rcases h1.shape with ⟨rfl, h2⟩ | ⟨g, cap, rfl, _, h3, h4, h5⟩
  · exact .inl ⟨rfl, h2, by funext k; simp [Value.ownBlock]⟩
  · exact .inr ⟨g, cap, rfl, h3, h4, h5, by funext k; simp [Value.ownBlock]; exact ⟨fun h => h.symm, fun h => h.symm⟩⟩
theorem Vec.cell {g cap n : Nat} (hz : ∀ x, (enc x).length = size) (h : Vec enc e size (.slice (some ⟨g, 0, none⟩) n cap) L C w) (hn : n = L.length) {i : Nat} {x : α} (hx : L[i]? = some x) {j : Nat} {u : Value} (hj : j < size) (hu : (enc x)[j]? = some u) :
    w.cell? ⟨g, i * size + j, none⟩ = some u := by subst hn; exact h.1.cell hz hx hj hu
theorem Vec.frozen {g cap n : Nat} (h : Vec enc e size (.slice (some ⟨g, 0, none⟩) n cap) L C w) (hn : n = L.length) (j : Nat) : w.frozen? ⟨g, j, none⟩ = false := h.1.frozen hn j
end

/-- Where an appended-to value lies. -/
theorem append_block {P : Program} (w : World) (base : Nat) (t ty e : TypeId) (i : TypeInfo) (z : Value) (size bytes : Nat) (ht : P.underlying t = some (.slice e)) (hi : P.info? e = some i) (hz : i.zero = some z)
    (hsize : i.size = size) (hby : i.bytes = bytes)
    (v : Value) (n : Nat) (xs : List Value) (hown : w.ownsRow base e size v n xs)
    (a : Addr) (m c : Nat) (news : List Value) (hl : news.length = m * size) (hnews : ∀ j u, news[j]? = some u → w.cell? (a.add j) = some u) (h1 : ∀ u ∈ news, u.oneCell' = true)
    (h63 : n + m ≤ maxLen) (hbytes : (n + m) * bytes ≤ 140737488355328) {v' : Value} {w' : World}
    (hr' : (Builtin.append_ #[t, t] ty #[v, .slice (some a) m c]).run P w = .ok v' w') : ∀ g, v'.ownBlock = some g → v.ownBlock = some g ∨ (w.heap.size ≤ g) := by
  subst hsize
  subst hby
  have hsmall : n + m ≤ 9223372036854775807 := by simp only [maxLen] at h63; omega
  rcases hown.2 with ⟨rfl, rfl⟩ | ⟨g, cap, cur, rfl, hbg, hg, hnc, hcm, hcs, htake⟩
  · by_cases hm : m = 0
    · subst hm
      have hn : news = [] := List.eq_nil_of_length_eq_zero (by simpa using hl)
      subst hn
      have h : (Builtin.append_ #[t, t] ty #[.slice none 0 0, .slice (some a) 0 c]).run P w = .ok (.slice none 0 0) w := by
        simp [Builtin.append_, run_underlying ht, sizeOf, typeInfo, hi, Builtin.lenOf, Builtin.firstCells, loadCells, loadCellsFrom]
      rw [h] at hr'
      cases hr'
      simp [Value.ownBlock]
    · have hr := run_append_nil (P := P) w t ty e i z ht hi hz a m c news hl hnews (by omega) (by omega) (by have hb := hbytes; simp only [Nat.zero_add] at hb; omega)
      rw [hr] at hr'
      cases hr'
      intro g hg
      simp [Value.ownBlock] at hg
      exact .inr (by omega)
  · by_cases hroom : n + m ≤ cap
    · have hfit : n * i.size + news.length ≤ cur.size := by rw [hl, hcs, ← Nat.add_mul]; exact Nat.mul_le_mul_right _ hroom
      have hr := run_append_room (P := P) w t ty e i ht hi g n cap cur hg a m c news hl hnews h1 hroom hfit
      rw [hr] at hr'
      cases hr'
      intro g' hg'
      exact .inl (by simpa [Value.ownBlock] using hg')
    · have holds : ∀ j u, xs[j]? = some u → w.cell? ((⟨g, 0, none⟩ : Addr).add j) = some u := hown.cells (g := g) rfl
      have hr := run_append_grow (P := P) w t ty e i z ht hi hz ⟨g, 0, none⟩ n cap xs hown.1 holds a m c news hl hnews (by omega) (by omega) (growslice_fits (by omega) hbytes)
      rw [hr] at hr'
      cases hr'
      intro g' hg'
      simp [Value.ownBlock] at hg'
      exact .inr (by omega)
theorem append_block_string {P : Program} (w : World) (base : Nat) (t u ty e : TypeId) (i : TypeInfo) (ht : P.underlying t = some (.slice e)) (hu : P.underlying u = some .string) (hi : P.info? e = some i) (hz : i.zero = some (.int .u8 0))
    (hsize : i.size = 1) (hby : i.bytes = 1)
    (v : Value) (n : Nat) (xs : List Value) (hown : w.ownsRow base e 1 v n xs) (s : ByteArray)
    (h63 : n + s.size ≤ maxLen) (hbytes : n + s.size ≤ 140737488355328) {v' : Value} {w' : World}
    (hr' : (Builtin.append_ #[t, u] ty #[v, .string s]).run P w = .ok v' w') : ∀ g, v'.ownBlock = some g → v.ownBlock = some g ∨ (w.heap.size ≤ g) := by
  have hsmall : n + s.size ≤ 9223372036854775807 := by simp only [maxLen] at h63; omega
  have hxl : xs.length = n := by simpa using hown.1
  rcases hown.2 with ⟨rfl, rfl⟩ | ⟨g, cap, cur, rfl, hbg, hg, hnc, hcm, hcs, htake⟩
  · by_cases hm : s.size = 0
    · have hf := run_firstCells_string (P := P) w 1 s
      rw [hm] at hf
      have hn : strCells s = [] := List.eq_nil_of_length_eq_zero (by rw [strCells_length]; exact hm)
      have h : (Builtin.append_ #[t, u] ty #[.slice none 0 0, .string s]).run P w = .ok (.slice none 0 0) w := by
        simp [Builtin.append_, run_underlying ht, run_underlying hu, sizeOf, typeInfo, hi, hsize, Builtin.lenOf, hm, hf]
      rw [h] at hr'
      cases hr'
      simp [Value.ownBlock]
    · have hr := run_append_nil_string (P := P) w t u ty e i (.int .u8 0) ht hu hi hz s (by omega) (by omega) (by rw [hby]; omega)
      rw [hr] at hr'
      cases hr'
      intro g hg
      simp [Value.ownBlock] at hg
      exact .inr (by omega)
  · by_cases hroom : n + s.size ≤ cap
    · have hcs' : cur.size = cap := by simpa using hcs
      have hr := run_append_room_string (P := P) w t u ty e i ht hu hi hsize g n cap cur hg s hroom (by omega)
      rw [hr] at hr'
      cases hr'
      intro g' hg'
      exact .inl (by simpa [Value.ownBlock] using hg')
    · have holds : ∀ j u, xs[j]? = some u → w.cell? ((⟨g, 0, none⟩ : Addr).add j) = some u := hown.cells (g := g) rfl
      have hr := run_append_grow_string (P := P) w t u ty e i (.int .u8 0) ht hu hi hz ⟨g, 0, none⟩ n cap xs (by rw [hsize]; omega) holds s (by omega) (by omega) (growslice_fits (by omega) (by rw [hby]; omega))
      rw [hr] at hr'
      cases hr'
      intro g' hg'
      simp [Value.ownBlock] at hg'
      exact .inr (by omega)

theorem ext_of_grown {w w' : World} {v v' : Value} (hg : w.grownBy w' v.ownBlock) (hb : ∀ g, v'.ownBlock = some g → v.ownBlock = some g ∨ w.heap.size ≤ g) (hlt : ∀ g, v'.ownBlock = some g → g < w'.heap.size) :
    Ext (fun k => v.ownBlock = some k) (fun k => v'.ownBlock = some k) w w' :=
  ⟨(Fr.refl _ _).grown hg (fun r hr => .inl hr), fun k hk => (hb k hk).imp id (fun h => ⟨h, hlt k hk⟩)⟩

section
variable {F : Fence} {n : Nat} {P : Program}
/-- 'append(s, x)' of one record, x laid in a block just ahead. -/
theorem run_append_vec {α : Type} {enc : α → List Value} {size : Nat} (w : World) (t ty e : TypeId) (i : TypeInfo) (z : Value) (bytes : Nat) (ht : P.underlying t = some (.slice e)) (hi : P.info? e = some i) (hz : i.zero = some z)
    (hsize : i.size = size) (hby : i.bytes = bytes) (hzs : z.cells.size = size) (hsz : 0 < size) (hlen : ∀ x, (enc x).length = size) (h1 : ∀ x, ∀ u ∈ enc x, u.oneCell' = true)
    (v : Value) (L : List α) (C : Nat → Prop) (hown : Vec enc e size v L C w) (ys : List α) (b c : Nat)
    (e' : TypeId) (fz : Nat × Nat) (hb : w.heap[b]? = some (.cells (ys.flatMap enc).toArray e' fz)) (hn : L.length + ys.length ≤ 2147483648) (hbytes : bytes ≤ 65536) :
    ∃ v' w', (Builtin.append_ #[t, t] ty #[v, .slice (some ⟨b, 0, none⟩) ys.length c]).run P w = .ok v' w' ∧ ∃ C', Vec enc e size v' (L ++ ys) C' w' ∧ Ext C C' w w' := by
  obtain ⟨hown, rfl⟩ := hown
  have hl : (ys.flatMap enc).length = ys.length * size := flat_len hlen ys
  have hnews : ∀ j u, (ys.flatMap enc)[j]? = some u → w.cell? ((⟨b, 0, none⟩ : Addr).add j) = some u := by
    intro j u hu
    have hadd : (⟨b, 0, none⟩ : Addr).add j = ⟨b, j, none⟩ := by unfold Addr.add; split <;> simp_all
    rw [hadd, cell_at hb (v := u) (by simpa using hu)]
  have h1' : ∀ u ∈ ys.flatMap enc, u.oneCell' = true := by
    intro u hu
    obtain ⟨x, hx, hu⟩ := List.mem_flatMap.1 hu
    exact h1 x u hu
  have hbb : (L.length + ys.length) * bytes ≤ 140737488355328 := by
    have : (L.length + ys.length) * bytes ≤ 2147483648 * 65536 := Nat.mul_le_mul (by omega) hbytes
    omega
  obtain ⟨v', w', hr, r1, r2, _⟩ := run_append_own (P := P) w 0 t ty e i z size bytes ht hi hz hsize hby hzs hsz v L.length (L.flatMap enc) hown ⟨b, 0, none⟩ ys.length c (ys.flatMap enc) hl hnews h1' (by simp [maxLen]; omega) hbb (Nat.zero_le _)
  have hbl := append_block (P := P) w 0 t ty e i z size bytes ht hi hz hsize hby v L.length (L.flatMap enc) hown ⟨b, 0, none⟩ ys.length c (ys.flatMap enc) hl hnews h1' (by simp [maxLen]; omega) hbb hr
  have hR : Rw enc w' 0 e size v' (L ++ ys) := by
    unfold Rw; rw [List.length_append, List.flatMap_append]; exact r1
  exact ⟨v', w', hr, _, ⟨hR, rfl⟩, ext_of_grown r2 hbl (fun g hg => (World.ownsRow.lt hR g hg).2)⟩

theorem wpListIn_append_vec {α : Type} {enc : α → List Value} {size : Nat} (w : World) {ops : Array Oper} {rest : List Oper} {o : Oper} {a : Act} {Q : Exit → Act → World → Prop}
    (hgd : o.guard = none) (s x : Operand) (t : TypeId) (ho : o.op = .call { callee := .builtin .append, args := #[s, x], argTypes := #[t, t] })
    (e : TypeId) (i : TypeInfo) (z : Value) (bytes : Nat) (ht : P.underlying t = some (.slice e)) (hi : P.info? e = some i) (hz : i.zero = some z)
    (hsize : i.size = size) (hby : i.bytes = bytes) (hzs : z.cells.size = size) (hsz : 0 < size) (hlen : ∀ x, (enc x).length = size) (h1 : ∀ x, ∀ u ∈ enc x, u.oneCell' = true)
    (v : Value) (L : List α) (C : Nat → Prop) (hs : a.eval s = v) (hown : Vec enc e size v L C w) (ys : List α) (m b c : Nat) (hx : a.eval x = .slice (some ⟨b, 0, none⟩) m c) (hm : m = ys.length)
    (e' : TypeId) (fz : Nat × Nat) (hb : w.heap[b]? = some (.cells (ys.flatMap enc).toArray e' fz)) (hn : L.length + ys.length ≤ 2147483648) (hbytes : bytes ≤ 65536)
    (h : ∀ v' w' C', Vec enc e size v' (L ++ ys) C' w' → Ext C C' w w' → wpListIn F n P ops Q rest (a.put o.dst v') w') : wpListIn F n P ops Q (o :: rest) a w := by
  subst hm
  refine wpListIn_plain hgd fun K hK => ?_
  obtain ⟨v', w', hr, C', h2, h3⟩ := run_append_vec (P := P) w t o.type e i z bytes ht hi hz hsize hby hzs hsz hlen h1 v L C hown ys b c e' fz hb hn hbytes
  unfold Oper.wpIn
  refine ⟨?_, ?_⟩
  · simp [Oper.about, ho, resolve, Target.leads, Sem.run_pure]
  · rw [Oper.semAt_plain F _ _ (by rw [ho]; intro c hc'; cases hc')]
    simp [execOp, ho, resolve, invoke, builtin, hs, hx, hr, Result.andThen]
    exact hK _ _ (h v' w' C' h2 h3)
theorem wpList_append_vec {α : Type} {enc : α → List Value} {size : Nat} (w : World) {ops : Array Oper} {rest : List Oper} {o : Oper} {a : Act} {Q : Exit → Act → World → Prop}
    (hgd : o.guard = none) (s x : Operand) (t : TypeId) (ho : o.op = .call { callee := .builtin .append, args := #[s, x], argTypes := #[t, t] })
    (e : TypeId) (i : TypeInfo) (z : Value) (bytes : Nat) (ht : P.underlying t = some (.slice e)) (hi : P.info? e = some i) (hz : i.zero = some z)
    (hsize : i.size = size) (hby : i.bytes = bytes) (hzs : z.cells.size = size) (hsz : 0 < size) (hlen : ∀ x, (enc x).length = size) (h1 : ∀ x, ∀ u ∈ enc x, u.oneCell' = true)
    (v : Value) (L : List α) (C : Nat → Prop) (hs : a.eval s = v) (hown : Vec enc e size v L C w) (ys : List α) (m b c : Nat) (hx : a.eval x = .slice (some ⟨b, 0, none⟩) m c) (hm : m = ys.length)
    (e' : TypeId) (fz : Nat × Nat) (hb : w.heap[b]? = some (.cells (ys.flatMap enc).toArray e' fz)) (hn : L.length + ys.length ≤ 2147483648) (hbytes : bytes ≤ 65536)
    (h : ∀ v' w' C', Vec enc e size v' (L ++ ys) C' w' → Ext C C' w w' → wpList P ops Q rest (a.put o.dst v') w') : wpList P ops Q (o :: rest) a w := by
  subst hm
  refine wpList_plain hgd fun K hK => ?_
  obtain ⟨v', w', hr, C', h2, h3⟩ := run_append_vec (P := P) w t o.type e i z bytes ht hi hz hsize hby hzs hsz hlen h1 v L C hown ys b c e' fz hb hn hbytes
  unfold Oper.wp execOp
  simp only [ho, resolve, invoke, builtin, Sem.run_bind, Sem.run_pure, Result.andThen_ok, List.map_toArray, List.map_cons, List.map_nil, hs, hx, hr]
  exact hK _ _ (h v' w' C' h2 h3)
end

theorem strCells_app (a b : ByteArray) : strCells (a ++ b) = strCells a ++ strCells b := by
  unfold strCells; rw [ByteArray.data_append]; simp
/-- The slice value v owns the bytes b; C: its block. -/
def Byt (e : TypeId) (v : Value) (b : ByteArray) (C : Nat → Prop) (w : World) : Prop := w.ownsRow 0 e 1 v b.size (strCells b) ∧ C = (fun k => v.ownBlock = some k)
section
variable {e : TypeId} {v : Value} {b : ByteArray} {C : Nat → Prop} {w w' : World}
theorem Byt.local (h : Byt e v b C w) (hk : ∀ k, C k → w'.heap[k]? = w.heap[k]?) : Byt e v b C w' := by
  obtain ⟨h1, rfl⟩ := h
  refine ⟨⟨h1.1, ?_⟩, rfl⟩
  rcases h1.2 with hn | ⟨g, cap, cur, rfl, h5, h6, rest⟩
  · exact .inl hn
  · exact .inr ⟨g, cap, cur, rfl, h5, (hk g rfl).trans h6, rest⟩
theorem Byt.lt (h : Byt e v b C w) : ∀ k, C k → k < w.heap.size := by
  obtain ⟨h1, rfl⟩ := h
  exact fun k hk => (World.ownsRow.lt h1 k hk).2
theorem Byt.ext {D D' : Nat → Prop} (h : Byt e v b C w) (hx : Ext D D' w w') (hd : ∀ k, C k → ¬ D k) : Byt e v b C w' :=
  h.local (fun k hk => hx.1.keep k (h.lt k hk) (hd k hk))
theorem Byt.below (h : Byt e v b C w) (hx : Below w.heap.size w w') : Byt e v b C w' := h.local (fun k hk => hx.block k (h.lt k hk))
theorem Byt.alloc (h : Byt e v b C w) (o : Obj) : Byt e v b C (w.alloc o) := h.local (fun k hk => Below.heap_alloc _ _ _ (h.lt k hk))
theorem Byt.nil : Byt e (.slice none 0 0) ⟨#[]⟩ (fun _ => False) w := ⟨World.ownsRow_nil w 0 e 1, by funext k; simp [Value.ownBlock]⟩
theorem Byt.shape (h : Byt e v b C w) :
    (v = .slice none 0 0 ∧ b = ⟨#[]⟩ ∧ C = fun _ => False) ∨ ∃ g cap cur, v = .slice (some ⟨g, 0, none⟩) b.size cap ∧ g < w.heap.size ∧ b.size ≤ cap ∧ cap ≤ maxLen ∧ C = (fun k => k = g) ∧ w.heap[g]? = some (.cells cur e (0, 0)) := by
  obtain ⟨h1, rfl⟩ := h
  rcases h1.2 with ⟨rfl, h2⟩ | ⟨g, cap, cur, rfl, h2, h3, h4, h5, _⟩
  · exact .inl ⟨rfl, by apply ByteArray.ext; exact Array.eq_empty_of_size_eq_zero h2, by funext k; simp [Value.ownBlock]⟩
  · exact .inr ⟨g, cap, cur, rfl, (Array.getElem?_eq_some_iff.1 h3).1, h4, h5, by funext k; simp [Value.ownBlock]; exact ⟨fun h => h.symm, fun h => h.symm⟩, h3⟩
theorem Byt.conv {P : Program} (h : Byt e v b C w) (src dst : TypeId) (hs : P.underlying src = some (.slice e)) (he : P.underlying e = some (.int .u8)) (hd : P.underlying dst = some .string) :
    (convert src dst v).run P w = .ok (.string b) w := by
  obtain ⟨h, -⟩ := h
  rcases h.2 with ⟨rfl, h2⟩ | ⟨g, cap, cur, rfl, _, _, _⟩
  · have hb : b = ⟨#[]⟩ := by
      apply ByteArray.ext; exact Array.eq_empty_of_size_eq_zero h2
    rw [hb]; exact run_convert_nil_bytes w src dst e 0 hs he hd
  · have hl : b.data.toList.length = b.size := by rw [Array.length_toList]; rfl
    have := run_convert_bytes_back (P := P) w src dst e ⟨g, 0, none⟩ cap b.data.toList hs he hd (fun j hj => by
      refine World.ownsRow.cells h rfl j _ ?_
      unfold strCells; rw [List.getElem?_map, List.getElem?_eq_getElem hj]; rfl)
    rw [hl] at this
    rw [this]
end

section
variable {F : Fence} {n : Nat} {P : Program}
theorem run_append_byt (w : World) (t u ty e : TypeId) (i : TypeInfo) (ht : P.underlying t = some (.slice e)) (hu : P.underlying u = some .string) (hi : P.info? e = some i) (hz : i.zero = some (.int .u8 0))
    (hsize : i.size = 1) (hby : i.bytes = 1) (v : Value) (b : ByteArray) (C : Nat → Prop) (hown : Byt e v b C w) (s : ByteArray) (hn : b.size + s.size ≤ 140737488355328) :
    ∃ v' w', (Builtin.append_ #[t, u] ty #[v, .string s]).run P w = .ok v' w' ∧ ∃ C', Byt e v' (b ++ s) C' w' ∧ Ext C C' w w' := by
  obtain ⟨hown, rfl⟩ := hown
  obtain ⟨v', w', hr, r1, r2, _⟩ := run_append_own_string (P := P) w 0 t u ty e i ht hu hi hz hsize hby v b.size (strCells b) hown s (by simp [maxLen]; omega) hn (Nat.zero_le _)
  have hbl := append_block_string (P := P) w 0 t u ty e i ht hu hi hz hsize hby v b.size (strCells b) hown s (by simp [maxLen]; omega) hn hr
  have hR : w'.ownsRow 0 e 1 v' (b ++ s).size (strCells (b ++ s)) := by rw [strCells_app, ByteArray.size_append]; exact r1
  exact ⟨v', w', hr, _, ⟨hR, rfl⟩, ext_of_grown r2 hbl (fun g hg => (World.ownsRow.lt hR g hg).2)⟩
theorem wpListIn_append_byt (w : World) {ops : Array Oper} {rest : List Oper} {o : Oper} {a : Act} {Q : Exit → Act → World → Prop} (hgd : o.guard = none) (sl x : Operand) (t u : TypeId)
    (ho : o.op = .call { callee := .builtin .append, args := #[sl, x], argTypes := #[t, u] })
    (e : TypeId) (i : TypeInfo) (ht : P.underlying t = some (.slice e)) (hu : P.underlying u = some .string) (hi : P.info? e = some i) (hz : i.zero = some (.int .u8 0))
    (hsize : i.size = 1) (hby : i.bytes = 1) (v : Value) (b : ByteArray) (C : Nat → Prop) (hs : a.eval sl = v) (hown : Byt e v b C w) (s : ByteArray) (hx : a.eval x = .string s)
    (hn : b.size + s.size ≤ 140737488355328)
    (h : ∀ v' w' C', Byt e v' (b ++ s) C' w' → Ext C C' w w' → wpListIn F n P ops Q rest (a.put o.dst v') w') : wpListIn F n P ops Q (o :: rest) a w := by
  refine wpListIn_plain hgd fun K hK => ?_
  obtain ⟨v', w', hr, C', h2, h3⟩ := run_append_byt (P := P) w t u o.type e i ht hu hi hz hsize hby v b C hown s hn
  unfold Oper.wpIn
  refine ⟨?_, ?_⟩
  · simp [Oper.about, ho, resolve, Target.leads, Sem.run_pure]
  · rw [Oper.semAt_plain F _ _ (by rw [ho]; intro c hc'; cases hc')]
    simp [execOp, ho, resolve, invoke, builtin, hs, hx, hr, Result.andThen]
    exact hK _ _ (h v' w' C' h2 h3)
theorem wpList_append_byt (w : World) {ops : Array Oper} {rest : List Oper} {o : Oper} {a : Act} {Q : Exit → Act → World → Prop} (hgd : o.guard = none) (sl x : Operand) (t u : TypeId)
    (ho : o.op = .call { callee := .builtin .append, args := #[sl, x], argTypes := #[t, u] })
    (e : TypeId) (i : TypeInfo) (ht : P.underlying t = some (.slice e)) (hu : P.underlying u = some .string) (hi : P.info? e = some i) (hz : i.zero = some (.int .u8 0))
    (hsize : i.size = 1) (hby : i.bytes = 1) (v : Value) (b : ByteArray) (C : Nat → Prop) (hs : a.eval sl = v) (hown : Byt e v b C w) (s : ByteArray) (hx : a.eval x = .string s)
    (hn : b.size + s.size ≤ 140737488355328)
    (h : ∀ v' w' C', Byt e v' (b ++ s) C' w' → Ext C C' w w' → wpList P ops Q rest (a.put o.dst v') w') : wpList P ops Q (o :: rest) a w := by
  refine wpList_plain hgd fun K hK => ?_
  obtain ⟨v', w', hr, C', h2, h3⟩ := run_append_byt (P := P) w t u o.type e i ht hu hi hz hsize hby v b C hown s hn
  unfold Oper.wp execOp
  simp only [ho, resolve, invoke, builtin, Sem.run_bind, Sem.run_pure, Result.andThen_ok, List.map_toArray, List.map_cons, List.map_nil, hs, hx, hr]
  exact hK _ _ (h v' w' C' h2 h3)

/-- 'append(b, x, y, ..)' of bytes that lie in a block. -/
theorem run_append_byts (w : World) (t ty e : TypeId) (i : TypeInfo) (ht : P.underlying t = some (.slice e)) (hi : P.info? e = some i) (hz : i.zero = some (.int .u8 0))
    (hsize : i.size = 1) (hby : i.bytes = 1) (v : Value) (b : ByteArray) (C : Nat → Prop) (hown : Byt e v b C w) (ys : ByteArray) (blk c : Nat) (e' : TypeId) (fz : Nat × Nat)
    (hb : w.heap[blk]? = some (.cells (strCells ys).toArray e' fz)) (hn : b.size + ys.size ≤ 140737488355328) :
    ∃ v' w', (Builtin.append_ #[t, t] ty #[v, .slice (some ⟨blk, 0, none⟩) ys.size c]).run P w = .ok v' w' ∧ ∃ C', Byt e v' (b ++ ys) C' w' ∧ Ext C C' w w' := by
  obtain ⟨hown, rfl⟩ := hown
  have hl : (strCells ys).length = ys.size * 1 := by rw [strCells_length]; omega
  have hnews : ∀ j u, (strCells ys)[j]? = some u → w.cell? ((⟨blk, 0, none⟩ : Addr).add j) = some u := by
    intro j u hu
    have hadd : (⟨blk, 0, none⟩ : Addr).add j = ⟨blk, j, none⟩ := by unfold Addr.add; split <;> simp_all
    rw [hadd, cell_at hb (v := u) (by simpa using hu)]
  obtain ⟨v', w', hr, r1, r2, _⟩ := run_append_own (P := P) w 0 t ty e i (.int .u8 0) 1 1 ht hi hz hsize hby rfl (by omega) v b.size (strCells b) hown ⟨blk, 0, none⟩ ys.size c (strCells ys) hl hnews (strCells_oneCell ys) (by simp [maxLen]; omega) (by omega) (Nat.zero_le _)
  have hbl := append_block (P := P) w 0 t ty e i (.int .u8 0) 1 1 ht hi hz hsize hby v b.size (strCells b) hown ⟨blk, 0, none⟩ ys.size c (strCells ys) hl hnews (strCells_oneCell ys) (by simp [maxLen]; omega) (by omega) hr
  have hR : w'.ownsRow 0 e 1 v' (b ++ ys).size (strCells (b ++ ys)) := by rw [strCells_app, ByteArray.size_append]; exact r1
  exact ⟨v', w', hr, _, ⟨hR, rfl⟩, ext_of_grown r2 hbl (fun g hg => (World.ownsRow.lt hR g hg).2)⟩
theorem wpListIn_append_byts (w : World) {ops : Array Oper} {rest : List Oper} {o : Oper} {a : Act} {Q : Exit → Act → World → Prop} (hgd : o.guard = none) (sl x : Operand) (t : TypeId)
    (ho : o.op = .call { callee := .builtin .append, args := #[sl, x], argTypes := #[t, t] })
    (e : TypeId) (i : TypeInfo) (ht : P.underlying t = some (.slice e)) (hi : P.info? e = some i) (hz : i.zero = some (.int .u8 0))
    (hsize : i.size = 1) (hby : i.bytes = 1) (v : Value) (b : ByteArray) (C : Nat → Prop) (hs : a.eval sl = v) (hown : Byt e v b C w) (ys : ByteArray) (blk m c : Nat) (hx : a.eval x = .slice (some ⟨blk, 0, none⟩) m c) (hm : m = ys.size)
    (e' : TypeId) (fz : Nat × Nat) (hb : w.heap[blk]? = some (.cells (strCells ys).toArray e' fz)) (hn : b.size + ys.size ≤ 140737488355328)
    (h : ∀ v' w' C', Byt e v' (b ++ ys) C' w' → Ext C C' w w' → wpListIn F n P ops Q rest (a.put o.dst v') w') : wpListIn F n P ops Q (o :: rest) a w := by
  subst hm
  refine wpListIn_plain hgd fun K hK => ?_
  obtain ⟨v', w', hr, C', h2, h3⟩ := run_append_byts (P := P) w t o.type e i ht hi hz hsize hby v b C hown ys blk c e' fz hb hn
  unfold Oper.wpIn
  refine ⟨?_, ?_⟩
  · simp [Oper.about, ho, resolve, Target.leads, Sem.run_pure]
  · rw [Oper.semAt_plain F _ _ (by rw [ho]; intro c hc'; cases hc')]
    simp [execOp, ho, resolve, invoke, builtin, hs, hx, hr, Result.andThen]
    exact hK _ _ (h v' w' C' h2 h3)
theorem wpList_append_byts (w : World) {ops : Array Oper} {rest : List Oper} {o : Oper} {a : Act} {Q : Exit → Act → World → Prop} (hgd : o.guard = none) (sl x : Operand) (t : TypeId)
    (ho : o.op = .call { callee := .builtin .append, args := #[sl, x], argTypes := #[t, t] })
    (e : TypeId) (i : TypeInfo) (ht : P.underlying t = some (.slice e)) (hi : P.info? e = some i) (hz : i.zero = some (.int .u8 0))
    (hsize : i.size = 1) (hby : i.bytes = 1) (v : Value) (b : ByteArray) (C : Nat → Prop) (hs : a.eval sl = v) (hown : Byt e v b C w) (ys : ByteArray) (blk m c : Nat) (hx : a.eval x = .slice (some ⟨blk, 0, none⟩) m c) (hm : m = ys.size)
    (e' : TypeId) (fz : Nat × Nat) (hb : w.heap[blk]? = some (.cells (strCells ys).toArray e' fz)) (hn : b.size + ys.size ≤ 140737488355328)
    (h : ∀ v' w' C', Byt e v' (b ++ ys) C' w' → Ext C C' w w' → wpList P ops Q rest (a.put o.dst v') w') : wpList P ops Q (o :: rest) a w := by
  subst hm
  refine wpList_plain hgd fun K hK => ?_
  obtain ⟨v', w', hr, C', h2, h3⟩ := run_append_byts (P := P) w t o.type e i ht hi hz hsize hby v b C hown ys blk c e' fz hb hn
  unfold Oper.wp execOp
  simp only [ho, resolve, invoke, builtin, Sem.run_bind, Sem.run_pure, Result.andThen_ok, List.map_toArray, List.map_cons, List.map_nil, hs, hx, hr]
  exact hK _ _ (h v' w' C' h2 h3)

/-! ### A region that draws its order, by an invariant over what has been carried out -/
def depsOf (o : Oper) : List Nat := (o.after.toList.filter (Region.binds .any)).map (·.on)
def RegSteps (F : Fence) (n : Nat) (P : Program) (ops : Array Oper) (Q : Exit → Act → World → Prop) (Inv : (Nat → Prop) → Act → World → Prop) : List Oper → Nat → Prop
  | [], _ => True
  | o :: rest, i => (∀ D a w, ¬ D i → (∀ j ∈ depsOf o, D j) → Inv D a w → wpListIn F n P ops (Exit.then (Inv (fun j => D j ∨ j = i)) Q) [o] a w) ∧ RegSteps F n P ops Q Inv rest (i + 1)
theorem RegSteps.get {ops : Array Oper} {Q : Exit → Act → World → Prop} {Inv : (Nat → Prop) → Act → World → Prop} : ∀ {l : List Oper} {k : Nat}, RegSteps F n P ops Q Inv l k → ∀ i o, l[i]? = some o →
    (∀ D a w, ¬ D (k + i) → (∀ j ∈ depsOf o, D j) → Inv D a w → wpListIn F n P ops (Exit.then (Inv (fun j => D j ∨ j = k + i)) Q) [o] a w)
  | [], _, _, i, o, ho => by simp at ho
  | x :: l, k, h, 0, o, ho => by simp at ho; subst ho; exact h.1
  | x :: l, k, h, i + 1, o, ho => by
    have := RegSteps.get h.2 i o (by simpa using ho)
    rwa [show k + 1 + i = k + (i + 1) by omega] at this
theorem wpListIn_one_mono {ops : Array Oper} {Q : Exit → Act → World → Prop} {o : Oper} {K K' : Act → World → Prop} {a : Act} {w : World} (h : ∀ a w, K a w → K' a w)
    (hh : wpListIn F n P ops (Exit.then K Q) [o] a w) : wpListIn F n P ops (Exit.then K' Q) [o] a w := by
  simp only [wpListIn] at hh ⊢
  split
  · rename_i hw
    rw [if_pos hw] at hh
    unfold Oper.wpIn at hh ⊢
    refine ⟨hh.1, ?_⟩
    have hh := hh.2
    generalize (o.semAt F.round a.eval).run P w = r at *
    cases r with
    | ok x w' =>
      cases x <;> simp only [Oper.uponIn] at hh ⊢ <;>
        first
          | exact h _ _ hh
          | exact ⟨hh.1, CallsIn.mono hh.2 (fun e w'' he => by cases e <;> first | exact h _ _ he | exact he)⟩
          | exact ⟨hh.1, RowsIn.mono hh.2 (fun _ _ he => h _ _ he)⟩
          | exact ⟨hh.1, RoundIn.mono hh.2 (fun e w'' he => by cases e <;> first | exact h _ _ he | exact he)⟩
          | exact hh
    | halt x w' => cases x <;> simp only [Oper.uponIn] at hh ⊢ <;> exact hh
  · rename_i hw
    rw [if_neg hw] at hh
    exact ⟨hh.1, h _ _ hh.2⟩
theorem wpOpIn_of_one {ops : Array Oper} {Q : Exit → Act → World → Prop} {i : Nat} {o : Oper} {K : Act → World → Prop} {a : Act} {w : World} (ho : ops[i]? = some o)
    (h : wpListIn F n P ops (Exit.then K Q) [o] a w) : wpOpIn F n P ops Q i K a w := by
  unfold wpOpIn
  rw [ho]
  simp only [wpListIn] at h
  show (if _ then _ else _)
  split
  · rename_i hw
    rw [if_pos hw] at h
    have hh := h
    unfold Oper.wpIn at hh ⊢
    refine ⟨hh.1, ?_⟩
    have hh := hh.2
    generalize (o.semAt F.round a.eval).run P w = r at *
    cases r with
    | ok x w' =>
      cases x <;> simp only [Oper.uponIn] at hh ⊢ <;>
        first
          | exact hh
          | exact ⟨hh.1, CallsIn.mono hh.2 (fun e w'' he => by cases e <;> exact he)⟩
          | exact ⟨hh.1, RowsIn.mono hh.2 (fun _ _ he => he)⟩
          | exact ⟨hh.1, RoundIn.mono hh.2 (fun e w'' he => by cases e <;> exact he)⟩
    | halt x w' => cases x <;> simp only [Oper.uponIn] at hh ⊢ <;> exact hh
  · rename_i hw
    rw [if_neg hw] at h
    exact h
theorem getD_rep_false (m j : Nat) : (Array.replicate m false).getD j false = false := by
  simp only [Array.getD]; split <;> simp
theorem count_list : ∀ (l : List Bool) (i : Nat), l[i]? = some false → ((l.set i true).filter id).length = (l.filter id).length + 1
  | [], i, h => by simp at h
  | x :: l, 0, h => by simp at h; subst h; simp
  | x :: l, i + 1, h => by
    have := count_list l i (by simpa using h)
    cases x <;> simp [this]
theorem count_set (A : Array Bool) (i : Nat) (hl : i < A.size) (h : A.getInternal i hl = false) : ((A.setIfInBounds i true).toList.filter id).length = (A.toList.filter id).length + 1 := by
  rw [Array.toList_setIfInBounds]
  refine count_list _ _ ?_
  have h4 : A[i] = false := h
  simp [hl, h4]
theorem wpAnyIn_inv {ops : Array Oper} {Q : Exit → Act → World → Prop} {Inv : (Nat → Prop) → Act → World → Prop}
    (hlt : (ops.toList.zipIdx.all fun (o, i) => (depsOf o).all fun j => decide (j < i)) = true) (hst : RegSteps F n P ops Q Inv ops.toList 0)
    (hend : ∀ D a w, (∀ i < ops.size, D i) → Inv D a w → Q .normal a w) : ∀ (fuel : Nat) (listed : Array Bool) (a : Act) (w : World),
    listed.size = ops.size → (ops.size ≤ fuel + (listed.toList.filter id).length) → Inv (fun j => listed.getD j false = true) a w → wpAnyIn F n P .any ops Q fuel listed a w := by
  have hnil : ∀ (listed : Array Bool), listed.size = ops.size → Region.ready .any ops listed = [] → ∀ i < ops.size, listed.getD i false = true := by
    intro listed hsz hr i
    induction i using Nat.strongRecOn with
    | _ i ih =>
      intro hi
      rcases hb : listed.getD i false with _ | _
      · exfalso
        have hb' : listed.getD i true = false := by
          have hlt : i < listed.size := by omega
          simp only [Array.getD, hlt, dif_pos] at hb ⊢
          exact hb
        have : i ∈ Region.ready .any ops listed := by
          refine mem_ready.2 ⟨hb', ops[i], Array.getElem?_eq_getElem hi, fun e he hbe => ?_⟩
          have h1 := List.all_eq_true.1 hlt (ops[i], i) (by
            rw [List.mem_zipIdx_iff_getElem?]; simp [Array.getElem?_eq_getElem hi])
          have h2 := List.all_eq_true.1 h1 e.on (by
            unfold depsOf
            exact List.mem_map.2 ⟨e, List.mem_filter.2 ⟨by simpa using he, hbe⟩, rfl⟩)
          have h3 : e.on < i := by simpa using h2
          exact ih e.on h3 (by omega)
        rw [hr] at this
        cases this
      · rfl
  intro fuel
  induction fuel with
  | zero =>
    intro listed a w hsz hf hi
    have hle : (listed.toList.filter id).length = listed.toList.length := by
      have := List.length_filter_le id listed.toList
      simp only [Array.length_toList] at *
      omega
    have hall : ∀ b ∈ listed.toList, id b = true := List.length_filter_eq_length_iff.1 hle
    have hall' : ∀ i < ops.size, listed.getD i false = true := by
      intro i hi
      have hl : i < listed.size := by omega
      simp only [Array.getD, hl, dif_pos]
      exact hall _ (by simp)
    refine ⟨?_, hend _ a w hall' hi⟩
    refine List.eq_nil_iff_forall_not_mem.2 fun i hm => ?_
    have := (mem_ready.1 hm).1
    have h2 : i < ops.size := by
      obtain ⟨o, ho, _⟩ := (mem_ready.1 hm).2
      exact (Array.getElem?_eq_some_iff.1 ho).1
    have h3 := hall' i h2
    have hl : i < listed.size := by omega
    simp only [Array.getD, hl, dif_pos] at this h3
    have h4 : listed[i] = false := this
    have h5 : listed[i] = true := h3
    rw [h4] at h5; cases h5
  | succ fuel ih =>
    intro listed a w hsz hf hi
    refine ⟨fun hr => hend _ a w (hnil listed hsz hr) hi, fun i hm => ?_⟩
    obtain ⟨hli, o, ho, hdep⟩ := mem_ready.1 hm
    have hio : i < ops.size := (Array.getElem?_eq_some_iff.1 ho).1
    have hl : i < listed.size := by omega
    have hlf : ¬ listed.getD i false = true := by
      simp only [Array.getD, hl, dif_pos] at hli ⊢
      show ¬ listed[i] = true
      have h4 : listed[i] = false := hli
      rw [h4]; simp
    have hstep := hst.get i o (by simpa using ho) (fun j => listed.getD j false = true) a w (by simpa using hlf) (fun j hj => by
      obtain ⟨e, he, rfl⟩ := List.mem_map.1 (show j ∈ ((o.after.toList.filter (Region.binds .any)).map (·.on)) from hj)
      obtain ⟨he1, he2⟩ := List.mem_filter.1 he
      exact hdep e (by simpa using he1) he2) hi
    refine wpOpIn_mono (fun a' w' hinv => ?_) (wpOpIn_of_one ho hstep)
    refine ih _ a' w' (by simp [hsz]) ?_ ?_
    · have h1 := count_set listed i hl (by simpa only [Array.getD, hl, dif_pos] using hli)
      omega
    · have he : (fun j => (listed.setIfInBounds i true).getD j false = true) = (fun j => listed.getD j false = true ∨ j = 0 + i) := by
        funext j
        apply propext
        by_cases hji : j = i
        · subst hji
          simp [Array.getD, hl]
        · have hij : i ≠ j := fun h => hji h.symm
          simp only [Nat.zero_add, hji, or_false]
          rw [getD_set_ne false hij]
      rw [he]
      exact hinv
/-- **A REGION THAT DRAWS ITS ORDER.** Inv D: what holds when the operations in D have been carried out. -/
theorem wpIn_region_inv {id : Nat} {ops : Array Oper} {Q : Exit → Act → World → Prop} {a : Act} {w : World} (hm : P.follows .mixedOrders = true)
    (hlt : (ops.toList.zipIdx.all fun (o, i) => (depsOf o).all fun j => decide (j < i)) = true)
    (Inv : (Nat → Prop) → Act → World → Prop) (h0 : Inv (fun _ => False) a w.drew) (hst : RegSteps F n P ops Q Inv ops.toList 0)
    (hend : ∀ D a w, (∀ i < ops.size, D i) → Inv D a w → Q .normal a w) : (Code.region id ops true).wpIn F n P Q a w := by
  refine wpIn_region_any hm (wpAnyIn_inv hlt hst hend ops.size _ a _ (by simp) (by omega) ?_)
  have he : (fun j => (Array.replicate ops.size false).getD j false = true) = (fun _ => False) := by
    funext j
    rw [getD_rep_false]; simp
  rw [he]
  exact h0
def puts (a : Act) (ts : List Tmp) (u : Tmp → Value) : Act := ts.foldl (fun a t => a.put (some t) (u t)) a
theorem put_same (a : Act) (t : Tmp) : a.put (some t) (a.tmps.getD t undef) = a := by
  have : a.tmps.setIfInBounds t (a.tmps.getD t undef) = a.tmps := by
    by_cases h : t < a.tmps.size
    · apply Array.ext (by simp)
      intro i h1 h2
      rw [Array.getElem_setIfInBounds]
      split
      · rename_i e; subst e; simp [Array.getD, h]
      · rfl
    · exact Array.setIfInBounds_eq_of_size_le (Nat.le_of_not_lt h)
  simp only [Act.put, this]
theorem puts_same (ts : List Tmp) (a : Act) : puts a ts (fun t => a.tmps.getD t undef) = a := by
  have key : ∀ (ts : List Tmp) (b : Act), b = a → ts.foldl (fun c t => c.put (some t) (a.tmps.getD t undef)) b = a := by
    intro ts
    induction ts with
    | nil => intro b h; exact h
    | cons t ts ih => intro b h; subst h; exact ih _ (put_same _ t)
  exact key ts a rfl
def upd (u : Tmp → Value) (d : Tmp) (v : Value) : Tmp → Value := fun t => if t = d then v else u t
theorem upd_same (u : Tmp → Value) (d : Tmp) (v : Value) : upd u d v d = v := if_pos rfl
theorem upd_ne (u : Tmp → Value) {d t : Tmp} (v : Value) (h : t ≠ d) : upd u d v t = u t := if_neg h
/-- What the slots that a region fills hold, an operation being done: (operation, slot, value). -/
def ValsOk (vals : List (Nat × Tmp × Value)) (D : Nat → Prop) (u : Tmp → Value) : Prop := ∀ p ∈ vals, D p.1 → u p.2.1 = p.2.2
theorem ValsOk.step {vals : List (Nat × Tmp × Value)} {D : Nat → Prop} {u : Tmp → Value} (h : ValsOk vals D u) {i : Nat} {t : Tmp} {v : Value}
    (hm : ∀ p ∈ vals, (p.1 = i ∧ p.2.1 = t ∧ p.2.2 = v) ∨ (p.1 ≠ i ∧ p.2.1 ≠ t)) : ValsOk vals (fun j => D j ∨ j = i) (upd u t v) := by
  intro p hp hd
  rcases hm p hp with ⟨h1, h2, h3⟩ | ⟨h1, h2⟩
  · rw [h2, h3]; exact upd_same u t v
  · rw [upd_ne u v h2]; exact h p hp (hd.resolve_right h1)
theorem ValsOk.skip {vals : List (Nat × Tmp × Value)} {D : Nat → Prop} {u : Tmp → Value} (h : ValsOk vals D u) {i : Nat} (hm : ∀ p ∈ vals, p.1 ≠ i) : ValsOk vals (fun j => D j ∨ j = i) u :=
  fun p hp hd => h p hp (hd.resolve_right (hm p hp))
def VInv (a0 : Act) (ts : List Tmp) (vals : List (Nat × Tmp × Value)) (Ph : (Nat → Prop) → World → Prop) (D : Nat → Prop) (a : Act) (w : World) : Prop := ∃ u, a = puts a0 ts u ∧ ValsOk vals D u ∧ Ph D w
def Clo (ops : Array Oper) (D : Nat → Prop) : Prop := ∀ i o, ops[i]? = some o → D i → ∀ j ∈ depsOf o, D j
def RegVals (F : Fence) (n : Nat) (P : Program) (ops : Array Oper) (Q : Exit → Act → World → Prop) (a0 : Act) (ts : List Tmp) (vals : List (Nat × Tmp × Value)) (Ph : (Nat → Prop) → World → Prop) : List Oper → Nat → Prop
  | [], _ => True
  | o :: rest, i => (∀ D u w, ¬ D i → (∀ j ∈ depsOf o, D j) → Clo ops D → ValsOk vals D u → Ph D w → wpListIn F n P ops (Exit.then (VInv a0 ts vals Ph (fun j => D j ∨ j = i)) Q) [o] (puts a0 ts u) w) ∧ RegVals F n P ops Q a0 ts vals Ph rest (i + 1)
theorem Clo.add {ops : Array Oper} {D : Nat → Prop} {i : Nat} {o : Oper} (h : Clo ops D) (ho : ops[i]? = some o) (hd : ∀ j ∈ depsOf o, D j) : Clo ops (fun j => D j ∨ j = i) := by
  intro k o' ho' hk j hj
  rcases hk with hk | rfl
  · exact .inl (h k o' ho' hk j hj)
  · rw [ho] at ho'; cases ho'; exact .inl (hd j hj)
theorem RegVals.steps {ops : Array Oper} {Q : Exit → Act → World → Prop} {a0 : Act} {ts : List Tmp} {vals : List (Nat × Tmp × Value)} {Ph : (Nat → Prop) → World → Prop} : ∀ {l : List Oper} {k : Nat}, (∀ j o, l[j]? = some o → ops[k + j]? = some o) →
    RegVals F n P ops Q a0 ts vals Ph l k → RegSteps F n P ops Q (fun D a w => Clo ops D ∧ VInv a0 ts vals Ph D a w) l k
  | [], _, _, _ => trivial
  | o :: l, k, hl, h => by
    refine ⟨?_, RegVals.steps (fun j o' ho' => by have := hl (j + 1) o' (by simpa using ho'); rwa [show k + 1 + j = k + (j + 1) by omega]) h.2⟩
    rintro D a w hn hd ⟨hc, u, rfl, hv, hp⟩
    have h1 := h.1 D u w hn hd hc hv hp
    have hc' := hc.add (by simpa using hl 0 o rfl) hd
    exact wpListIn_one_mono (fun a' w' hk => ⟨hc', hk⟩) h1
/-- A region that draws its order: slots with known values; Ph: what holds of the world when the operations in D have been carried out. -/
theorem wpIn_region_vals {id : Nat} {ops : Array Oper} {Q : Exit → Act → World → Prop} {a : Act} {w : World} (hm : P.follows .mixedOrders = true)
    (hlt : (ops.toList.zipIdx.all fun (o, i) => (depsOf o).all fun j => decide (j < i)) = true) (ts : List Tmp) (vals : List (Nat × Tmp × Value))
    (Ph : (Nat → Prop) → World → Prop) (h0 : Ph (fun _ => False) w.drew)
    (hst : RegVals F n P ops Q a ts vals Ph ops.toList 0)
    (hend : ∀ D u w, (∀ i < ops.size, D i) → ValsOk vals D u → Ph D w → Q .normal (puts a ts u) w) : (Code.region id ops true).wpIn F n P Q a w := by
  refine wpIn_region_inv hm hlt (fun D a' w' => Clo ops D ∧ VInv a ts vals Ph D a' w') ⟨fun i o _ h => h.elim, _, (puts_same ts a).symm, fun p _ h => h.elim, h0⟩ (RegVals.steps (fun j o ho => by simpa using ho) hst) ?_
  rintro D a' w' hD ⟨_, u, rfl, hv, hp⟩
  exact hend D u w' hD hv hp
end

end Go.Proofs.Ytekjfmjeemjcjaa
