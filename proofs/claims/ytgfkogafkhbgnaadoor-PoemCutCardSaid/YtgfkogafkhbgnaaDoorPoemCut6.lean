/-
  Texts laid together: PqM, PqN, LqJ, LqK, PlPoemCut. Nothing is assumed.
-/
import Derived.Test.YtgfkogafkhbgnaaDoorPoemCut5
namespace Go.Proofs.YtgfkogafkhbgnaaDoor
open Go.RowKit Go.Lib
set_option linter.unusedVariables false
set_option linter.unusedSimpArgs false
def canL (l : List UInt8) : Bool := !(l.any isE) && (decide (l.length ≤ 1024) && !blank l)
theorem mayL_mk (l : List UInt8) (n : Nat) : mayL (mkB l) (n : Int) = (decide (l.length ≤ n) && !(l.any isE)) := by
  unfold mayL anyEnd
  rw [mkB_data, mkB_size]
  congr 1
  exact decide_eq_decide.2 (by omega)
theorem canL_gln {l : List UInt8} (h : canL l = true) : GLn l := by
  unfold canL at h
  rw [Bool.and_eq_true, Bool.and_eq_true] at h
  refine ⟨by simpa using h.2.2, by simpa using h.2.1, fun b hb => ?_⟩
  have h1 : l.any isE = false := by simpa using h.1
  rw [List.any_eq_false] at h1
  simpa using h1 b hb
/-! ### The line that is set -/
def setR (n : Int) (l : List UInt8) : Nat → Row → Row
  | _, [] => []
  | at_, x :: r => (if (at_ : Int) = n then l else x) :: setR n l (at_ + 1) r
def setZ (n : Int) (l : List UInt8) : Nat → List Row → List Row
  | _, [] => []
  | at_, r :: z => setR n l at_ r :: setZ n l (at_ + r.length) z
theorem setR_none (l : List UInt8) : ∀ (r : Row) (n at_ : Nat), n < at_ → setR (n : Int) l at_ r = r
  | [], n, at_, h => rfl
  | x :: r, n, at_, h => by rw [setR, if_neg (by omega), setR_none l r n (at_ + 1) (by omega)]
theorem setZ_none (l : List UInt8) : ∀ (z : List Row) (n at_ : Nat), n < at_ → setZ (n : Int) l at_ z = z
  | [], n, at_, h => rfl
  | r :: z, n, at_, h => by rw [setZ, setR_none l r n at_ h, setZ_none l z n (at_ + r.length) (by omega)]
theorem setR_at (l : List UInt8) : ∀ (r : Row) (n at_ : Nat), at_ ≤ n → setR (n : Int) l at_ r = r.set (n - at_) l
  | [], n, at_, h => rfl
  | x :: r, n, at_, h => by
    rw [setR]
    by_cases h1 : at_ = n
    · rw [if_pos (by omega), setR_none l r n (at_ + 1) (by omega), h1, Nat.sub_self]; rfl
    · rw [if_neg (by omega), setR_at l r n (at_ + 1) (by omega), show n - at_ = n - (at_ + 1) + 1 by omega]; rfl
theorem setR_past (l : List UInt8) : ∀ (r : Row) (n at_ : Nat), at_ + r.length ≤ n → setR (n : Int) l at_ r = r
  | [], n, at_, h => rfl
  | x :: r, n, at_, h => by
    rw [List.length_cons] at h
    rw [setR, if_neg (by omega), setR_past l r n (at_ + 1) (by omega)]
theorem enumR_at : ∀ (r : Row) (j i : Nat) (x : List UInt8), r[i]? = some x → (enumR j r)[i]? = some (j + i, x)
  | [], j, i, x, h => by simp at h
  | y :: r, j, 0, x, h => by
    have : y = x := by simpa using h
    subst this; rfl
  | y :: r, j, i + 1, x, h => by
    show (enumR (j + 1) r)[i]? = _
    rw [enumR_at r (j + 1) i x (by simpa using h), show j + 1 + i = j + (i + 1) by omega]
/-- The line of a number: where it stands, what becomes of it. -/
theorem flat_at (l : List UInt8) : ∀ (z : List Row) (k0 at_ n : Nat), at_ ≤ n → n < at_ + tot z → ∃ k i x r, (flatZ k0 z)[n - at_]? = some (k0 + k, i, x) ∧ z[k]? = some r ∧ r[i]? = some x ∧ setZ (n : Int) l at_ z = z.set k (r.set i l)
  | [], k0, at_, n, h1, h2 => by simp [tot] at h2; omega
  | r :: z, k0, at_, n, h1, h2 => by
    rw [tot_cons] at h2
    have hlen : ((enumR 0 r).map (fun p => (k0, p))).length = r.length := by rw [List.length_map, enumR_len]
    by_cases h : n < at_ + r.length
    · have hi : n - at_ < r.length := by omega
      refine ⟨0, n - at_, r[n - at_], r, ?_, rfl, List.getElem?_eq_getElem hi, ?_⟩
      · show ((enumR 0 r).map (fun p => (k0, p)) ++ flatZ (k0 + 1) z)[n - at_]? = _
        rw [List.getElem?_append_left (by omega), List.getElem?_map, enumR_at r 0 (n - at_) _ (List.getElem?_eq_getElem hi), Nat.zero_add]; rfl
      · rw [setZ, setR_at l r n at_ h1, setZ_none l z n (at_ + r.length) h]; rfl
    · obtain ⟨k, i, x, r', a1, a2, a3, a4⟩ := flat_at l z (k0 + 1) (at_ + r.length) n (by omega) (by omega)
      refine ⟨k + 1, i, x, r', ?_, by simpa using a2, a3, ?_⟩
      · show ((enumR 0 r).map (fun p => (k0, p)) ++ flatZ (k0 + 1) z)[n - at_]? = _
        rw [List.getElem?_append_right (by omega), hlen, show n - at_ - r.length = n - (at_ + r.length) by omega, a1, show k0 + 1 + k = k0 + (k + 1) by omega]
      · rw [setZ, setR_past l r n at_ (by omega), a4]; rfl
theorem GoodP.set {t : List UInt8} {z : List Row} (h : GoodP t z) {k i : Nat} {r : Row} {x l : List UInt8} (hk : z[k]? = some r) (hi : r[i]? = some x) (hl : GLn l) : GoodP t (z.set k (r.set i l)) := by
  refine ⟨h.tE, h.tL, fun y hy => ?_, fun y hy w hw => ?_⟩
  · rcases List.mem_or_eq_of_mem_set hy with hy | rfl
    · exact h.ne y hy
    · intro e
      have : (r.set i l).length = 0 := by rw [e]; rfl
      rw [List.length_set] at this
      have h2 := (List.getElem?_eq_some_iff.1 hi).1
      omega
  · rcases List.mem_or_eq_of_mem_set hy with hy | rfl
    · exact h.ln y hy w hw
    · rcases List.mem_or_eq_of_mem_set hw with hw | rfl
      · exact h.ln r (List.mem_of_getElem? hk) w hw
      · exact hl
theorem mkZ_set (z : List Row) (k i : Nat) (r : Row) (l : List UInt8) : (mkZ z).set k ((r.map mkB).set i (mkB l)) = mkZ (z.set k (r.set i l)) := by
  unfold mkZ
  rw [← List.map_set, ← List.map_set]
/-- What Set answers at a line that is there. -/
theorem set_v {p : Gpoem_Poem} {t : List UInt8} {z : List Row} (h : OkP p t z) (n : Nat) (hn : n < tot z) (l : List UInt8) (hl : canL l = true) : ∃ k i x r, (flatZ 0 z)[n]? = some (k, i, x) ∧ z[k]? = some r ∧ r[i]? = some x ∧ setZ (n : Int) l 0 z = z.set k (r.set i l) ∧
    poem_Poem_Set_v p (n : Int) (mkB l) = poem_made_v (mkB t) (mkZ (z.set k (r.set i l))) := by
  obtain ⟨k, i, x, r, a1, a2, a3, a4⟩ := flat_at l z 0 0 n (Nat.zero_le _) (by omega)
  rw [Nat.sub_zero, Nat.zero_add] at a1
  refine ⟨k, i, x, r, a1, a2, a3, a4, ?_⟩
  have hL := h.len
  have hg := canL_gln hl
  unfold poem_Poem_Set_v
  have hmay : mayL (mkB l) 1024 = true := by
    have := mayL_mk l 1024
    rw [show ((1024 : Nat) : Int) = 1024 from rfl] at this
    rw [this]
    unfold canL at hl
    rw [Bool.and_eq_true, Bool.and_eq_true] at hl
    rw [hl.2.1, hl.1]; rfl
  obtain ⟨v, hv⟩ : ∃ v, p.told_lines[n]? = some v := ⟨_, List.getElem?_eq_getElem (by omega)⟩
  have hkey : keyV v = keyL (k, i, x) := by
    have e := congrArg (fun s => s[n]?) h.vok
    simp only [List.getElem?_map, hv, a1, Option.map_some] at e
    exact Option.some.inj e
  have e1 : v.Stanza = (k : Int) := congrArg (fun q => q.2.2.1) hkey
  have e2 : v.In = (i : Int) := congrArg (fun q => q.2.2.2) hkey
  have hr : getO (mkZ z) v.Stanza = some (r.map mkB) := by rw [e1]; exact getO_nat (by unfold mkZ; rw [List.getElem?_map, a2]; rfl)
  have hx : getO (r.map mkB) v.In = some (mkB x) := by rw [e2]; exact getO_nat (by rw [List.getElem?_map, a3]; rfl)
  refine condFI (decide_eq_false (by omega)) (condFI (decide_eq_false (by omega)) (condFI (by rw [hmay]; rfl) (thenI (empty_v l (by have := hg.le; omega)) (condFI hg.bl (thenI h.full (thenI (getO_nat hv) (thenI hr (thenI hx ?_))))))))
  rw [e1, e2, Int.toNat_natCast, Int.toNat_natCast, mkZ_set, h.title]
  generalize poem_made_v (mkB t) (mkZ (z.set k (r.set i l))) = o
  cases o <;> rfl
end Go.Proofs.YtgfkogafkhbgnaaDoor
namespace Go.Proofs.YtgfkogafkhbgnaaDoor
open Go.RowKit Go.Lib
set_option linter.unusedVariables false
set_option linter.unusedSimpArgs false
theorem prF_ne : ∀ (z : List Row) (a : List UInt8), a ≠ [] → (prF a z).length = a.length + wtZ z
  | [], a, h => rfl
  | r :: z, a, h => by
    show (prF (sepT a ++ lnT r) z).length = _
    have e : sepT a = a ++ [10] := if_neg h
    rw [prF_ne z _ (by rw [e]; simp), e, List.length_append, List.length_append, lnT_len, wtZ_cons, List.length_singleton]
    omega
theorem prF_ge (z : List Row) (a : List UInt8) (hz : ∀ r ∈ z, r ≠ []) : a.length + wtZ z ≤ (prF a z).length + 1 := by
  by_cases h : a = []
  · subst h
    cases z with
    | nil => exact Nat.zero_le _
    | cons r z =>
      show _ ≤ (prF (sepT [] ++ lnT r) z).length + 1
      rw [prF_ne z _ (by show [] ++ lnT r ≠ []; exact lnT_ne (hz r (by simp)))]
      show _ ≤ ([] ++ lnT r).length + _ + 1
      rw [List.nil_append, lnT_len, wtZ_cons, List.length_nil]; omega
  · rw [prF_ne z a h]; omega
theorem headT_near (t : List UInt8) (w z : List Row) : (headT t w).length ≤ (headT t z).length + 3 := by
  by_cases ht : t = []
  · have := headT_len t w
    rw [ht] at this ⊢
    simp at this; omega
  · have e : ∀ y : List Row, headT t y = 35 :: 32 :: t ++ [10] := fun y => by
      have : needH t y = true := by
        unfold needH
        split <;> simp [ht]
      unfold headT
      rw [this]; rfl
    rw [e, e]; omega
/-- What is printed of more is hardly longer. -/
theorem prT_near (t : List UInt8) (w z : List Row) (hz : ∀ r ∈ z, r ≠ []) (k : Nat) (h : wtZ w ≤ wtZ z + k) : (prT t w).length ≤ (prT t z).length + k + 4 := by
  have h1 := prF_len w (headT t w)
  have h2 := prF_ge z (headT t z) hz
  have h3 := headT_near t w z
  unfold prT; omega
theorem wtZ_app (a b : List Row) : wtZ (a ++ b) = wtZ a + wtZ b := by unfold wtZ; rw [List.map_append, List.sum_append]
theorem join_eq {p q : Gpoem_Poem} {t t' : List UInt8} {z z' : List Row} (h : OkP p t z) (h' : OkP q t' z') : poem_Poem_Join_v p q = poem_made_v (mkB t) (mkZ (z ++ z')) := by
  have hm := h.most
  have hm' := h'.most
  have hzl := tot_ge z h.ne
  have hzl' := tot_ge z' h'.ne
  unfold poem_Poem_Join_v
  refine thenI h.full (thenI h'.full (grdI (by rw [mkZ_len, mkZ_len]; omega) ?_))
  rw [h.title, ← mkZ_app]
  generalize poem_made_v (mkB t) (mkZ (z ++ z')) = o
  cases o <;> rfl
theorem cut_eq {p : Gpoem_Poem} {t : List UInt8} {z : List Row} (h : OkP p t z) (a b : Nat) (hab : a ≤ b) (hb : b ≤ tot z) : poem_Poem_Cut_v p (a : Int) (b : Int) = poem_made_v (mkB t) (mkZ (cutZ a b 0 z)) := by
  have hl := h.len
  unfold poem_Poem_Cut_v
  refine condFI (decide_eq_false (by omega)) (condFI (decide_eq_false (by omega)) (condFI (decide_eq_false (by omega)) (thenI (rows_v h a b) ?_)))
  rw [h.title]
  generalize poem_made_v (mkB t) (mkZ (cutZ a b 0 z)) = o
  cases o <;> rfl
theorem made_long {t : List UInt8} {z : List Row} (h : GoodP t z) (hn : tot z ≤ 512) (hl : 65536 < (prT t z).length) : poem_made_v (mkB t) (mkZ z) = some (none, 3) := by
  have hwt := wtZ_le z fun r hr x hx => (h.ln r hr x hx).le
  have h4 := tot_ge z h.ne
  have h5 := h.tL
  rw [made_v t z h.ne (by omega), if_pos (.inr hl)]
/-! ### Cutting -/
theorem cutR_take (k : Nat) : ∀ (r : Row) (i : Nat), cutR 0 k i r = r.take (k - i)
  | [], i => by rw [List.take_nil]; rfl
  | x :: r, i => by
    rw [cutR, cutR_take k r (i + 1)]
    by_cases h : i < k
    · rw [if_pos ⟨Nat.zero_le _, h⟩, show k - i = k - (i + 1) + 1 by omega, List.take_succ_cons]
    · rw [if_neg (fun e => h e.2), show k - (i + 1) = 0 by omega, show k - i = 0 by omega]; rfl
theorem cutR_drop (k n : Nat) : ∀ (r : Row) (i : Nat), i + r.length ≤ n → cutR k n i r = r.drop (k - i)
  | [], i, h => by rw [List.drop_nil]; rfl
  | x :: r, i, h => by
    rw [List.length_cons] at h
    rw [cutR, cutR_drop k n r (i + 1) (by omega)]
    by_cases h1 : k ≤ i
    · rw [if_pos ⟨h1, by omega⟩, show k - (i + 1) = 0 by omega, show k - i = 0 by omega]; rfl
    · rw [if_neg (fun e => h1 e.1), show k - i = k - (i + 1) + 1 by omega, List.drop_succ_cons]
theorem cutR_app (a b : Nat) : ∀ (r s : Row) (i : Nat), cutR a b i (r ++ s) = cutR a b i r ++ cutR a b (i + r.length) s
  | [], s, i => rfl
  | x :: r, s, i => by
    rw [List.cons_append, cutR, cutR, cutR_app a b r s (i + 1), List.length_cons, show i + 1 + r.length = i + (r.length + 1) by omega]
    split <;> rfl
theorem cutZ_flat (a b : Nat) : ∀ (z : List Row) (i : Nat), (cutZ a b i z).flatten = cutR a b i z.flatten
  | [], i => rfl
  | r :: z, i => by
    rw [cutZ, List.flatten_append, cutZ_flat a b z, List.flatten_cons, cutR_app]
    split
    · rename_i h; rw [h]; rfl
    · rw [List.flatten_singleton]
theorem zflat_len : ∀ z : List Row, z.flatten.length = tot z
  | [] => rfl
  | r :: z => by rw [List.flatten_cons, List.length_append, tot_cons, zflat_len z]
theorem cut_whole (k : Nat) (z : List Row) : (cutZ 0 k 0 z ++ cutZ k (tot z) 0 z).flatten = z.flatten := by
  rw [List.flatten_append, cutZ_flat, cutZ_flat, cutR_take, cutR_drop _ _ _ _ (by rw [zflat_len]; omega), Nat.sub_zero, List.take_append_drop]
theorem cutR_wt (a b : Nat) : ∀ (r : Row) (i : Nat), wtR (cutR a b i r) ≤ wtR r
  | [], i => Nat.le_refl _
  | x :: r, i => by
    have := cutR_wt a b r (i + 1)
    rw [cutR, wtR_cons]
    split
    · rw [wtR_cons]; omega
    · omega
theorem cutZ_wt (a b : Nat) : ∀ (z : List Row) (i : Nat), wtZ (cutZ a b i z) ≤ wtZ z
  | [], i => Nat.le_refl _
  | r :: z, i => by
    have h1 := cutZ_wt a b z (i + r.length)
    have h2 := cutR_wt a b r i
    rw [cutZ, wtZ_app, wtZ_cons]
    split
    · show 0 + _ ≤ _; omega
    · rw [wtZ_cons]; show 1 + _ + 0 + _ ≤ _; omega
theorem wtR_app (a b : Row) : wtR (a ++ b) = wtR a + wtR b := by unfold wtR; rw [List.map_append, List.sum_append]
theorem cutZ_before (k : Nat) : ∀ (z : List Row) (i : Nat), k ≤ i → cutZ 0 k i z = []
  | [], i, h => rfl
  | r :: z, i, h => by
    rw [cutZ, cutR_take, show k - i = 0 by omega, cutZ_before k z (i + r.length) (by omega)]; rfl
theorem cutZ_after (k n : Nat) : ∀ (z : List Row) (i : Nat), (∀ r ∈ z, r ≠ []) → k ≤ i → i + tot z ≤ n → cutZ k n i z = z
  | [], i, hz, h, hn => rfl
  | r :: z, i, hz, h, hn => by
    rw [tot_cons] at hn
    rw [cutZ, cutR_drop k n r i (by omega), show k - i = 0 by omega, List.drop_zero, if_neg (hz r (by simp)), cutZ_after k n z (i + r.length) (fun y hy => hz y (by simp [hy])) (by omega) (by omega)]; rfl
theorem cut_two (k n : Nat) : ∀ (z : List Row) (i : Nat), (∀ r ∈ z, r ≠ []) → i + tot z ≤ n → wtZ (cutZ 0 k i z ++ cutZ k n i z) ≤ wtZ z + 1 ∧ tot (cutZ 0 k i z ++ cutZ k n i z) = tot z
  | [], i, hz, hn => ⟨Nat.zero_le _, rfl⟩
  | r :: z, i, hz, hn => by
    rw [tot_cons] at hn
    have hz' : ∀ y ∈ z, y ≠ [] := fun y hy => hz y (by simp [hy])
    rw [cutZ, cutZ, cutR_take, cutR_drop k n r i (by omega)]
    by_cases h : i + r.length ≤ k
    · obtain ⟨h1, h2⟩ := cut_two k n z (i + r.length) hz' (by omega)
      rw [List.take_of_length_le (by omega), List.drop_of_length_le (by omega), if_neg (hz r (by simp)), if_pos rfl, List.nil_append, List.append_assoc, List.singleton_append, wtZ_cons, wtZ_cons, tot_cons, tot_cons]
      exact ⟨by omega, by omega⟩
    · have hp : 0 < r.length := List.length_pos_iff.2 (hz r (by simp))
      have e : r.drop (k - i) ≠ [] := by
        intro e
        have := congrArg List.length e
        rw [List.length_drop, List.length_nil] at this; omega
      rw [if_neg e, cutZ_before k z (i + r.length) (by omega), cutZ_after k n z (i + r.length) hz' (by omega) (by omega), List.append_nil, List.singleton_append, wtZ_app, tot_app, wtZ_cons, wtZ_cons, tot_cons, tot_cons]
      have hw : wtR (r.take (k - i)) + wtR (r.drop (k - i)) = wtR r := by rw [← wtR_app, List.take_append_drop]
      have hl : (r.take (k - i)).length + (r.drop (k - i)).length = r.length := by rw [← List.length_append, List.take_append_drop]
      split
      · rename_i h0
        rw [h0] at hw hl
        refine ⟨by show 0 + _ ≤ _; omega, ?_⟩
        show 0 + _ = _
        simp only [List.length_nil] at hl; omega
      · rw [wtZ_cons, tot_one]
        exact ⟨by show 1 + _ + 0 + _ ≤ _; omega, by omega⟩
theorem cut_here (k n : Nat) : ∀ (z : List Row) (k0 i kk j : Nat) (x : List UInt8), (∀ r ∈ z, r ≠ []) → i ≤ k → i + tot z ≤ n → (flatZ k0 z)[k - i]? = some (kk, j, x) → (cutZ 0 k i z ++ cutZ k n i z = z ↔ j = 0)
  | [], k0, i, kk, j, x, hz, hi, hn, hf => by simp [flatZ] at hf
  | r :: z, k0, i, kk, j, x, hz, hi, hn, hf => by
    rw [tot_cons] at hn
    have hz' : ∀ y ∈ z, y ≠ [] := fun y hy => hz y (by simp [hy])
    have hf2 : ((enumR 0 r).map (fun p => (k0, p)) ++ flatZ (k0 + 1) z)[k - i]? = some (kk, j, x) := hf
    have hlen : ((enumR 0 r).map (fun p => (k0, p))).length = r.length := by rw [List.length_map, enumR_len]
    rw [cutZ, cutZ, cutR_take, cutR_drop k n r i (by omega)]
    by_cases h : i + r.length ≤ k
    · rw [List.getElem?_append_right (by omega), hlen, show k - i - r.length = k - (i + r.length) by omega] at hf2
      have ih := cut_here k n z (k0 + 1) (i + r.length) kk j x hz' (by omega) (by omega) hf2
      rw [List.take_of_length_le (by omega), List.drop_of_length_le (by omega), if_neg (hz r (by simp)), if_pos rfl, List.nil_append, List.append_assoc, List.singleton_append, List.cons_inj_right]
      exact ih
    · have e : r.drop (k - i) ≠ [] := by
        intro e
        have := congrArg List.length e
        rw [List.length_drop, List.length_nil] at this; omega
      have hlt : k - i < r.length := by omega
      rw [List.getElem?_append_left (by omega), List.getElem?_map, enumR_at r 0 (k - i) _ (List.getElem?_eq_getElem hlt)] at hf2
      have hj : j = k - i := by
        have := congrArg (fun q : Nat × Nat × List UInt8 => q.2.1) (Option.some.inj hf2)
        simp at this; omega
      rw [if_neg e, cutZ_before k z (i + r.length) (by omega), cutZ_after k n z (i + r.length) hz' (by omega) (by omega), List.append_nil, hj]
      by_cases h0 : k - i = 0
      · rw [h0]
        exact ⟨fun _ => rfl, fun _ => rfl⟩
      · refine ⟨fun e2 => absurd e2 ?_, fun e2 => absurd e2 h0⟩
        have h1 : r.take (k - i) ≠ [] := by
          intro e
          have := congrArg List.length e
          rw [List.length_take, List.length_nil] at this; omega
        rw [if_neg h1]
        intro e2
        have := congrArg List.length e2
        simp only [List.length_append, List.length_cons, List.length_nil] at this; omega
/-! ### All lines -/
theorem enumR_snd : ∀ (r : Row) (i : Nat), (enumR i r).map (fun p => p.2) = r
  | [], i => rfl
  | x :: r, i => by show x :: (enumR (i + 1) r).map _ = _; rw [enumR_snd r]
theorem flatZ_snd : ∀ (z : List Row) (k : Nat), (flatZ k z).map (fun p => p.2.2) = z.flatten
  | [], k => rfl
  | r :: z, k => by
    show ((enumR 0 r).map (fun p => (k, p)) ++ flatZ (k + 1) z).map _ = _
    rw [List.map_append, flatZ_snd z, List.map_map, List.flatten_cons]
    congr 1
    exact enumR_snd r 0
theorem gln_canL {l : List UInt8} (h : GLn l) : canL l = true := by
  unfold canL
  have h1 : l.any isE = false := by
    rw [List.any_eq_false]
    intro b hb
    rw [h.ne b hb]; decide
  rw [h1, decide_eq_true h.le, h.bl]; rfl
theorem rd_err {U : List UInt8} {e : Gapi_Spot} (h : rd U = .error e) : (!(eq_Gapi_Spot e (⟨0, 0⟩ : Gapi_Spot))) = true := by
  have key : ∀ (xs : List (Nat × List UInt8)) (st : RS), rfold st xs = .error e → e.Err = 3 := by
    intro xs
    induction xs with
    | nil => intro st h; cases h
    | cons x xs ih =>
      intro st h
      unfold rfold at h
      cases hs : rstep st x with
      | ok s1 => rw [hs] at h; exact ih s1 h
      | error e' =>
        rw [hs] at h
        have : e' = e := by cases h; rfl
        subst this
        unfold rstep at hs
        split at hs
        · cases hs
        split at hs
        · cases hs; rfl
        split at hs
        · cases hs
        split at hs
        · cases hs; rfl
        · cases hs
  have h3 : e.Err = 3 := by
    unfold rd at h
    split at h
    · cases h; rfl
    · exact key _ _ h
  cases he : eq_Gapi_Spot e (⟨0, 0⟩ : Gapi_Spot) with
  | false => rfl
  | true =>
    have := (eq_Gapi_Spot_iff _ _).1 he
    rw [this] at h3; cases h3
/-- A text is read, or not. -/
theorem rd_cases (T : List UInt8) : (∃ e, (!(eq_Gapi_Spot e (⟨0, 0⟩ : Gapi_Spot))) = true ∧ poem_Read_v (mkB T) = some (none, e)) ∨ ∃ p t z, OkP p t z ∧ poem_Read_v (mkB T) = some (some p, (⟨0, 0⟩ : Gapi_Spot)) := by
  have hr := read_v T
  cases hrd : rd T with
  | error e =>
    rw [hrd] at hr
    exact .inl ⟨e, rd_err hrd, hr⟩
  | ok st =>
    rw [hrd] at hr
    exact .inr ⟨_, _, _, (rd_ok hrd).1.ok (mkB T), hr⟩
end Go.Proofs.YtgfkogafkhbgnaaDoor
namespace Go.Proofs.YtgfkogafkhbgnaaDoor
open Go.RowKit Go.Lib
set_option linter.unusedVariables false
set_option linter.unusedSimpArgs false
def slices_Equal__string_string__s1 (s1x1 : List ByteArray) (s2x1 : List ByteArray) (j1 : Option Bool) (ag1 : Int → Option Bool) (x3 : Int) : Option Bool := bcond (decide ((x3 : Int) < (s1x1.length : Int))) ( andThen (getO s1x1 x3) fun (q1 : ByteArray) => andThen (getO s2x1 x3) fun (q2 : ByteArray) => bcond (!decide (q1 = q2)) ( some false
) ( grd (I64 (x3 + 1)) <| ag1 (x3 + 1)
)
) ( j1
)
def slices_Equal__string_string__v (s1x1 : List ByteArray) (s2x1 : List ByteArray) : Option Bool := bcond (((s1x1.length : Int) : Int) != (s2x1.length : Int)) ( some false
) ( joinK (fun (j1 : Option Bool) => loopG (fun _ => none) (slices_Equal__string_string__s1 s1x1 s2x1 j1) fuel 0
) ( some true
)
)
set_option maxRecDepth 100000 in
set_option maxHeartbeats 4000000 in
theorem slices_Equal__string_string__fn {vvs1x1 vs1x1 : Value} {Ls1x1 : List ByteArray} {ks1x1 : Nat} {s1x1 : List ByteArray} (hws1x1 : Vw vvs1x1 Ls1x1 1 ks1x1 vs1x1 s1x1) {vvs2x1 vs2x1 : Value} {Ls2x1 : List ByteArray} {ks2x1 : Nat} {s2x1 : List ByteArray} (hws2x1 : Vw vvs2x1 Ls2x1 1 ks2x1 vs2x1 s2x1) {r : Bool} (h : slices_Equal__string_string__v s1x1 s2x1 = some r) : FnR Tryd.prog 26 [vs1x1, vs2x1] [roRow encS 1 vvs1x1 ks1x1 Ls1x1, roRow encS 1 vvs2x1 ks2x1 Ls2x1] [] (fun _ : Unit => (.bool r)) (fun _ => []) := by
 unfold slices_Equal__string_string__v at h
 refine FnR.intro Tryd.func26 rfl Tryd.ntmps26 (by simp) ?_
 intro w0 K hrd
 refine TC.seq (TC.region (TO.assign rfl dc rfl (TO.nil (TX.next (TC.seq (TC.seq (TC.region (TO.move rfl dc rfl (TO.lenVw hws1x1 rfl dc rfl Tryd.underlying48 (TO.move rfl dc rfl (TO.lenVw hws2x1 rfl dc rfl Tryd.underlying48 (TO.bin rfl dc rfl rfl bin_neq (TO.nil ?_)))))))))))))
 refine TX.next ?_
 refine TC.condB rfl (fun hb1 => ?_) (fun hb1 => ?_)
 ·
  have h := condT hb1 h
  refine TC.seq (TC.region (TO.assign rfl dc rfl (TO.nil (TX.next (TC.ret (TX.thenRet ?_))))))
  cases h
  exact TX.fin (rs := [.tmp 4]) () (.inl rfl) Tryd.results26 (.cons (.tmp rfl) .nil) rfl Splits.nil
 ·
  have h := condF hb1 h
  refine TC.skip (TX.next ?_)
  obtain ⟨j1, hj1, h⟩ := joinE h
  refine TC.cutN (β := Unit) 0 rfl (fun b => j1 = some r) (fun b => []) (fun b => []) (fun b => []) (fun cut => ?_) ?_
  ·
   refine cut (TC.seq (TC.region (TO.move rfl dc rfl (TO.lenVw hws1x1 rfl dc rfl Tryd.underlying48 (TO.move rfl dc rfl (TO.nil (TX.next (TC.block ?_))))))))
   refine TC.loopD (β := Nat × Int) (fun b => loopG (fun _ => none) (slices_Equal__string_string__s1 s1x1 s2x1 j1) b.1 b.2 = some r) (fun b => []) (fun b => [(0, vs1x1), (1, vs2x1), (12, .int .i64 (s1x1.length : Int)), (13, .int .i64 b.2)]) (fun b => []) (fun b => b.1) (fuel, 0) h rfl (Sbs.cons rfl (Sbs.cons rfl (Sbs.cons rfl (Sbs.cons rfl (Sbs.nil))))) Splits.nil ?_
   rintro ⟨n1, x3⟩ h
   cases n1 with
   | zero => exact noneE h
   | succ n1 =>
    obtain ⟨ag1, hag1⟩ : ∃ ag, ag = loopG (fun _ => none) (slices_Equal__string_string__s1 s1x1 s2x1 j1) n1 := ⟨_, rfl⟩
    have h : slices_Equal__string_string__s1 s1x1 s2x1 j1 ag1 x3 = some r := by rw [hag1]; exact h
    unfold slices_Equal__string_string__s1 at h
    show TC _ _ _ _ _ ([]) _ _ [(0, vs1x1), (1, vs2x1), (12, .int .i64 (s1x1.length : Int)), (13, .int .i64 x3)] []
    refine TC.seq (TC.region (TO.bin rfl dc rfl rfl bin_lss (TO.nil (TX.next (TC.seq ?_)))))
    refine TC.condB rfl (fun hb2 => ?_) (fun hb2 => ?_)
    ·
     have h := condT hb2 h
     refine TC.skip (TX.next (TC.seq (TC.block (TC.seq (TC.region (TO.move rfl dc rfl (TO.assign rfl dc rfl (TO.nil (TX.next (TC.seq ?_))))))))))
     obtain ⟨q1, hq1, h⟩ := andE h
     obtain ⟨q2, hq2, h⟩ := andE h
     refine TC.drawN 8 [(0, 16, vs1x1), (1, 17, .int .i64 x3), (2, 18, .pointer (some ⟨vblk vvs1x1, (ks1x1 + (x3 : Int).toNat) * 1, none⟩)), (3, 19, .string q1), (4, 20, vs2x1), (5, 21, .int .i64 x3), (6, 22, .pointer (some ⟨vblk vvs2x1, (ks2x1 + (x3 : Int).toNat) * 1, none⟩)), (7, 23, .string q2)] mixed kr kr dc (by rfl) kr kr (DrawPre.cons ?_ (DrawPre.cons ?_ (DrawPre.cons ?_ (DrawPre.cons ?_ (DrawPre.cons ?_ (DrawPre.cons ?_ (DrawPre.cons ?_ (DrawPre.cons ?_ DrawPre.nil)))))))) ?_
     ·
      intro D hn hd hcl hu hi
      refine TO.move rfl dc (dl_old (by rfl) rfl) ?_
      exact TX.quiet 0 hu hi rfl
     ·
      intro D hn hd hcl hu hi
      refine TO.move rfl dc (dl_old (by rfl) rfl) ?_
      exact TX.quiet 1 hu hi rfl
     ·
      intro D hn hd hcl hu hi
      refine TO.indexVw hws1x1 hq1 Tryd.underlying48 sz_9 rfl dc (dl_lookup (m := 0) hu rfl (hd 0 dc)) (dl_lookup (m := 1) hu rfl (hd 1 dc)) rfl ?_
      exact TX.quiet 2 hu hi rfl
     ·
      intro D hn hd hcl hu hi
      refine TO.loadRowRd (n := ks1x1 + (x3 : Int).toNat) (j := 0) (i := 0) (q := q1) hrd rfl (by omega) sc_9 rfl dc (dl_lookup (m := 2) hu rfl (hd 2 dc)) (Vw.get hws1x1 hq1) rfl rfl ?_
      exact TX.quiet 3 hu hi rfl
     ·
      intro D hn hd hcl hu hi
      refine TO.move rfl dc (dl_old (by rfl) rfl) ?_
      exact TX.quiet 4 hu hi rfl
     ·
      intro D hn hd hcl hu hi
      refine TO.move rfl dc (dl_old (by rfl) rfl) ?_
      exact TX.quiet 5 hu hi rfl
     ·
      intro D hn hd hcl hu hi
      refine TO.indexVw hws2x1 hq2 Tryd.underlying48 sz_9 rfl dc (dl_lookup (m := 4) hu rfl (hd 4 dc)) (dl_lookup (m := 5) hu rfl (hd 5 dc)) rfl ?_
      exact TX.quiet 6 hu hi rfl
     ·
      intro D hn hd hcl hu hi
      refine TO.loadRowRd (n := ks2x1 + (x3 : Int).toNat) (j := 0) (i := 1) (q := q2) hrd rfl (by omega) sc_9 rfl dc (dl_lookup (m := 6) hu rfl (hd 6 dc)) (Vw.get hws2x1 hq2) rfl rfl ?_
      exact TX.quiet 7 hu hi rfl
     refine TO.bin rfl dc rfl rfl bin_sneq (TO.nil (TX.next ?_))
     refine TC.condB rfl (fun hb3 => ?_) (fun hb3 => ?_)
     ·
      have h := condT hb3 h
      refine TC.seq (TC.region (TO.assign rfl dc rfl (TO.nil (TX.next (TC.ret (TX.blockRet (TX.thenRet (TX.thenRet (TX.blockRet (TX.thenRet ?_))))))))))
      cases h
      exact TX.fin (rs := [.tmp 4]) () (.inl rfl) Tryd.results26 (.cons (.tmp rfl) .nil) rfl Splits.nil
     ·
      have h := condF hb3 h
      refine TC.skip (TX.blockNormal (TX.next (TC.region ?_)))
      obtain ⟨hg1, h⟩ := grdE h
      refine TO.bin rfl dc rfl rfl (bin_add (r := x3 + 1) (IntWalk.i64_in _ hg1)) (TO.move rfl dc rfl (TO.nil ?_))
      subst hag1
      exact TX.againD (n1, x3 + 1) h (Nat.lt_succ_self _) rfl (Sbs.cons rfl (Sbs.cons rfl (Sbs.cons rfl (Sbs.cons rfl (Sbs.nil))))) Splits.nil
    ·
     have h := condF hb2 h
     refine TC.exit (TX.thenExit (TX.thenExit (TX.blockHere ?_)))
     exact TX.meetD () h rfl (Sbs.nil) Splits.nil
  ·
   rintro _ h
   rw [hj1] at h
   show TC _ _ _ _ _ ([]) _ _ [] []
   refine TC.seq (TC.region (TO.assign rfl dc rfl (TO.nil (TX.next (TC.ret ?_)))))
   cases h
   exact TX.fin (rs := [.tmp 4]) () (.inl rfl) Tryd.results26 (.cons (.tmp rfl) .nil) rfl Splits.nil
end Go.Proofs.YtgfkogafkhbgnaaDoor
namespace Go.Proofs.YtgfkogafkhbgnaaDoor
open Go.RowKit Go.Lib
set_option linter.unusedVariables false
set_option linter.unusedSimpArgs false
def law17_PoemCut_v (s1 : ByteArray) (k1 : Int) : Option Bool := andThen (law17_works_v) fun (r1 : Bool) => bcond (!r1) ( some false
) ( andThen (poem_Read_v s1) fun (r2 : ((Option Gpoem_Poem) × Gapi_Spot)) => bcond (!(eq_Gapi_Spot r2.2 (⟨0, 0⟩ : Gapi_Spot))) ( andThen (law17_works_v) fun (r3 : Bool) => some r3
) ( bcond (decide ((k1 : Int) < 0)) ( andThen (law17_works_v) fun (r4 : Bool) => some r4
) ( andThen (r2.1) fun (p1 : Gpoem_Poem) => andThen (poem_Poem_Lines_v p1) fun (r5 : Int) => bcond (decide ((r5 : Int) < k1)) ( andThen (law17_works_v) fun (r6 : Bool) => some r6
) ( andThen (poem_Poem_Cut_v p1 0 k1) fun (r7 : ((Option Gpoem_Poem) × Int)) => andThen (poem_Poem_Lines_v p1) fun (r8 : Int) => andThen (poem_Poem_Cut_v p1 k1 r8) fun (r9 : ((Option Gpoem_Poem) × Int)) => bcond ((r7.2 : Int) != 0) ( andThen (poem_Poem_Print_v p1) fun (r10 : ByteArray) => grd (I64 ((r10.size : Int) + 8)) <| bcond (decide ((65536 : Int) < ((r10.size : Int) + 8))) ( andThen (law17_works_v) fun (r11 : Bool) => some r11
) ( some false
)
) ( bcond ((r9.2 : Int) != 0) ( andThen (poem_Poem_Print_v p1) fun (r12 : ByteArray) => grd (I64 ((r12.size : Int) + 8)) <| bcond (decide ((65536 : Int) < ((r12.size : Int) + 8))) ( andThen (law17_works_v) fun (r13 : Bool) => some r13
) ( some false
)
) ( andThen (r7.1) fun (p2 : Gpoem_Poem) => andThen (r9.1) fun (p3 : Gpoem_Poem) => andThen (poem_Poem_Join_v p2 p3) fun (r14 : ((Option Gpoem_Poem) × Int)) => bcond ((r14.2 : Int) != 0) ( andThen (poem_Poem_Print_v p1) fun (r15 : ByteArray) => grd (I64 ((r15.size : Int) + 8)) <| bcond (decide ((65536 : Int) < ((r15.size : Int) + 8))) ( andThen (law17_works_v) fun (r16 : Bool) => some r16
) ( some false
)
) ( andThen (r14.1) fun (p4 : Gpoem_Poem) => andThen (law17_lines_v p4) fun (r17 : (List ByteArray)) => andThen (law17_lines_v p1) fun (r18 : (List ByteArray)) => andThen (slices_Equal__string_string__v r17 r18) fun (r19 : Bool) => bcond (!r19) ( some false
) ( andThen (poem_Poem_Title_v p4) fun (r20 : ByteArray) => andThen (poem_Poem_Title_v p1) fun (r21 : ByteArray) => bcond (!decide (r20 = r21)) ( some false
) ( andThen (poem_Poem_Lines_v p1) fun (r22 : Int) => bcond ((k1 : Int) == r22) ( andThen (poem_Poem_Same_v p4 p1) fun (r23 : Bool) => bcond (r23) ( andThen (law17_works_v) fun (r24 : Bool) => some r24
) ( some false
)
) ( andThen (poem_Poem_Line_v p1 k1) fun (r25 : (Gapi_Verse × Int)) => bcond ((r25.2 : Int) != 0) ( some false
) ( andThen (poem_Poem_Same_v p4 p1) fun (r26 : Bool) => bcond (r26 != ((r25.1.In : Int) == 0)) ( some false
) ( andThen (law17_lines_v p1) fun (r27 : (List ByteArray)) => andThen (getO r27 k1) fun (q1 : ByteArray) => andThen (poem_Poem_Set_v p1 k1 q1) fun (r28 : ((Option Gpoem_Poem) × Int)) => bcond ((r28.2 : Int) == 0) ( andThen (r28.1) fun (p5 : Gpoem_Poem) => andThen (poem_Poem_Same_v p5 p1) fun (r29 : Bool) => bcond (r29) ( andThen (law17_works_v) fun (r30 : Bool) => some r30
) ( bcond ((r28.2 : Int) == 3) ( andThen (poem_Poem_Print_v p1) fun (r31 : ByteArray) => bcond (decide ((65536 : Int) < (r31.size : Int))) ( andThen (law17_works_v) fun (r32 : Bool) => some r32
) ( some false
)
) ( some false
)
)
) ( bcond ((r28.2 : Int) == 3) ( andThen (poem_Poem_Print_v p1) fun (r33 : ByteArray) => bcond (decide ((65536 : Int) < (r33.size : Int))) ( andThen (law17_works_v) fun (r34 : Bool) => some r34
) ( some false
)
) ( some false
)
)
)
)
)
)
)
)
)
)
)
)
)
)
set_option maxRecDepth 100000 in
set_option maxHeartbeats 4000000 in
theorem law17_PoemCut_fn {s1 : ByteArray} {k1 : Int} {r : Bool} (h : law17_PoemCut_v s1 k1 = some r) : FnP Tryd.prog 6 [.string s1, .int .i64 k1] (.bool r) := by
 unfold law17_PoemCut_v at h
 refine FnP.intro Tryd.func6 rfl Tryd.ntmps6 (by simp) ?_
 intro w0 K
 refine TC.seq (TC.region (TO.assign rfl dc rfl (TO.nil (TX.next (TC.seq (TC.seq (TC.region ?_)))))))
 obtain ⟨r1, hq1, h⟩ := andE h
 refine TO.callP (v := .bool r1) (vs := []) rfl dc rfl rfl rfl en_12 (law17_works_fn hq1) (TO.un rfl dc rfl un_not (TO.nil (TX.next ?_)))
 refine TC.condB rfl (fun hb1 => ?_) (fun hb1 => ?_)
 ·
  have h := condT hb1 h
  refine TC.seq (TC.region (TO.assign rfl dc rfl (TO.nil (TX.next (TC.ret (TX.thenRet ?_))))))
  cases h
  exact TX.fin (rs := [.tmp 4]) () (.inl rfl) Tryd.results6 (.cons (.tmp rfl) .nil) rfl Splits.nil
 ·
  have h := condF hb1 h
  refine TC.skip (TX.next (TC.seq (TC.region (TO.move rfl dc rfl ?_))))
  obtain ⟨r2, hq2, h⟩ := andE h
  refine TO.call (vs := [.string s1]) rfl dc rfl rfl rfl en_13 (poem_Read_fn hq2) Splits.nil ?_
  rintro v1
  show TO _ _ _ _ _ _ _ _ _ _ [pobj encN_Gpoem_Poem nest_Gpoem_Poem 93 v1 r2.1]
  refine TO.weakenL (L' := [pobj encN_Gpoem_Poem nest_Gpoem_Poem 93 v1 r2.1]) (Splits.of [0] kr rfl) (TO.move rfl dc rfl (TO.extract rfl dc rfl rfl (TO.extract rfl dc rfl rfl ?_)))
  refine TO.alloc zr_26 rfl dc (fun b1 => ?_)
  refine TO.assign rfl dc rfl (TO.stores (k := 1) (vs := [.int .i64 r2.2.Err, .int .i64 r2.2.At]) (l' := [.int .i64 r2.2.Err, .int .i64 r2.2.At]) sz_26 rfl rfl rfl rfl rfl (show _ ≤ _ by simp) rfl rfl ?_)
  show TO _ _ _ _ _ _ _ _ _ _ [pobj encN_Gpoem_Poem nest_Gpoem_Poem 93 v1 r2.1, cells b1 [.int .i64 r2.2.Err, .int .i64 r2.2.At] 26]
  refine TO.nil (TX.next (TC.seq (TC.seq (TC.region (TO.loads (k := 1) (cs := [.int .i64 r2.2.Err, .int .i64 r2.2.At]) rw_26 rfl dc rfl rfl rfl rfl ?_)))))
  refine TO.build (v := .agg #[.int .i64 0, .int .i64 0]) (ps := []) rfl dc rfl (fun _ => by kernel_rfl) ?_
  refine TO.bin rfl dc rfl rfl (bin_neq_26 r2.2 (⟨0, 0⟩ : Gapi_Spot)) (TO.move rfl dc rfl ?_)
  refine TO.split (s := 26) rfl (fun hb2 => ?_) (fun hb2 => ?_)
  ·
   have h := condT hb2 h
   refine TO.skip rfl dc (TO.skip rfl dc (TO.pick (b := true) rfl dc rfl rfl (TO.move rfl dc rfl (TO.skip rfl dc (TO.skip rfl dc (TO.skip rfl dc (TO.skip rfl dc (TO.pick (b := true) rfl dc rfl rfl (TO.nil (TX.next (TC.condT rfl (TC.seq (TC.region ?_)))))))))))))
   obtain ⟨r3, hq3, h⟩ := andE h
   refine TO.callP (v := .bool r3) (vs := []) rfl dc rfl rfl rfl en_12 (law17_works_fn hq3) (TO.assign rfl dc rfl (TO.nil (TX.next (TC.ret (TX.thenRet ?_)))))
   cases h
   exact TX.fin (rs := [.tmp 4]) () (.inl rfl) Tryd.results6 (.cons (.tmp rfl) .nil) rfl Splits.nil
  ·
   have h := condF hb2 h
   refine TO.move rfl dc rfl (TO.bin rfl dc rfl rfl bin_lss (TO.pick (b := false) rfl dc rfl rfl (TO.move rfl dc rfl ?_)))
   refine TO.split (s := 30) rfl (fun hb3 => ?_) (fun hb3 => ?_)
   ·
    have h := condT hb3 h
    refine TO.skip rfl dc (TO.skip rfl dc (TO.skip rfl dc (TO.skip rfl dc (TO.pick (b := true) rfl dc rfl rfl (TO.nil (TX.next (TC.condT rfl (TC.seq (TC.region ?_)))))))))
    obtain ⟨r4, hq4, h⟩ := andE h
    refine TO.callP (v := .bool r4) (vs := []) rfl dc rfl rfl rfl en_12 (law17_works_fn hq4) (TO.assign rfl dc rfl (TO.nil (TX.next (TC.ret (TX.thenRet ?_)))))
    cases h
    exact TX.fin (rs := [.tmp 4]) () (.inl rfl) Tryd.results6 (.cons (.tmp rfl) .nil) rfl Splits.nil
   ·
    have h := condF hb3 h
    refine TO.move rfl dc rfl (TO.move rfl dc rfl ?_)
    obtain ⟨p1, hq5, h⟩ := andE h
    refine TO.entl (As := [pobj encN_Gpoem_Poem nest_Gpoem_Poem 93 v1 r2.1]) (Splits.of [0] kr rfl) (Entl.objOpen hq5) ?_
    rintro ⟨b2, hd1, hd2⟩ hv1
    subst hv1
    show TO _ _ _ _ _ _ _ _ _ _ [emp, cells b1 [.int .i64 r2.2.Err, .int .i64 r2.2.At] 26, cells b2 [.string p1.told_title, hd1.v, hd2.v, .string p1.source] 93, vec enc_Gapi_Verse 36 6 hd1.v p1.told_lines, vec enc_Gapi_Span 34 2 hd2.v p1.told_stanzas]
    obtain ⟨r5, hq6, h⟩ := andE h
    refine TO.callPR (v := .int .i64 r5) (vs := [.pointer (some ⟨b2, 0, none⟩)]) (Rd.nil : Rd _ _ []) rfl dc rfl rfl rfl en_21 (poem_Poem_Lines_fn (bp1 := b2) (p1 := p1) (p1_h0 := hd1) (p1_h1 := hd2) hq6) (.own (Splits.of [2] (by kernel_rfl) rfl) (fun _ _ h => sepL.one1.1 h) (.own (Splits.of [3] (by kernel_rfl) rfl) (fun _ _ h => sepL.one1.1 h) (.own (Splits.of [4] (by kernel_rfl) rfl) (fun _ _ h => sepL.one1.1 h) .nil))) ?_
    refine TO.bin rfl dc rfl rfl bin_gtr (TO.pick (b := false) rfl dc rfl rfl (TO.nil (TX.next ?_)))
    refine TC.condB rfl (fun hb4 => ?_) (fun hb4 => ?_)
    ·
     have h := condT hb4 h
     refine TC.seq (TC.region ?_)
     obtain ⟨r6, hq7, h⟩ := andE h
     refine TO.callP (v := .bool r6) (vs := []) rfl dc rfl rfl rfl en_12 (law17_works_fn hq7) (TO.assign rfl dc rfl (TO.nil (TX.next (TC.ret (TX.thenRet ?_)))))
     cases h
     exact TX.fin (rs := [.tmp 4]) () (.inl rfl) Tryd.results6 (.cons (.tmp rfl) .nil) rfl Splits.nil
    ·
     have h := condF hb4 h
     refine TC.skip (TX.next (TC.seq (TC.region (TO.move rfl dc rfl (TO.move rfl dc rfl ?_)))))
     obtain ⟨r7, hq8, h⟩ := andE h
     refine TO.callR (vs := [.pointer (some ⟨b2, 0, none⟩), .int .i64 0, .int .i64 k1]) (Rd.nil : Rd _ _ []) rfl dc rfl rfl rfl en_25 (poem_Poem_Cut_fn (bp1 := b2) (p1 := p1) (p1_h0 := hd1) (p1_h1 := hd2) hq8) Splits.nil (.own (Splits.of [2] (by kernel_rfl) rfl) (fun _ _ h => sepL.one1.1 h) (.own (Splits.of [3] (by kernel_rfl) rfl) (fun _ _ h => sepL.one1.1 h) (.own (Splits.of [4] (by kernel_rfl) rfl) (fun _ _ h => sepL.one1.1 h) .nil))) ?_
     rintro v2
     show TO _ _ _ _ _ _ _ _ _ _ [emp, cells b1 [.int .i64 r2.2.Err, .int .i64 r2.2.At] 26, cells b2 [.string p1.told_title, hd1.v, hd2.v, .string p1.source] 93, vec enc_Gapi_Verse 36 6 hd1.v p1.told_lines, vec enc_Gapi_Span 34 2 hd2.v p1.told_stanzas, pobj encN_Gpoem_Poem nest_Gpoem_Poem 93 v2 r7.1]
     refine TO.weakenL (L' := [emp, cells b1 [.int .i64 r2.2.Err, .int .i64 r2.2.At] 26, cells b2 [.string p1.told_title, hd1.v, hd2.v, .string p1.source] 93, vec enc_Gapi_Verse 36 6 hd1.v p1.told_lines, vec enc_Gapi_Span 34 2 hd2.v p1.told_stanzas, pobj encN_Gpoem_Poem nest_Gpoem_Poem 93 v2 r7.1]) (Splits.of [0, 1, 2, 3, 4, 5] kr rfl) (TO.move rfl dc rfl (TO.extract rfl dc rfl rfl (TO.extract rfl dc rfl rfl (TO.assign rfl dc rfl (TO.assign rfl dc rfl (TO.nil (TX.next (TC.seq (TC.region (TO.move rfl dc rfl (TO.move rfl dc rfl (TO.move rfl dc rfl ?_))))))))))))
     obtain ⟨r8, hq9, h⟩ := andE h
     refine TO.callPR (v := .int .i64 r8) (vs := [.pointer (some ⟨b2, 0, none⟩)]) (Rd.nil : Rd _ _ []) rfl dc rfl rfl rfl en_21 (poem_Poem_Lines_fn (bp1 := b2) (p1 := p1) (p1_h0 := hd1) (p1_h1 := hd2) hq9) (.own (Splits.of [2] (by kernel_rfl) rfl) (fun _ _ h => sepL.one1.1 h) (.own (Splits.of [3] (by kernel_rfl) rfl) (fun _ _ h => sepL.one1.1 h) (.own (Splits.of [4] (by kernel_rfl) rfl) (fun _ _ h => sepL.one1.1 h) .nil))) ?_
     obtain ⟨r9, hq10, h⟩ := andE h
     refine TO.callR (vs := [.pointer (some ⟨b2, 0, none⟩), .int .i64 k1, .int .i64 r8]) (Rd.nil : Rd _ _ []) rfl dc rfl rfl rfl en_25 (poem_Poem_Cut_fn (bp1 := b2) (p1 := p1) (p1_h0 := hd1) (p1_h1 := hd2) hq10) Splits.nil (.own (Splits.of [2] (by kernel_rfl) rfl) (fun _ _ h => sepL.one1.1 h) (.own (Splits.of [3] (by kernel_rfl) rfl) (fun _ _ h => sepL.one1.1 h) (.own (Splits.of [4] (by kernel_rfl) rfl) (fun _ _ h => sepL.one1.1 h) .nil))) ?_
     rintro v3
     show TO _ _ _ _ _ _ _ _ _ _ [emp, cells b1 [.int .i64 r2.2.Err, .int .i64 r2.2.At] 26, cells b2 [.string p1.told_title, hd1.v, hd2.v, .string p1.source] 93, vec enc_Gapi_Verse 36 6 hd1.v p1.told_lines, vec enc_Gapi_Span 34 2 hd2.v p1.told_stanzas, pobj encN_Gpoem_Poem nest_Gpoem_Poem 93 v2 r7.1, pobj encN_Gpoem_Poem nest_Gpoem_Poem 93 v3 r9.1]
     refine TO.weakenL (L' := [emp, cells b1 [.int .i64 r2.2.Err, .int .i64 r2.2.At] 26, cells b2 [.string p1.told_title, hd1.v, hd2.v, .string p1.source] 93, vec enc_Gapi_Verse 36 6 hd1.v p1.told_lines, vec enc_Gapi_Span 34 2 hd2.v p1.told_stanzas, pobj encN_Gpoem_Poem nest_Gpoem_Poem 93 v2 r7.1, pobj encN_Gpoem_Poem nest_Gpoem_Poem 93 v3 r9.1]) (Splits.of [0, 1, 2, 3, 4, 5, 6] kr rfl) (TO.move rfl dc rfl (TO.extract rfl dc rfl rfl (TO.extract rfl dc rfl rfl (TO.assign rfl dc rfl (TO.assign rfl dc rfl (TO.nil (TX.next (TC.seq (TC.seq (TC.region (TO.move rfl dc rfl (TO.bin rfl dc rfl rfl bin_neq (TO.move rfl dc rfl ?_)))))))))))))
     refine TO.split (s := 53) rfl (fun hb5 => ?_) (fun hb5 => ?_)
     ·
      have h := condT hb5 h
      refine TO.skip rfl dc (TO.skip rfl dc (TO.pick (b := true) rfl dc rfl rfl (TO.nil (TX.next (TC.condT rfl (TC.seq (TC.region (TO.move rfl dc rfl ?_))))))))
      obtain ⟨r10, hq11, h⟩ := andE h
      refine TO.callPR (v := .string r10) (vs := [.pointer (some ⟨b2, 0, none⟩)]) (Rd.nil : Rd _ _ []) rfl dc rfl rfl rfl en_18 (poem_Poem_Print_fn (bp1 := b2) (p1 := p1) (p1_h0 := hd1) (p1_h1 := hd2) hq11) (.own (Splits.of [2] (by kernel_rfl) rfl) (fun _ _ h => sepL.one1.1 h) (.own (Splits.of [3] (by kernel_rfl) rfl) (fun _ _ h => sepL.one1.1 h) (.own (Splits.of [4] (by kernel_rfl) rfl) (fun _ _ h => sepL.one1.1 h) .nil))) ?_
      refine TO.lenStr rfl dc rfl Tryd.underlying9 ?_
      obtain ⟨hg1, h⟩ := grdE h
      refine TO.bin rfl dc rfl rfl (bin_add (r := (r10.size : Int) + 8) (IntWalk.i64_in _ hg1)) (TO.bin rfl dc rfl rfl bin_gtr (TO.move rfl dc rfl ?_))
      refine TO.split (s := 62) rfl (fun hb6 => ?_) (fun hb6 => ?_)
      ·
       have h := condT hb6 h
       obtain ⟨r11, hq12, h⟩ := andE h
       refine TO.callP (v := .bool r11) (vs := []) rfl dc rfl rfl rfl en_12 (law17_works_fn hq12) (TO.pick (b := true) rfl dc rfl rfl (TO.assign rfl dc rfl (TO.nil (TX.next (TC.ret (TX.thenRet ?_))))))
       cases h
       exact TX.fin (rs := [.tmp 4]) () (.inl rfl) Tryd.results6 (.cons (.tmp rfl) .nil) rfl Splits.nil
      ·
       have h := condF hb6 h
       refine TO.skip rfl dc (TO.pick (b := false) rfl dc rfl rfl (TO.assign rfl dc rfl (TO.nil (TX.next (TC.ret (TX.thenRet ?_))))))
       cases h
       exact TX.fin (rs := [.tmp 4]) () (.inl rfl) Tryd.results6 (.cons (.tmp rfl) .nil) rfl Splits.nil
     ·
      have h := condF hb5 h
      refine TO.move rfl dc rfl (TO.bin rfl dc rfl rfl bin_neq (TO.pick (b := false) rfl dc rfl rfl (TO.nil (TX.next ?_))))
      refine TC.condB rfl (fun hb7 => ?_) (fun hb7 => ?_)
      ·
       have h := condT hb7 h
       refine TC.seq (TC.region (TO.move rfl dc rfl ?_))
       obtain ⟨r12, hq13, h⟩ := andE h
       refine TO.callPR (v := .string r12) (vs := [.pointer (some ⟨b2, 0, none⟩)]) (Rd.nil : Rd _ _ []) rfl dc rfl rfl rfl en_18 (poem_Poem_Print_fn (bp1 := b2) (p1 := p1) (p1_h0 := hd1) (p1_h1 := hd2) hq13) (.own (Splits.of [2] (by kernel_rfl) rfl) (fun _ _ h => sepL.one1.1 h) (.own (Splits.of [3] (by kernel_rfl) rfl) (fun _ _ h => sepL.one1.1 h) (.own (Splits.of [4] (by kernel_rfl) rfl) (fun _ _ h => sepL.one1.1 h) .nil))) ?_
       refine TO.lenStr rfl dc rfl Tryd.underlying9 ?_
       obtain ⟨hg2, h⟩ := grdE h
       refine TO.bin rfl dc rfl rfl (bin_add (r := (r12.size : Int) + 8) (IntWalk.i64_in _ hg2)) (TO.bin rfl dc rfl rfl bin_gtr (TO.move rfl dc rfl ?_))
       refine TO.split (s := 62) rfl (fun hb8 => ?_) (fun hb8 => ?_)
       ·
        have h := condT hb8 h
        obtain ⟨r13, hq14, h⟩ := andE h
        refine TO.callP (v := .bool r13) (vs := []) rfl dc rfl rfl rfl en_12 (law17_works_fn hq14) (TO.pick (b := true) rfl dc rfl rfl (TO.assign rfl dc rfl (TO.nil (TX.next (TC.ret (TX.thenRet ?_))))))
        cases h
        exact TX.fin (rs := [.tmp 4]) () (.inl rfl) Tryd.results6 (.cons (.tmp rfl) .nil) rfl Splits.nil
       ·
        have h := condF hb8 h
        refine TO.skip rfl dc (TO.pick (b := false) rfl dc rfl rfl (TO.assign rfl dc rfl (TO.nil (TX.next (TC.ret (TX.thenRet ?_))))))
        cases h
        exact TX.fin (rs := [.tmp 4]) () (.inl rfl) Tryd.results6 (.cons (.tmp rfl) .nil) rfl Splits.nil
      ·
       have h := condF hb7 h
       refine TC.skip (TX.next (TC.seq (TC.region (TO.move rfl dc rfl (TO.move rfl dc rfl ?_)))))
       obtain ⟨p2, hq15, h⟩ := andE h
       refine TO.entl (As := [pobj encN_Gpoem_Poem nest_Gpoem_Poem 93 v2 r7.1]) (Splits.of [5] kr rfl) (Entl.objOpen hq15) ?_
       rintro ⟨b3, hd3, hd4⟩ hv2
       subst hv2
       show TO _ _ _ _ _ _ _ _ _ _ [emp, cells b1 [.int .i64 r2.2.Err, .int .i64 r2.2.At] 26, cells b2 [.string p1.told_title, hd1.v, hd2.v, .string p1.source] 93, vec enc_Gapi_Verse 36 6 hd1.v p1.told_lines, vec enc_Gapi_Span 34 2 hd2.v p1.told_stanzas, emp, pobj encN_Gpoem_Poem nest_Gpoem_Poem 93 v3 r9.1, cells b3 [.string p2.told_title, hd3.v, hd4.v, .string p2.source] 93, vec enc_Gapi_Verse 36 6 hd3.v p2.told_lines, vec enc_Gapi_Span 34 2 hd4.v p2.told_stanzas]
       obtain ⟨p3, hq16, h⟩ := andE h
       refine TO.entl (As := [pobj encN_Gpoem_Poem nest_Gpoem_Poem 93 v3 r9.1]) (Splits.of [6] kr rfl) (Entl.objOpen hq16) ?_
       rintro ⟨b4, hd5, hd6⟩ hv3
       subst hv3
       show TO _ _ _ _ _ _ _ _ _ _ [emp, cells b1 [.int .i64 r2.2.Err, .int .i64 r2.2.At] 26, cells b2 [.string p1.told_title, hd1.v, hd2.v, .string p1.source] 93, vec enc_Gapi_Verse 36 6 hd1.v p1.told_lines, vec enc_Gapi_Span 34 2 hd2.v p1.told_stanzas, emp, emp, cells b3 [.string p2.told_title, hd3.v, hd4.v, .string p2.source] 93, vec enc_Gapi_Verse 36 6 hd3.v p2.told_lines, vec enc_Gapi_Span 34 2 hd4.v p2.told_stanzas, cells b4 [.string p3.told_title, hd5.v, hd6.v, .string p3.source] 93, vec enc_Gapi_Verse 36 6 hd5.v p3.told_lines, vec enc_Gapi_Span 34 2 hd6.v p3.told_stanzas]
       obtain ⟨r14, hq17, h⟩ := andE h
       refine TO.callR (vs := [.pointer (some ⟨b3, 0, none⟩), .pointer (some ⟨b4, 0, none⟩)]) (Rd.nil : Rd _ _ []) rfl dc rfl rfl rfl en_22 (poem_Poem_Join_fn (bp1 := b3) (p1 := p2) (p1_h0 := hd3) (p1_h1 := hd4) (bq1 := b4) (q1 := p3) (q1_h0 := hd5) (q1_h1 := hd6) hq17) Splits.nil (.own (Splits.of [7] (by kernel_rfl) rfl) (fun _ _ h => sepL.one1.1 h) (.own (Splits.of [8] (by kernel_rfl) rfl) (fun _ _ h => sepL.one1.1 h) (.own (Splits.of [9] (by kernel_rfl) rfl) (fun _ _ h => sepL.one1.1 h) (.own (Splits.of [10] (by kernel_rfl) rfl) (fun _ _ h => sepL.one1.1 h) (.own (Splits.of [11] (by kernel_rfl) rfl) (fun _ _ h => sepL.one1.1 h) (.own (Splits.of [12] (by kernel_rfl) rfl) (fun _ _ h => sepL.one1.1 h) .nil)))))) ?_
       rintro v4
       show TO _ _ _ _ _ _ _ _ _ _ [emp, cells b1 [.int .i64 r2.2.Err, .int .i64 r2.2.At] 26, cells b2 [.string p1.told_title, hd1.v, hd2.v, .string p1.source] 93, vec enc_Gapi_Verse 36 6 hd1.v p1.told_lines, vec enc_Gapi_Span 34 2 hd2.v p1.told_stanzas, emp, emp, cells b3 [.string p2.told_title, hd3.v, hd4.v, .string p2.source] 93, vec enc_Gapi_Verse 36 6 hd3.v p2.told_lines, vec enc_Gapi_Span 34 2 hd4.v p2.told_stanzas, cells b4 [.string p3.told_title, hd5.v, hd6.v, .string p3.source] 93, vec enc_Gapi_Verse 36 6 hd5.v p3.told_lines, vec enc_Gapi_Span 34 2 hd6.v p3.told_stanzas, pobj encN_Gpoem_Poem nest_Gpoem_Poem 93 v4 r14.1]
       refine TO.weakenL (L' := [emp, cells b1 [.int .i64 r2.2.Err, .int .i64 r2.2.At] 26, cells b2 [.string p1.told_title, hd1.v, hd2.v, .string p1.source] 93, vec enc_Gapi_Verse 36 6 hd1.v p1.told_lines, vec enc_Gapi_Span 34 2 hd2.v p1.told_stanzas, emp, emp, cells b3 [.string p2.told_title, hd3.v, hd4.v, .string p2.source] 93, vec enc_Gapi_Verse 36 6 hd3.v p2.told_lines, vec enc_Gapi_Span 34 2 hd4.v p2.told_stanzas, cells b4 [.string p3.told_title, hd5.v, hd6.v, .string p3.source] 93, vec enc_Gapi_Verse 36 6 hd5.v p3.told_lines, vec enc_Gapi_Span 34 2 hd6.v p3.told_stanzas, pobj encN_Gpoem_Poem nest_Gpoem_Poem 93 v4 r14.1]) (Splits.of [0, 1, 2, 3, 4, 5, 6, 7, 8, 9, 10, 11, 12, 13] kr rfl) (TO.move rfl dc rfl (TO.extract rfl dc rfl rfl (TO.extract rfl dc rfl rfl (TO.assign rfl dc rfl (TO.assign rfl dc rfl (TO.nil (TX.next (TC.seq (TC.seq (TC.region (TO.move rfl dc rfl (TO.bin rfl dc rfl rfl bin_neq (TO.nil ?_)))))))))))))
       refine TX.next ?_
       refine TC.condB rfl (fun hb9 => ?_) (fun hb9 => ?_)
       ·
        have h := condT hb9 h
        refine TC.seq (TC.region (TO.move rfl dc rfl ?_))
        obtain ⟨r15, hq18, h⟩ := andE h
        refine TO.callPR (v := .string r15) (vs := [.pointer (some ⟨b2, 0, none⟩)]) (Rd.nil : Rd _ _ []) rfl dc rfl rfl rfl en_18 (poem_Poem_Print_fn (bp1 := b2) (p1 := p1) (p1_h0 := hd1) (p1_h1 := hd2) hq18) (.own (Splits.of [2] (by kernel_rfl) rfl) (fun _ _ h => sepL.one1.1 h) (.own (Splits.of [3] (by kernel_rfl) rfl) (fun _ _ h => sepL.one1.1 h) (.own (Splits.of [4] (by kernel_rfl) rfl) (fun _ _ h => sepL.one1.1 h) .nil))) ?_
        refine TO.lenStr rfl dc rfl Tryd.underlying9 ?_
        obtain ⟨hg3, h⟩ := grdE h
        refine TO.bin rfl dc rfl rfl (bin_add (r := (r15.size : Int) + 8) (IntWalk.i64_in _ hg3)) (TO.bin rfl dc rfl rfl bin_gtr (TO.move rfl dc rfl ?_))
        refine TO.split (s := 78) rfl (fun hb10 => ?_) (fun hb10 => ?_)
        ·
         have h := condT hb10 h
         obtain ⟨r16, hq19, h⟩ := andE h
         refine TO.callP (v := .bool r16) (vs := []) rfl dc rfl rfl rfl en_12 (law17_works_fn hq19) (TO.pick (b := true) rfl dc rfl rfl (TO.assign rfl dc rfl (TO.nil (TX.next (TC.ret (TX.thenRet ?_))))))
         cases h
         exact TX.fin (rs := [.tmp 4]) () (.inl rfl) Tryd.results6 (.cons (.tmp rfl) .nil) rfl Splits.nil
        ·
         have h := condF hb10 h
         refine TO.skip rfl dc (TO.pick (b := false) rfl dc rfl rfl (TO.assign rfl dc rfl (TO.nil (TX.next (TC.ret (TX.thenRet ?_))))))
         cases h
         exact TX.fin (rs := [.tmp 4]) () (.inl rfl) Tryd.results6 (.cons (.tmp rfl) .nil) rfl Splits.nil
       ·
        have h := condF hb9 h
        refine TC.skip (TX.next (TC.seq (TC.seq (TC.region (TO.move rfl dc rfl ?_)))))
        obtain ⟨p4, hq20, h⟩ := andE h
        refine TO.entl (As := [pobj encN_Gpoem_Poem nest_Gpoem_Poem 93 v4 r14.1]) (Splits.of [13] kr rfl) (Entl.objOpen hq20) ?_
        rintro ⟨b5, hd7, hd8⟩ hv4
        subst hv4
        show TO _ _ _ _ _ _ _ _ _ _ [emp, cells b1 [.int .i64 r2.2.Err, .int .i64 r2.2.At] 26, cells b2 [.string p1.told_title, hd1.v, hd2.v, .string p1.source] 93, vec enc_Gapi_Verse 36 6 hd1.v p1.told_lines, vec enc_Gapi_Span 34 2 hd2.v p1.told_stanzas, emp, emp, cells b3 [.string p2.told_title, hd3.v, hd4.v, .string p2.source] 93, vec enc_Gapi_Verse 36 6 hd3.v p2.told_lines, vec enc_Gapi_Span 34 2 hd4.v p2.told_stanzas, cells b4 [.string p3.told_title, hd5.v, hd6.v, .string p3.source] 93, vec enc_Gapi_Verse 36 6 hd5.v p3.told_lines, vec enc_Gapi_Span 34 2 hd6.v p3.told_stanzas, emp, cells b5 [.string p4.told_title, hd7.v, hd8.v, .string p4.source] 93, vec enc_Gapi_Verse 36 6 hd7.v p4.told_lines, vec enc_Gapi_Span 34 2 hd8.v p4.told_stanzas]
        obtain ⟨r17, hq21, h⟩ := andE h
        refine TO.callR (vs := [.pointer (some ⟨b5, 0, none⟩)]) (Rd.nil : Rd _ _ []) rfl dc rfl rfl rfl en_27 (law17_lines_fn (bp1 := b5) (p1 := p4) (p1_h0 := hd7) (p1_h1 := hd8) hq21) Splits.nil (.own (Splits.of [14] (by kernel_rfl) rfl) (fun _ _ h => sepL.one1.1 h) (.own (Splits.of [15] (by kernel_rfl) rfl) (fun _ _ h => sepL.one1.1 h) (.own (Splits.of [16] (by kernel_rfl) rfl) (fun _ _ h => sepL.one1.1 h) .nil))) ?_
        rintro v5
        show TO _ _ _ _ _ _ _ _ _ _ [emp, cells b1 [.int .i64 r2.2.Err, .int .i64 r2.2.At] 26, cells b2 [.string p1.told_title, hd1.v, hd2.v, .string p1.source] 93, vec enc_Gapi_Verse 36 6 hd1.v p1.told_lines, vec enc_Gapi_Span 34 2 hd2.v p1.told_stanzas, emp, emp, cells b3 [.string p2.told_title, hd3.v, hd4.v, .string p2.source] 93, vec enc_Gapi_Verse 36 6 hd3.v p2.told_lines, vec enc_Gapi_Span 34 2 hd4.v p2.told_stanzas, cells b4 [.string p3.told_title, hd5.v, hd6.v, .string p3.source] 93, vec enc_Gapi_Verse 36 6 hd5.v p3.told_lines, vec enc_Gapi_Span 34 2 hd6.v p3.told_stanzas, emp, cells b5 [.string p4.told_title, hd7.v, hd8.v, .string p4.source] 93, vec enc_Gapi_Verse 36 6 hd7.v p4.told_lines, vec enc_Gapi_Span 34 2 hd8.v p4.told_stanzas, vec encS 9 1 v5 r17]
        refine TO.weakenL (L' := [emp, cells b1 [.int .i64 r2.2.Err, .int .i64 r2.2.At] 26, cells b2 [.string p1.told_title, hd1.v, hd2.v, .string p1.source] 93, vec enc_Gapi_Verse 36 6 hd1.v p1.told_lines, vec enc_Gapi_Span 34 2 hd2.v p1.told_stanzas, emp, emp, cells b3 [.string p2.told_title, hd3.v, hd4.v, .string p2.source] 93, vec enc_Gapi_Verse 36 6 hd3.v p2.told_lines, vec enc_Gapi_Span 34 2 hd4.v p2.told_stanzas, cells b4 [.string p3.told_title, hd5.v, hd6.v, .string p3.source] 93, vec enc_Gapi_Verse 36 6 hd5.v p3.told_lines, vec enc_Gapi_Span 34 2 hd6.v p3.told_stanzas, emp, cells b5 [.string p4.told_title, hd7.v, hd8.v, .string p4.source] 93, vec enc_Gapi_Verse 36 6 hd7.v p4.told_lines, vec enc_Gapi_Span 34 2 hd8.v p4.told_stanzas, vec encS 9 1 v5 r17]) (Splits.of [0, 1, 2, 3, 4, 5, 6, 7, 8, 9, 10, 11, 12, 13, 14, 15, 16, 17] kr rfl) ?_
        refine TO.nameHd (k := 17) rfl (fun hd9 he1 => ?_)
        subst he1
        refine TO.move rfl dc rfl ?_
        obtain ⟨r18, hq22, h⟩ := andE h
        refine TO.callR (vs := [.pointer (some ⟨b2, 0, none⟩)]) (Rd.nil : Rd _ _ []) rfl dc rfl rfl rfl en_27 (law17_lines_fn (bp1 := b2) (p1 := p1) (p1_h0 := hd1) (p1_h1 := hd2) hq22) Splits.nil (.own (Splits.of [2] (by kernel_rfl) rfl) (fun _ _ h => sepL.one1.1 h) (.own (Splits.of [3] (by kernel_rfl) rfl) (fun _ _ h => sepL.one1.1 h) (.own (Splits.of [4] (by kernel_rfl) rfl) (fun _ _ h => sepL.one1.1 h) .nil))) ?_
        rintro v6
        show TO _ _ _ _ _ _ _ _ _ _ [emp, cells b1 [.int .i64 r2.2.Err, .int .i64 r2.2.At] 26, cells b2 [.string p1.told_title, hd1.v, hd2.v, .string p1.source] 93, vec enc_Gapi_Verse 36 6 hd1.v p1.told_lines, vec enc_Gapi_Span 34 2 hd2.v p1.told_stanzas, emp, emp, cells b3 [.string p2.told_title, hd3.v, hd4.v, .string p2.source] 93, vec enc_Gapi_Verse 36 6 hd3.v p2.told_lines, vec enc_Gapi_Span 34 2 hd4.v p2.told_stanzas, cells b4 [.string p3.told_title, hd5.v, hd6.v, .string p3.source] 93, vec enc_Gapi_Verse 36 6 hd5.v p3.told_lines, vec enc_Gapi_Span 34 2 hd6.v p3.told_stanzas, emp, cells b5 [.string p4.told_title, hd7.v, hd8.v, .string p4.source] 93, vec enc_Gapi_Verse 36 6 hd7.v p4.told_lines, vec enc_Gapi_Span 34 2 hd8.v p4.told_stanzas, vec encS 9 1 hd9.v r17, vec encS 9 1 v6 r18]
        refine TO.weakenL (L' := [emp, cells b1 [.int .i64 r2.2.Err, .int .i64 r2.2.At] 26, cells b2 [.string p1.told_title, hd1.v, hd2.v, .string p1.source] 93, vec enc_Gapi_Verse 36 6 hd1.v p1.told_lines, vec enc_Gapi_Span 34 2 hd2.v p1.told_stanzas, emp, emp, cells b3 [.string p2.told_title, hd3.v, hd4.v, .string p2.source] 93, vec enc_Gapi_Verse 36 6 hd3.v p2.told_lines, vec enc_Gapi_Span 34 2 hd4.v p2.told_stanzas, cells b4 [.string p3.told_title, hd5.v, hd6.v, .string p3.source] 93, vec enc_Gapi_Verse 36 6 hd5.v p3.told_lines, vec enc_Gapi_Span 34 2 hd6.v p3.told_stanzas, emp, cells b5 [.string p4.told_title, hd7.v, hd8.v, .string p4.source] 93, vec enc_Gapi_Verse 36 6 hd7.v p4.told_lines, vec enc_Gapi_Span 34 2 hd8.v p4.told_stanzas, vec encS 9 1 hd9.v r17, vec encS 9 1 v6 r18]) (Splits.of [0, 1, 2, 3, 4, 5, 6, 7, 8, 9, 10, 11, 12, 13, 14, 15, 16, 17, 18] kr rfl) ?_
        refine TO.nameHd (k := 18) rfl (fun hd10 he2 => ?_)
        subst he2
        refine TO.vecVw (k := 17) rfl (fun hw1 => ?_)
        refine TO.vecVw (k := 18) rfl (fun hw2 => ?_)
        obtain ⟨r19, hq23, h⟩ := andE h
        refine TO.callPR (v := .bool r19) (vs := [hd9.v, hd10.v]) (Rd.nil : Rd _ _ []) rfl dc rfl rfl rfl en_26 (slices_Equal__string_string__fn hw1 hw2 hq23) (.own (As := [vec encS 9 1 hd9.v r17]) (Splits.of [17] (by kernel_rfl) rfl) (fun _ _ h => roRow_vec encS_len (sepL.one1.1 h)) (.own (As := [vec encS 9 1 hd10.v r18]) (Splits.of [18] (by kernel_rfl) rfl) (fun _ _ h => roRow_vec encS_len (sepL.one1.1 h)) .nil)) ?_
        refine TO.un rfl dc rfl un_not (TO.move rfl dc rfl ?_)
        refine TO.split (s := 87) rfl (fun hb11 => ?_) (fun hb11 => ?_)
        ·
         have h := condT hb11 h
         refine TO.skip rfl dc (TO.skip rfl dc (TO.skip rfl dc (TO.skip rfl dc (TO.skip rfl dc (TO.pick (b := true) rfl dc rfl rfl (TO.nil (TX.next (TC.condT rfl (TC.seq (TC.region (TO.assign rfl dc rfl (TO.nil (TX.next ?_)))))))))))))
         refine TC.ret (TX.thenRet ?_)
         cases h
         exact TX.fin (rs := [.tmp 4]) () (.inl rfl) Tryd.results6 (.cons (.tmp rfl) .nil) rfl Splits.nil
        ·
         have h := condF hb11 h
         refine TO.move rfl dc rfl ?_
         obtain ⟨r20, hq24, h⟩ := andE h
         refine TO.callPR (v := .string r20) (vs := [.pointer (some ⟨b5, 0, none⟩)]) (Rd.nil : Rd _ _ []) rfl dc rfl rfl rfl en_24 (poem_Poem_Title_fn (bp1 := b5) (p1 := p4) (p1_h0 := hd7) (p1_h1 := hd8) hq24) (.own (Splits.of [14] (by kernel_rfl) rfl) (fun _ _ h => sepL.one1.1 h) (.own (Splits.of [15] (by kernel_rfl) rfl) (fun _ _ h => sepL.one1.1 h) (.own (Splits.of [16] (by kernel_rfl) rfl) (fun _ _ h => sepL.one1.1 h) .nil))) ?_
         refine TO.move rfl dc rfl ?_
         obtain ⟨r21, hq25, h⟩ := andE h
         refine TO.callPR (v := .string r21) (vs := [.pointer (some ⟨b2, 0, none⟩)]) (Rd.nil : Rd _ _ []) rfl dc rfl rfl rfl en_24 (poem_Poem_Title_fn (bp1 := b2) (p1 := p1) (p1_h0 := hd1) (p1_h1 := hd2) hq25) (.own (Splits.of [2] (by kernel_rfl) rfl) (fun _ _ h => sepL.one1.1 h) (.own (Splits.of [3] (by kernel_rfl) rfl) (fun _ _ h => sepL.one1.1 h) (.own (Splits.of [4] (by kernel_rfl) rfl) (fun _ _ h => sepL.one1.1 h) .nil))) ?_
         refine TO.bin rfl dc rfl rfl bin_sneq (TO.pick (b := false) rfl dc rfl rfl (TO.nil (TX.next ?_)))
         refine TC.condB rfl (fun hb12 => ?_) (fun hb12 => ?_)
         ·
          have h := condT hb12 h
          refine TC.seq (TC.region (TO.assign rfl dc rfl (TO.nil (TX.next (TC.ret (TX.thenRet ?_))))))
          cases h
          exact TX.fin (rs := [.tmp 4]) () (.inl rfl) Tryd.results6 (.cons (.tmp rfl) .nil) rfl Splits.nil
         ·
          have h := condF hb12 h
          refine TC.skip (TX.next (TC.seq (TC.seq (TC.region (TO.move rfl dc rfl (TO.move rfl dc rfl ?_))))))
          obtain ⟨r22, hq26, h⟩ := andE h
          refine TO.callPR (v := .int .i64 r22) (vs := [.pointer (some ⟨b2, 0, none⟩)]) (Rd.nil : Rd _ _ []) rfl dc rfl rfl rfl en_21 (poem_Poem_Lines_fn (bp1 := b2) (p1 := p1) (p1_h0 := hd1) (p1_h1 := hd2) hq26) (.own (Splits.of [2] (by kernel_rfl) rfl) (fun _ _ h => sepL.one1.1 h) (.own (Splits.of [3] (by kernel_rfl) rfl) (fun _ _ h => sepL.one1.1 h) (.own (Splits.of [4] (by kernel_rfl) rfl) (fun _ _ h => sepL.one1.1 h) .nil))) ?_
          refine TO.bin rfl dc rfl rfl bin_eql (TO.nil (TX.next ?_))
          refine TC.condB rfl (fun hb13 => ?_) (fun hb13 => ?_)
          ·
           have h := condT hb13 h
           refine TC.seq (TC.region (TO.move rfl dc rfl (TO.move rfl dc rfl ?_)))
           obtain ⟨r23, hq27, h⟩ := andE h
           refine TO.callPR (v := .bool r23) (vs := [.pointer (some ⟨b5, 0, none⟩), .pointer (some ⟨b2, 0, none⟩)]) (Rd.nil : Rd _ _ []) rfl dc rfl rfl rfl en_19 (poem_Poem_Same_fn (bp1 := b5) (p1 := p4) (p1_h0 := hd7) (p1_h1 := hd8) (bq1 := b2) (q1 := p1) (q1_h0 := hd1) (q1_h1 := hd2) hq27) (.own (Splits.of [14] (by kernel_rfl) rfl) (fun _ _ h => sepL.one1.1 h) (.own (Splits.of [15] (by kernel_rfl) rfl) (fun _ _ h => sepL.one1.1 h) (.own (Splits.of [16] (by kernel_rfl) rfl) (fun _ _ h => sepL.one1.1 h) (.own (Splits.of [2] (by kernel_rfl) rfl) (fun _ _ h => sepL.one1.1 h) (.own (Splits.of [3] (by kernel_rfl) rfl) (fun _ _ h => sepL.one1.1 h) (.own (Splits.of [4] (by kernel_rfl) rfl) (fun _ _ h => sepL.one1.1 h) .nil)))))) ?_
           refine TO.move rfl dc rfl ?_
           refine TO.split (s := 101) rfl (fun hb14 => ?_) (fun hb14 => ?_)
           ·
            have h := condT hb14 h
            obtain ⟨r24, hq28, h⟩ := andE h
            refine TO.callP (v := .bool r24) (vs := []) rfl dc rfl rfl rfl en_12 (law17_works_fn hq28) (TO.pick (b := true) rfl dc rfl rfl (TO.assign rfl dc rfl (TO.nil (TX.next (TC.ret (TX.thenRet ?_))))))
            cases h
            exact TX.fin (rs := [.tmp 4]) () (.inl rfl) Tryd.results6 (.cons (.tmp rfl) .nil) rfl Splits.nil
           ·
            have h := condF hb14 h
            refine TO.skip rfl dc (TO.pick (b := false) rfl dc rfl rfl (TO.assign rfl dc rfl (TO.nil (TX.next (TC.ret (TX.thenRet ?_))))))
            cases h
            exact TX.fin (rs := [.tmp 4]) () (.inl rfl) Tryd.results6 (.cons (.tmp rfl) .nil) rfl Splits.nil
          ·
           have h := condF hb13 h
           refine TC.skip (TX.next (TC.seq (TC.region (TO.move rfl dc rfl (TO.move rfl dc rfl ?_)))))
           obtain ⟨r25, hq29, h⟩ := andE h
           refine TO.callPR (v := .tuple #[.agg #[.string r25.1.Text, .int .i64 r25.1.Indent, .int .i64 r25.1.Stanza, .int .i64 r25.1.In, .int .i64 r25.1.Span_From, .int .i64 r25.1.Span_To], .int .i64 r25.2]) (vs := [.pointer (some ⟨b2, 0, none⟩), .int .i64 k1]) (Rd.nil : Rd _ _ []) rfl dc rfl rfl rfl en_28 (poem_Poem_Line_fn (bp1 := b2) (p1 := p1) (p1_h0 := hd1) (p1_h1 := hd2) hq29) (.own (Splits.of [2] (by kernel_rfl) rfl) (fun _ _ h => sepL.one1.1 h) (.own (Splits.of [3] (by kernel_rfl) rfl) (fun _ _ h => sepL.one1.1 h) (.own (Splits.of [4] (by kernel_rfl) rfl) (fun _ _ h => sepL.one1.1 h) .nil))) ?_
           refine TO.move rfl dc rfl (TO.extract rfl dc rfl rfl (TO.extract rfl dc rfl rfl ?_))
           refine TO.alloc zr_36 rfl dc (fun b6 => ?_)
           refine TO.stores (k := 19) (vs := [.string r25.1.Text, .int .i64 r25.1.Indent, .int .i64 r25.1.Stanza, .int .i64 r25.1.In, .int .i64 r25.1.Span_From, .int .i64 r25.1.Span_To]) (l' := [.string r25.1.Text, .int .i64 r25.1.Indent, .int .i64 r25.1.Stanza, .int .i64 r25.1.In, .int .i64 r25.1.Span_From, .int .i64 r25.1.Span_To]) sz_36 rfl rfl rfl rfl rfl (show _ ≤ _ by simp) rfl rfl ?_
           show TO _ _ _ _ _ _ _ _ _ _ [emp, cells b1 [.int .i64 r2.2.Err, .int .i64 r2.2.At] 26, cells b2 [.string p1.told_title, hd1.v, hd2.v, .string p1.source] 93, vec enc_Gapi_Verse 36 6 hd1.v p1.told_lines, vec enc_Gapi_Span 34 2 hd2.v p1.told_stanzas, emp, emp, cells b3 [.string p2.told_title, hd3.v, hd4.v, .string p2.source] 93, vec enc_Gapi_Verse 36 6 hd3.v p2.told_lines, vec enc_Gapi_Span 34 2 hd4.v p2.told_stanzas, cells b4 [.string p3.told_title, hd5.v, hd6.v, .string p3.source] 93, vec enc_Gapi_Verse 36 6 hd5.v p3.told_lines, vec enc_Gapi_Span 34 2 hd6.v p3.told_stanzas, emp, cells b5 [.string p4.told_title, hd7.v, hd8.v, .string p4.source] 93, vec enc_Gapi_Verse 36 6 hd7.v p4.told_lines, vec enc_Gapi_Span 34 2 hd8.v p4.told_stanzas, vec encS 9 1 hd9.v r17, vec encS 9 1 hd10.v r18, cells b6 [.string r25.1.Text, .int .i64 r25.1.Indent, .int .i64 r25.1.Stanza, .int .i64 r25.1.In, .int .i64 r25.1.Span_From, .int .i64 r25.1.Span_To] 36]
           refine TO.assign rfl dc rfl (TO.nil (TX.next (TC.seq (TC.seq ?_))))
           refine TC.bySplit (b := (r25.2 : Int) != 0) (fun hb15 => ?_) (fun hb15 => ?_)
           ·
            have h := condT hb15 h
            refine TC.drawN 9 [(0, 110, .int .i64 r25.2), (1, 111, .bool true), (2, 112, .bool true), (3, 113, undef), (4, 114, undef), (5, 115, undef), (6, 116, undef), (7, 117, undef), (8, 118, undef)] mixed kr kr dc (by rfl) kr kr (DrawPre.cons ?_ (DrawPre.cons ?_ (DrawPre.cons ?_ (DrawPre.cons ?_ (DrawPre.cons ?_ (DrawPre.cons ?_ (DrawPre.cons ?_ (DrawPre.cons ?_ (DrawPre.cons ?_ DrawPre.nil))))))))) ?_
            ·
             intro D hn hd hcl hu hi
             refine TO.move rfl dc (dl_old (by rfl) rfl) ?_
             exact TX.quiet 0 hu hi rfl
            ·
             intro D hn hd hcl hu hi
             refine TO.bin rfl dc (dl_lookup (m := 0) hu rfl (hd 0 dc)) rfl bin_neq (TO.rewH (show Value.bool ((r25.2 : Int) != 0) = Value.bool true from congrArg Value.bool hb15) ?_)
             exact TX.quiet 1 hu hi rfl
            ·
             intro D hn hd hcl hu hi
             refine TO.move rfl dc (dl_lookup (m := 1) hu rfl (hd 1 dc)) ?_
             exact TX.quiet 2 hu hi rfl
            ·
             intro D hn hd hcl hu hi
             refine TO.skip (gd_F rfl (dl_lookup (m := 2) hu rfl (hd 2 dc))) dc ?_
             exact TX.quiet 3 hu hi rfl
            ·
             intro D hn hd hcl hu hi
             refine TO.skip (gd_F rfl (dl_lookup (m := 2) hu rfl (hd 2 dc))) dc ?_
             exact TX.quiet 4 hu hi rfl
            ·
             intro D hn hd hcl hu hi
             refine TO.skip (gd_F rfl (dl_lookup (m := 2) hu rfl (hd 2 dc))) dc ?_
             exact TX.quiet 5 hu hi rfl
            ·
             intro D hn hd hcl hu hi
             refine TO.skip (gd_F rfl (dl_lookup (m := 2) hu rfl (hd 2 dc))) dc ?_
             exact TX.quiet 6 hu hi rfl
            ·
             intro D hn hd hcl hu hi
             refine TO.skip (gd_F rfl (dl_lookup (m := 2) hu rfl (hd 2 dc))) dc ?_
             exact TX.quiet 7 hu hi rfl
            ·
             intro D hn hd hcl hu hi
             refine TO.skip (gd_F rfl (dl_lookup (m := 2) hu rfl (hd 2 dc))) dc ?_
             exact TX.quiet 8 hu hi rfl
            refine TO.skip rfl dc (TO.pick (b := true) rfl dc rfl rfl (TO.nil (TX.next (TC.condT rfl (TC.seq (TC.region (TO.assign rfl dc rfl (TO.nil (TX.next (TC.ret (TX.thenRet ?_)))))))))))
            cases h
            exact TX.fin (rs := [.tmp 4]) () (.inl rfl) Tryd.results6 (.cons (.tmp rfl) .nil) rfl Splits.nil
           ·
            have h := condF hb15 h
            obtain ⟨r26, hq30, h⟩ := andE h
            refine TC.drawN 9 [(0, 110, .int .i64 r25.2), (1, 111, .bool false), (2, 112, .bool false), (3, 113, .pointer (some ⟨b5, 0, none⟩)), (4, 114, .pointer (some ⟨b2, 0, none⟩)), (5, 115, .bool r26), (6, 116, .pointer (some ⟨b6, 3, none⟩)), (7, 117, .int .i64 r25.1.In), (8, 118, .bool ((r25.1.In : Int) == 0))] mixed kr kr dc (by rfl) kr kr (DrawPre.cons ?_ (DrawPre.cons ?_ (DrawPre.cons ?_ (DrawPre.cons ?_ (DrawPre.cons ?_ (DrawPre.cons ?_ (DrawPre.cons ?_ (DrawPre.cons ?_ (DrawPre.cons ?_ DrawPre.nil))))))))) ?_
            ·
             intro D hn hd hcl hu hi
             refine TO.move rfl dc (dl_old (by rfl) rfl) ?_
             exact TX.quiet 0 hu hi rfl
            ·
             intro D hn hd hcl hu hi
             refine TO.bin rfl dc (dl_lookup (m := 0) hu rfl (hd 0 dc)) rfl bin_neq (TO.rewH (show Value.bool ((r25.2 : Int) != 0) = Value.bool false from congrArg Value.bool hb15) ?_)
             exact TX.quiet 1 hu hi rfl
            ·
             intro D hn hd hcl hu hi
             refine TO.move rfl dc (dl_lookup (m := 1) hu rfl (hd 1 dc)) ?_
             exact TX.quiet 2 hu hi rfl
            ·
             intro D hn hd hcl hu hi
             refine TO.move (gd_T rfl (dl_lookup (m := 2) hu rfl (hd 2 dc))) dc (dl_old (by rfl) rfl) ?_
             exact TX.quiet 3 hu hi rfl
            ·
             intro D hn hd hcl hu hi
             refine TO.move (gd_T rfl (dl_lookup (m := 2) hu rfl (hd 2 dc))) dc (dl_old (by rfl) rfl) ?_
             exact TX.quiet 4 hu hi rfl
            ·
             intro D hn hd hcl hu hi
             refine TO.callPR (v := .bool r26) (vs := [.pointer (some ⟨b5, 0, none⟩), .pointer (some ⟨b2, 0, none⟩)]) (Rd.nil : Rd _ _ []) (gd_T rfl (dl_lookup (m := 2) hu rfl (hd 2 dc))) dc rfl (evL.cons (dl_lookup (m := 3) hu rfl (hd 3 dc)) (evL.cons (dl_lookup (m := 4) hu rfl (hd 4 dc)) evL.nil)) rfl en_19 (poem_Poem_Same_fn (bp1 := b5) (p1 := p4) (p1_h0 := hd7) (p1_h1 := hd8) (bq1 := b2) (q1 := p1) (q1_h0 := hd1) (q1_h1 := hd2) hq30) (.own (Splits.of [14] (by kernel_rfl) rfl) (fun _ _ h => sepL.one1.1 h) (.own (Splits.of [15] (by kernel_rfl) rfl) (fun _ _ h => sepL.one1.1 h) (.own (Splits.of [16] (by kernel_rfl) rfl) (fun _ _ h => sepL.one1.1 h) (.own (Splits.of [2] (by kernel_rfl) rfl) (fun _ _ h => sepL.one1.1 h) (.own (Splits.of [3] (by kernel_rfl) rfl) (fun _ _ h => sepL.one1.1 h) (.own (Splits.of [4] (by kernel_rfl) rfl) (fun _ _ h => sepL.one1.1 h) .nil)))))) ?_
             exact TX.quiet 5 hu hi rfl
            ·
             intro D hn hd hcl hu hi
             refine TO.fieldAddr fl_36_3 (gd_T rfl (dl_lookup (m := 2) hu rfl (hd 2 dc))) dc (dl_old (by rfl) rfl) (show _ = 3 from rfl) ?_
             exact TX.quiet 6 hu hi rfl
            ·
             intro D hn hd hcl hu hi
             refine TO.load (k := 19) sc_3 (gd_T rfl (dl_lookup (m := 2) hu rfl (hd 2 dc))) dc (dl_lookup (m := 6) hu rfl (hd 6 dc)) rfl rfl ?_
             exact TX.quiet 7 hu hi rfl
            ·
             intro D hn hd hcl hu hi
             refine TO.bin (gd_T rfl (dl_lookup (m := 2) hu rfl (hd 2 dc))) dc (dl_lookup (m := 7) hu rfl (hd 7 dc)) rfl bin_eql ?_
             exact TX.quiet 8 hu hi rfl
            refine TO.bin rfl dc rfl rfl (bin_boolneq Tryd.underlying4) (TO.pick (b := false) rfl dc rfl rfl (TO.nil (TX.next ?_)))
            refine TC.condB rfl (fun hb16 => ?_) (fun hb16 => ?_)
            ·
             have h := condT hb16 h
             refine TC.seq (TC.region (TO.assign rfl dc rfl (TO.nil (TX.next (TC.ret (TX.thenRet ?_))))))
             cases h
             exact TX.fin (rs := [.tmp 4]) () (.inl rfl) Tryd.results6 (.cons (.tmp rfl) .nil) rfl Splits.nil
            ·
             have h := condF hb16 h
             refine TC.skip (TX.next (TC.seq (TC.region (TO.move rfl dc rfl (TO.move rfl dc rfl (TO.move rfl dc rfl ?_))))))
             obtain ⟨r27, hq31, h⟩ := andE h
             refine TO.callR (vs := [.pointer (some ⟨b2, 0, none⟩)]) (Rd.nil : Rd _ _ []) rfl dc rfl rfl rfl en_27 (law17_lines_fn (bp1 := b2) (p1 := p1) (p1_h0 := hd1) (p1_h1 := hd2) hq31) Splits.nil (.own (Splits.of [2] (by kernel_rfl) rfl) (fun _ _ h => sepL.one1.1 h) (.own (Splits.of [3] (by kernel_rfl) rfl) (fun _ _ h => sepL.one1.1 h) (.own (Splits.of [4] (by kernel_rfl) rfl) (fun _ _ h => sepL.one1.1 h) .nil))) ?_
             rintro v7
             show TO _ _ _ _ _ _ _ _ _ _ [emp, cells b1 [.int .i64 r2.2.Err, .int .i64 r2.2.At] 26, cells b2 [.string p1.told_title, hd1.v, hd2.v, .string p1.source] 93, vec enc_Gapi_Verse 36 6 hd1.v p1.told_lines, vec enc_Gapi_Span 34 2 hd2.v p1.told_stanzas, emp, emp, cells b3 [.string p2.told_title, hd3.v, hd4.v, .string p2.source] 93, vec enc_Gapi_Verse 36 6 hd3.v p2.told_lines, vec enc_Gapi_Span 34 2 hd4.v p2.told_stanzas, cells b4 [.string p3.told_title, hd5.v, hd6.v, .string p3.source] 93, vec enc_Gapi_Verse 36 6 hd5.v p3.told_lines, vec enc_Gapi_Span 34 2 hd6.v p3.told_stanzas, emp, cells b5 [.string p4.told_title, hd7.v, hd8.v, .string p4.source] 93, vec enc_Gapi_Verse 36 6 hd7.v p4.told_lines, vec enc_Gapi_Span 34 2 hd8.v p4.told_stanzas, vec encS 9 1 hd9.v r17, vec encS 9 1 hd10.v r18, cells b6 [.string r25.1.Text, .int .i64 r25.1.Indent, .int .i64 r25.1.Stanza, .int .i64 r25.1.In, .int .i64 r25.1.Span_From, .int .i64 r25.1.Span_To] 36, vec encS 9 1 v7 r27]
             refine TO.weakenL (L' := [emp, cells b1 [.int .i64 r2.2.Err, .int .i64 r2.2.At] 26, cells b2 [.string p1.told_title, hd1.v, hd2.v, .string p1.source] 93, vec enc_Gapi_Verse 36 6 hd1.v p1.told_lines, vec enc_Gapi_Span 34 2 hd2.v p1.told_stanzas, emp, emp, cells b3 [.string p2.told_title, hd3.v, hd4.v, .string p2.source] 93, vec enc_Gapi_Verse 36 6 hd3.v p2.told_lines, vec enc_Gapi_Span 34 2 hd4.v p2.told_stanzas, cells b4 [.string p3.told_title, hd5.v, hd6.v, .string p3.source] 93, vec enc_Gapi_Verse 36 6 hd5.v p3.told_lines, vec enc_Gapi_Span 34 2 hd6.v p3.told_stanzas, emp, cells b5 [.string p4.told_title, hd7.v, hd8.v, .string p4.source] 93, vec enc_Gapi_Verse 36 6 hd7.v p4.told_lines, vec enc_Gapi_Span 34 2 hd8.v p4.told_stanzas, vec encS 9 1 hd9.v r17, vec encS 9 1 hd10.v r18, cells b6 [.string r25.1.Text, .int .i64 r25.1.Indent, .int .i64 r25.1.Stanza, .int .i64 r25.1.In, .int .i64 r25.1.Span_From, .int .i64 r25.1.Span_To] 36, vec encS 9 1 v7 r27]) (Splits.of [0, 1, 2, 3, 4, 5, 6, 7, 8, 9, 10, 11, 12, 13, 14, 15, 16, 17, 18, 19, 20] kr rfl) ?_
             refine TO.nameHd (k := 20) rfl (fun hd11 he3 => ?_)
             subst he3
             refine TO.move rfl dc rfl ?_
             obtain ⟨q1, hq32, h⟩ := andE h
             refine TO.indexVecI (k := 20) hq32 Tryd.underlying48 sz_9 rfl dc rfl rfl rfl rfl (TO.loadVec (i := (k1 : Int).toNat) (j := 0) (k := 20) (q := q1) sc_9 encS_len rfl dc rfl rfl (getO_get hq32) rfl dc rfl ?_)
             obtain ⟨r28, hq33, h⟩ := andE h
             refine TO.callR (vs := [.pointer (some ⟨b2, 0, none⟩), .int .i64 k1, .string q1]) (Rd.nil : Rd _ _ []) rfl dc rfl rfl rfl en_29 (poem_Poem_Set_fn (bp1 := b2) (p1 := p1) (p1_h0 := hd1) (p1_h1 := hd2) hq33) Splits.nil (.own (Splits.of [2] (by kernel_rfl) rfl) (fun _ _ h => sepL.one1.1 h) (.own (Splits.of [3] (by kernel_rfl) rfl) (fun _ _ h => sepL.one1.1 h) (.own (Splits.of [4] (by kernel_rfl) rfl) (fun _ _ h => sepL.one1.1 h) .nil))) ?_
             rintro v8
             show TO _ _ _ _ _ _ _ _ _ _ [emp, cells b1 [.int .i64 r2.2.Err, .int .i64 r2.2.At] 26, cells b2 [.string p1.told_title, hd1.v, hd2.v, .string p1.source] 93, vec enc_Gapi_Verse 36 6 hd1.v p1.told_lines, vec enc_Gapi_Span 34 2 hd2.v p1.told_stanzas, emp, emp, cells b3 [.string p2.told_title, hd3.v, hd4.v, .string p2.source] 93, vec enc_Gapi_Verse 36 6 hd3.v p2.told_lines, vec enc_Gapi_Span 34 2 hd4.v p2.told_stanzas, cells b4 [.string p3.told_title, hd5.v, hd6.v, .string p3.source] 93, vec enc_Gapi_Verse 36 6 hd5.v p3.told_lines, vec enc_Gapi_Span 34 2 hd6.v p3.told_stanzas, emp, cells b5 [.string p4.told_title, hd7.v, hd8.v, .string p4.source] 93, vec enc_Gapi_Verse 36 6 hd7.v p4.told_lines, vec enc_Gapi_Span 34 2 hd8.v p4.told_stanzas, vec encS 9 1 hd9.v r17, vec encS 9 1 hd10.v r18, cells b6 [.string r25.1.Text, .int .i64 r25.1.Indent, .int .i64 r25.1.Stanza, .int .i64 r25.1.In, .int .i64 r25.1.Span_From, .int .i64 r25.1.Span_To] 36, vec encS 9 1 hd11.v r27, pobj encN_Gpoem_Poem nest_Gpoem_Poem 93 v8 r28.1]
             refine TO.weakenL (L' := [emp, cells b1 [.int .i64 r2.2.Err, .int .i64 r2.2.At] 26, cells b2 [.string p1.told_title, hd1.v, hd2.v, .string p1.source] 93, vec enc_Gapi_Verse 36 6 hd1.v p1.told_lines, vec enc_Gapi_Span 34 2 hd2.v p1.told_stanzas, emp, emp, cells b3 [.string p2.told_title, hd3.v, hd4.v, .string p2.source] 93, vec enc_Gapi_Verse 36 6 hd3.v p2.told_lines, vec enc_Gapi_Span 34 2 hd4.v p2.told_stanzas, cells b4 [.string p3.told_title, hd5.v, hd6.v, .string p3.source] 93, vec enc_Gapi_Verse 36 6 hd5.v p3.told_lines, vec enc_Gapi_Span 34 2 hd6.v p3.told_stanzas, emp, cells b5 [.string p4.told_title, hd7.v, hd8.v, .string p4.source] 93, vec enc_Gapi_Verse 36 6 hd7.v p4.told_lines, vec enc_Gapi_Span 34 2 hd8.v p4.told_stanzas, vec encS 9 1 hd9.v r17, vec encS 9 1 hd10.v r18, cells b6 [.string r25.1.Text, .int .i64 r25.1.Indent, .int .i64 r25.1.Stanza, .int .i64 r25.1.In, .int .i64 r25.1.Span_From, .int .i64 r25.1.Span_To] 36, vec encS 9 1 hd11.v r27, pobj encN_Gpoem_Poem nest_Gpoem_Poem 93 v8 r28.1]) (Splits.of [0, 1, 2, 3, 4, 5, 6, 7, 8, 9, 10, 11, 12, 13, 14, 15, 16, 17, 18, 19, 20, 21] kr rfl) (TO.move rfl dc rfl (TO.extract rfl dc rfl rfl (TO.extract rfl dc rfl rfl (TO.assign rfl dc rfl (TO.assign rfl dc rfl (TO.nil (TX.next (TC.seq (TC.region (TO.move rfl dc rfl (TO.bin rfl dc rfl rfl bin_eql (TO.move rfl dc rfl ?_))))))))))))
             refine TO.split (s := 134) rfl (fun hb17 => ?_) (fun hb17 => ?_)
             ·
              have h := condT hb17 h
              refine TO.move rfl dc rfl (TO.move rfl dc rfl ?_)
              obtain ⟨p5, hq34, h⟩ := andE h
              refine TO.entl (As := [pobj encN_Gpoem_Poem nest_Gpoem_Poem 93 v8 r28.1]) (Splits.of [21] kr rfl) (Entl.objOpen hq34) ?_
              rintro ⟨b7, hd12, hd13⟩ hv5
              subst hv5
              show TO _ _ _ _ _ _ _ _ _ _ [emp, cells b1 [.int .i64 r2.2.Err, .int .i64 r2.2.At] 26, cells b2 [.string p1.told_title, hd1.v, hd2.v, .string p1.source] 93, vec enc_Gapi_Verse 36 6 hd1.v p1.told_lines, vec enc_Gapi_Span 34 2 hd2.v p1.told_stanzas, emp, emp, cells b3 [.string p2.told_title, hd3.v, hd4.v, .string p2.source] 93, vec enc_Gapi_Verse 36 6 hd3.v p2.told_lines, vec enc_Gapi_Span 34 2 hd4.v p2.told_stanzas, cells b4 [.string p3.told_title, hd5.v, hd6.v, .string p3.source] 93, vec enc_Gapi_Verse 36 6 hd5.v p3.told_lines, vec enc_Gapi_Span 34 2 hd6.v p3.told_stanzas, emp, cells b5 [.string p4.told_title, hd7.v, hd8.v, .string p4.source] 93, vec enc_Gapi_Verse 36 6 hd7.v p4.told_lines, vec enc_Gapi_Span 34 2 hd8.v p4.told_stanzas, vec encS 9 1 hd9.v r17, vec encS 9 1 hd10.v r18, cells b6 [.string r25.1.Text, .int .i64 r25.1.Indent, .int .i64 r25.1.Stanza, .int .i64 r25.1.In, .int .i64 r25.1.Span_From, .int .i64 r25.1.Span_To] 36, vec encS 9 1 hd11.v r27, emp, cells b7 [.string p5.told_title, hd12.v, hd13.v, .string p5.source] 93, vec enc_Gapi_Verse 36 6 hd12.v p5.told_lines, vec enc_Gapi_Span 34 2 hd13.v p5.told_stanzas]
              obtain ⟨r29, hq35, h⟩ := andE h
              refine TO.callPR (v := .bool r29) (vs := [.pointer (some ⟨b7, 0, none⟩), .pointer (some ⟨b2, 0, none⟩)]) (Rd.nil : Rd _ _ []) rfl dc rfl rfl rfl en_19 (poem_Poem_Same_fn (bp1 := b7) (p1 := p5) (p1_h0 := hd12) (p1_h1 := hd13) (bq1 := b2) (q1 := p1) (q1_h0 := hd1) (q1_h1 := hd2) hq35) (.own (Splits.of [22] (by kernel_rfl) rfl) (fun _ _ h => sepL.one1.1 h) (.own (Splits.of [23] (by kernel_rfl) rfl) (fun _ _ h => sepL.one1.1 h) (.own (Splits.of [24] (by kernel_rfl) rfl) (fun _ _ h => sepL.one1.1 h) (.own (Splits.of [2] (by kernel_rfl) rfl) (fun _ _ h => sepL.one1.1 h) (.own (Splits.of [3] (by kernel_rfl) rfl) (fun _ _ h => sepL.one1.1 h) (.own (Splits.of [4] (by kernel_rfl) rfl) (fun _ _ h => sepL.one1.1 h) .nil)))))) ?_
              refine TO.pick (b := true) rfl dc rfl rfl (TO.move rfl dc rfl ?_)
              refine TO.split (s := 139) rfl (fun hb18 => ?_) (fun hb18 => ?_)
              ·
               have h := condT hb18 h
               refine TO.skip rfl dc (TO.skip rfl dc (TO.skip rfl dc (TO.skip rfl dc (TO.skip rfl dc (TO.skip rfl dc (TO.skip rfl dc (TO.skip rfl dc (TO.pick (b := true) rfl dc rfl rfl (TO.move rfl dc rfl ?_)))))))))
               obtain ⟨r30, hq36, h⟩ := andE h
               refine TO.callP (v := .bool r30) (vs := []) rfl dc rfl rfl rfl en_12 (law17_works_fn hq36) (TO.pick (b := true) rfl dc rfl rfl (TO.assign rfl dc rfl (TO.nil (TX.next (TC.ret ?_)))))
               cases h
               exact TX.fin (rs := [.tmp 4]) () (.inl rfl) Tryd.results6 (.cons (.tmp rfl) .nil) rfl Splits.nil
              ·
               have h := condF hb18 h
               refine TO.move rfl dc rfl (TO.bin rfl dc rfl rfl bin_eql (TO.move rfl dc rfl ?_))
               refine TO.split (s := 142) rfl (fun hb19 => ?_) (fun hb19 => ?_)
               ·
                have h := condT hb19 h
                refine TO.move rfl dc rfl ?_
                obtain ⟨r31, hq37, h⟩ := andE h
                refine TO.callPR (v := .string r31) (vs := [.pointer (some ⟨b2, 0, none⟩)]) (Rd.nil : Rd _ _ []) rfl dc rfl rfl rfl en_18 (poem_Poem_Print_fn (bp1 := b2) (p1 := p1) (p1_h0 := hd1) (p1_h1 := hd2) hq37) (.own (Splits.of [2] (by kernel_rfl) rfl) (fun _ _ h => sepL.one1.1 h) (.own (Splits.of [3] (by kernel_rfl) rfl) (fun _ _ h => sepL.one1.1 h) (.own (Splits.of [4] (by kernel_rfl) rfl) (fun _ _ h => sepL.one1.1 h) .nil))) ?_
                refine TO.lenStr rfl dc rfl Tryd.underlying9 (TO.bin rfl dc rfl rfl bin_gtr (TO.pick (b := true) rfl dc rfl rfl (TO.pick (b := false) rfl dc rfl rfl (TO.move rfl dc rfl ?_))))
                refine TO.split (s := 149) rfl (fun hb20 => ?_) (fun hb20 => ?_)
                ·
                 have h := condT hb20 h
                 obtain ⟨r32, hq38, h⟩ := andE h
                 refine TO.callP (v := .bool r32) (vs := []) rfl dc rfl rfl rfl en_12 (law17_works_fn hq38) (TO.pick (b := true) rfl dc rfl rfl (TO.assign rfl dc rfl (TO.nil (TX.next (TC.ret ?_)))))
                 cases h
                 exact TX.fin (rs := [.tmp 4]) () (.inl rfl) Tryd.results6 (.cons (.tmp rfl) .nil) rfl Splits.nil
                ·
                 have h := condF hb20 h
                 refine TO.skip rfl dc (TO.pick (b := false) rfl dc rfl rfl (TO.assign rfl dc rfl (TO.nil (TX.next (TC.ret ?_)))))
                 cases h
                 exact TX.fin (rs := [.tmp 4]) () (.inl rfl) Tryd.results6 (.cons (.tmp rfl) .nil) rfl Splits.nil
               ·
                have h := condF hb19 h
                refine TO.skip rfl dc (TO.skip rfl dc (TO.skip rfl dc (TO.skip rfl dc (TO.pick (b := false) rfl dc rfl rfl (TO.pick (b := false) rfl dc rfl rfl (TO.move rfl dc rfl (TO.skip rfl dc (TO.pick (b := false) rfl dc rfl rfl (TO.assign rfl dc rfl (TO.nil (TX.next (TC.ret ?_))))))))))))
                cases h
                exact TX.fin (rs := [.tmp 4]) () (.inl rfl) Tryd.results6 (.cons (.tmp rfl) .nil) rfl Splits.nil
             ·
              have h := condF hb17 h
              refine TO.skip rfl dc (TO.skip rfl dc (TO.skip rfl dc (TO.pick (b := false) rfl dc rfl rfl (TO.move rfl dc rfl (TO.move rfl dc rfl (TO.bin rfl dc rfl rfl bin_eql (TO.move rfl dc rfl ?_)))))))
              refine TO.split (s := 142) rfl (fun hb21 => ?_) (fun hb21 => ?_)
              ·
               have h := condT hb21 h
               refine TO.move rfl dc rfl ?_
               obtain ⟨r33, hq39, h⟩ := andE h
               refine TO.callPR (v := .string r33) (vs := [.pointer (some ⟨b2, 0, none⟩)]) (Rd.nil : Rd _ _ []) rfl dc rfl rfl rfl en_18 (poem_Poem_Print_fn (bp1 := b2) (p1 := p1) (p1_h0 := hd1) (p1_h1 := hd2) hq39) (.own (Splits.of [2] (by kernel_rfl) rfl) (fun _ _ h => sepL.one1.1 h) (.own (Splits.of [3] (by kernel_rfl) rfl) (fun _ _ h => sepL.one1.1 h) (.own (Splits.of [4] (by kernel_rfl) rfl) (fun _ _ h => sepL.one1.1 h) .nil))) ?_
               refine TO.lenStr rfl dc rfl Tryd.underlying9 (TO.bin rfl dc rfl rfl bin_gtr (TO.pick (b := true) rfl dc rfl rfl (TO.pick (b := false) rfl dc rfl rfl (TO.move rfl dc rfl ?_))))
               refine TO.split (s := 149) rfl (fun hb22 => ?_) (fun hb22 => ?_)
               ·
                have h := condT hb22 h
                obtain ⟨r34, hq40, h⟩ := andE h
                refine TO.callP (v := .bool r34) (vs := []) rfl dc rfl rfl rfl en_12 (law17_works_fn hq40) (TO.pick (b := true) rfl dc rfl rfl (TO.assign rfl dc rfl (TO.nil (TX.next (TC.ret ?_)))))
                cases h
                exact TX.fin (rs := [.tmp 4]) () (.inl rfl) Tryd.results6 (.cons (.tmp rfl) .nil) rfl Splits.nil
               ·
                have h := condF hb22 h
                refine TO.skip rfl dc (TO.pick (b := false) rfl dc rfl rfl (TO.assign rfl dc rfl (TO.nil (TX.next (TC.ret ?_)))))
                cases h
                exact TX.fin (rs := [.tmp 4]) () (.inl rfl) Tryd.results6 (.cons (.tmp rfl) .nil) rfl Splits.nil
              ·
               have h := condF hb21 h
               refine TO.skip rfl dc (TO.skip rfl dc (TO.skip rfl dc (TO.skip rfl dc (TO.pick (b := false) rfl dc rfl rfl (TO.pick (b := false) rfl dc rfl rfl (TO.move rfl dc rfl (TO.skip rfl dc (TO.pick (b := false) rfl dc rfl rfl (TO.assign rfl dc rfl (TO.nil (TX.next (TC.ret ?_))))))))))))
               cases h
               exact TX.fin (rs := [.tmp 4]) () (.inl rfl) Tryd.results6 (.cons (.tmp rfl) .nil) rfl Splits.nil
end Go.Proofs.YtgfkogafkhbgnaaDoor
namespace Go.Proofs.YtgfkogafkhbgnaaDoor
open Go.RowKit Go.Lib
set_option linter.unusedVariables false
set_option linter.unusedSimpArgs false
theorem lines_go (d : List ByteArray → Option (List ByteArray)) : ∀ (L : List LnE) (vs : List Gapi_Verse) (i : Nat) (out : List ByteArray), vs.map keyV = L.map keyL → (∀ p ∈ L, p.2.2.length ≤ 1024) → out.length + L.length ≤ 1000000 →
    rangeG d law17_lines_s1 (enumV i vs) out = d (out ++ L.map (fun p => mkB p.2.2))
  | [], vs, i, out, hk, hx, hl => by
    have : vs = [] := by cases vs with | nil => rfl | cons v vs => cases hk
    subst this
    show d out = d (out ++ [])
    rw [List.append_nil]
  | p :: L, vs, i, out, hk, hx, hl => by
    cases vs with
    | nil => cases hk
    | cons v vs =>
      rw [List.map_cons, List.map_cons] at hk
      obtain ⟨hv, hk⟩ := List.cons.inj hk
      rw [List.length_cons] at hl
      have hv1 : v.Text = mkB (p.2.2.drop (ind p.2.2)) := congrArg (fun q => q.1) hv
      have hv2 : v.Indent = (ind p.2.2 : Int) := congrArg (fun q => q.2.1) hv
      have hxl := hx p (by simp)
      have hil := ind_le p.2.2
      show rangeG d _ (((i : Int), v) :: enumV (i + 1) vs) _ = _
      rw [rangeG_cons]
      have ih := fun out h => lines_go d L vs (i + 1) out hk (fun q hq => hx q (by simp [hq])) h
      obtain ⟨ag, hag⟩ : ∃ ag, ag = rangeG d law17_lines_s1 (enumV (i + 1) vs) := ⟨_, rfl⟩
      rw [← hag] at ih ⊢
      unfold law17_lines_s1
      show (grd (0 ≤ v.Indent ∧ v.Indent ≤ 140737488355328) <| grd ((spacesB v.Indent).size + v.Text.size ≤ 9223372036854775807) <| grd (out.length + 1 ≤ 2147483648) <| ag (out ++ [(spacesB v.Indent) ++ v.Text])) = _
      have hsz : (spacesB (ind p.2.2 : Int)).size + (mkB (p.2.2.drop (ind p.2.2))).size ≤ 9223372036854775807 := by
        have : (spacesB (ind p.2.2 : Int) ++ mkB (p.2.2.drop (ind p.2.2))).size = (mkB p.2.2).size := by rw [line_v]
        rw [ByteArray.size_append, mkB_size p.2.2] at this
        omega
      rw [hv1, hv2]
      refine grdI ⟨by omega, by omega⟩ (grdI hsz (grdI (by omega) ?_))
      rw [line_v, ih _ (by rw [List.length_append, List.length_singleton]; omega), List.append_assoc]
      rfl
theorem lines_v {p : Gpoem_Poem} {t : List UInt8} {z : List Row} (h : OkP p t z) : law17_lines_v p = some (z.flatten.map mkB) := by
  unfold law17_lines_v
  have hm := h.most
  refine joinI (thenI rfl (thenI (each_v p (by rw [h.len]; omega)) (joinI ?_)))
  have := lines_go (fun (l4 : List ByteArray) => some l4) (flatZ 0 z) p.told_lines 0 [] h.vok (fun q hq => by
    obtain ⟨r, h1, h2⟩ := mem_flatZ z 0 q hq
    exact (h.ln r h1 _ h2).le) (by rw [flatZ_len]; show 0 + _ ≤ _; omega)
  refine this.trans ?_
  rw [List.nil_append, ← flatZ_snd z 0, List.map_map]
  rfl
theorem equal_v (l : List ByteArray) (hl : l.length ≤ 1000000) : slices_Equal__string_string__v l l = some true := by
  unfold slices_Equal__string_string__v
  refine condFI (bne_self_eq_false _) (joinI ?_)
  have key : ∀ (n i : Nat), i ≤ l.length → l.length - i < n → loopG (fun _ => none) (slices_Equal__string_string__s1 l l (some true)) n (i : Int) = some true := by
    intro n
    induction n with
    | zero => intro i h1 h2; omega
    | succ n ih =>
      intro i hi hn
      rw [loopG_succ]
      obtain ⟨ag, hag⟩ : ∃ ag, ag = loopG (fun _ => none) (slices_Equal__string_string__s1 l l (some true)) n := ⟨_, rfl⟩
      rw [← hag] at ih ⊢
      unfold slices_Equal__string_string__s1
      rcases Nat.lt_or_ge i l.length with h | h
      · have hg : getO l (i : Int) = some l[i] := getO_nat (List.getElem?_eq_getElem h)
        refine condTI (decide_eq_true (by omega)) (thenI hg (thenI hg (condFI (by simp) (grdI ⟨by omega, by omega⟩ ?_))))
        rw [show (i : Int) + 1 = ((i + 1 : Nat) : Int) by omega]
        exact ih (i + 1) (by omega) (by omega)
      · exact condFI (decide_eq_false (by omega)) rfl
  exact key fuel 0 (Nat.zero_le _) (by unfold fuel; omega)
theorem poemCut_v (S : List UInt8) (k : Int) : law17_PoemCut_v (mkB S) k = some true := by
  unfold law17_PoemCut_v
  refine thenI works_v (condFI rfl ?_)
  rcases rd_cases S with ⟨e, he, h⟩ | ⟨p, t, z, hp, h⟩
  · exact thenI h (condTI he (thenI works_v rfl))
  refine thenI h (condFI rfl ?_)
  by_cases h1 : k < 0
  · exact condTI (decide_eq_true h1) (thenI works_v rfl)
  refine condFI (decide_eq_false h1) (thenI rfl (thenI rfl ?_))
  have l1 := hp.len
  have m1 := hp.most
  have z1 := tot_ge z hp.ne
  have w1 := hp.wt
  have p1 := prT_len t z
  by_cases h2 : (tot z : Int) < k
  · exact condTI (decide_eq_true (by omega)) (thenI works_v rfl)
  refine condFI (decide_eq_false (by omega)) ?_
  obtain ⟨k, rfl⟩ : ∃ n : Nat, k = n := ⟨k.toNat, by omega⟩
  have ca := hp.toGoodP.cut 0 k
  have cb := hp.toGoodP.cut k (tot z)
  have ta := (cutZ_sub 0 k z 0).2
  have tb := (cutZ_sub k (tot z) z 0).2
  have wa := prT_near t (cutZ 0 k 0 z) z hp.ne 0 (by have := cutZ_wt 0 k z 0; omega)
  have wb := prT_near t (cutZ k (tot z) 0 z) z hp.ne 0 (by have := cutZ_wt k (tot z) z 0; omega)
  obtain ⟨wc, tc⟩ := cut_two k (tot z) z 0 hp.ne (by omega)
  have wd := prT_near t (cutZ 0 k 0 z ++ cutZ k (tot z) 0 z) z hp.ne 1 wc
  have ea := cut_eq hp 0 k (Nat.zero_le _) (by omega)
  have eb := cut_eq hp k (tot z) (by omega) (Nat.le_refl _)
  have long : ∀ X : Option Bool, (andThen (poem_Poem_Print_v p) fun (r10 : ByteArray) => grd (I64 ((r10.size : Int) + 8)) <| bcond (decide ((65536 : Int) < ((r10.size : Int) + 8))) (andThen (law17_works_v) fun (r11 : Bool) => some r11) X) = some true ∨ (prT t z).length + 8 ≤ 65536 := fun X => by
    by_cases h3 : (prT t z).length + 8 ≤ 65536
    · exact .inr h3
    · refine .inl (thenI hp.print (grdI (by rw [mkB_size]; exact ⟨by omega, by omega⟩) (condTI (decide_eq_true (by rw [mkB_size]; omega)) (thenI works_v rfl))))
  have hs : ∀ r : Nat, (r : Int) = (p.told_lines.length : Int) → r = tot z := fun r h => by omega
  by_cases hla : 65536 < (prT t (cutZ 0 k 0 z)).length
  · have xb : ∃ y, poem_made_v (mkB t) (mkZ (cutZ k (tot z) 0 z)) = some y := by
      by_cases hlb : 65536 < (prT t (cutZ k (tot z) 0 z)).length
      · exact ⟨_, made_long cb (by omega) hlb⟩
      · obtain ⟨q, d, _⟩ := made_good cb (by omega) (by omega)
        exact ⟨_, d⟩
    obtain ⟨y, hy⟩ := xb
    refine thenI (ea.trans (made_long ca (by omega) hla)) (thenI (a := (tot z : Int)) (congrArg some (by rw [l1])) (thenI (eb.trans hy) (condTI rfl ?_)))
    rcases long (some false) with h3 | h3
    · exact h3
    · omega
  obtain ⟨pa, da, oa, _, _, _⟩ := made_good ca (by omega) (by omega)
  by_cases hlb : 65536 < (prT t (cutZ k (tot z) 0 z)).length
  · refine thenI (ea.trans da) (thenI (a := (tot z : Int)) (congrArg some (by rw [l1])) (thenI (eb.trans (made_long cb (by omega) hlb)) (condFI rfl (condTI rfl ?_))))
    rcases long (some false) with h3 | h3
    · exact h3
    · omega
  obtain ⟨pb, db, ob, _, _, _⟩ := made_good cb (by omega) (by omega)
  refine thenI (ea.trans da) (thenI (a := (tot z : Int)) (congrArg some (by rw [l1])) (thenI (eb.trans db) (condFI rfl (condFI rfl (thenI rfl (thenI rfl ?_))))))
  have gc := GoodP.app ca cb
  have ej := join_eq oa ob
  by_cases hlc : 65536 < (prT t (cutZ 0 k 0 z ++ cutZ k (tot z) 0 z)).length
  · refine thenI (ej.trans (made_long gc (by omega) hlc)) (condTI rfl ?_)
    rcases long (some false) with h3 | h3
    · exact h3
    · omega
  obtain ⟨q, dc, oc, _, _, _⟩ := made_good gc (by omega) (by omega)
  have hfl : (cutZ 0 k 0 z ++ cutZ k (tot z) 0 z).flatten = z.flatten := cut_whole k z
  have hlq := lines_v oc
  rw [hfl] at hlq
  refine thenI (ej.trans dc) (condFI rfl (thenI rfl (thenI hlq (thenI (lines_v hp) (thenI (equal_v _ (by rw [List.length_map, zflat_len]; omega)) (condFI rfl (thenI rfl (thenI rfl (condFI (by rw [oc.title, hp.title]; simp) (thenI rfl ?_))))))))))
  by_cases hk : k = tot z
  · refine condTI (beq_iff_eq.2 (by omega)) (thenI (same_v oc hp) (condTI ?_ (thenI works_v rfl)))
    rw [hk, cutZ_full (tot z) z 0 hp.ne (by omega)]
    have : cutZ (tot z) (tot z) 0 z = [] := by
      have h0 : (cutZ (tot z) (tot z) 0 z).flatten = [] := by
        rw [cutZ_flat, cutR_drop _ _ _ _ (by rw [zflat_len]; omega), Nat.sub_zero, ← zflat_len z, List.drop_length]
      cases hc : cutZ (tot z) (tot z) 0 z with
      | nil => rfl
      | cons r w =>
        have hr := ((cutZ_sub (tot z) (tot z) z 0).1 r (by rw [hc]; simp)).1
        rw [hc, List.flatten_cons] at h0
        exact absurd (List.append_eq_nil_iff.1 h0).1 hr
    rw [this, List.append_nil]
    simp
  refine condFI (beq_eq_false_iff_ne.2 (by omega)) ?_
  obtain ⟨kk, i, x, r, a1, a2, a3, a4⟩ := flat_at [] z 0 0 k (Nat.zero_le _) (by omega)
  rw [Nat.sub_zero, Nat.zero_add] at a1
  have hxr : x ∈ r := List.mem_of_getElem? a3
  have hgx := hp.ln r (List.mem_of_getElem? a2) x hxr
  obtain ⟨v, hv⟩ : ∃ v, p.told_lines[k]? = some v := ⟨_, List.getElem?_eq_getElem (by omega)⟩
  have hkey : keyV v = keyL (kk, i, x) := by
    have e := congrArg (fun s => s[k]?) hp.vok
    simp only [List.getElem?_map, hv, a1, Option.map_some] at e
    exact Option.some.inj e
  have e2 : v.In = (i : Int) := congrArg (fun q => q.2.2.2) hkey
  have hch := cut_here k (tot z) z 0 0 kk i x hp.ne (Nat.zero_le _) (by omega) (by rw [Nat.sub_zero]; exact a1)
  refine thenI (line_at hv) (condFI rfl (thenI (same_v oc hp) (condFI ?_ ?_)))
  · by_cases hi : i = 0
    · rw [decide_eq_true ⟨rfl, hch.2 hi⟩]
      show (true != ((v.In : Int) == 0)) = false
      rw [e2, hi]; rfl
    · rw [decide_eq_false (fun e => hi (hch.1 e.2))]
      show (false != ((v.In : Int) == 0)) = false
      rw [e2, beq_eq_false_iff_ne.2 (by omega)]; rfl
  have hxf : z.flatten[k]? = some x := by
    rw [← flatZ_snd z 0, List.getElem?_map, a1]; rfl
  have hgx2 : getO (z.flatten.map mkB) (k : Int) = some (mkB x) := getO_nat (by rw [List.getElem?_map, hxf]; rfl)
  refine thenI (lines_v hp) (thenI hgx2 ?_)
  obtain ⟨k2, i2, x2, r2, b1, b2, b3, b4, b5⟩ := set_v hp k (by omega) x (gln_canL hgx)
  have hb := Option.some.inj (b1.symm.trans a1)
  obtain ⟨rfl, hb2⟩ := Prod.mk.inj hb
  obtain ⟨rfl, rfl⟩ := Prod.mk.inj hb2
  have hr2 : r2 = r := Option.some.inj (b2.symm.trans a2)
  subst hr2
  have er : r2.set i2 x2 = r2 := by
    obtain ⟨hlt, he⟩ := List.getElem?_eq_some_iff.1 b3
    rw [← he, List.set_getElem_self]
  have ez : z.set k2 r2 = z := by
    obtain ⟨hlt, he⟩ := List.getElem?_eq_some_iff.1 b2
    rw [← he, List.set_getElem_self]
  rw [er, ez] at b5
  by_cases hl : 65536 < (prT t z).length
  · refine thenI (b5.trans (made_long hp.toGoodP m1 hl)) (condFI rfl (condTI rfl (thenI hp.print (condTI (decide_eq_true (by rw [mkB_size]; omega)) (thenI works_v rfl)))))
  · obtain ⟨y, dy, oy, _, _, _⟩ := made_good hp.toGoodP m1 (by omega)
    exact thenI (b5.trans dy) (condTI rfl (thenI rfl (thenI (same_v oy hp) (condTI (by simp) (thenI works_v rfl)))))
theorem poemCut_any (s : ByteArray) (k : Int) (w : World) (h1 : s.size ≤ 140737488351232) (h2 : -9223372036854775808 ≤ k) (h3 : k ≤ 9223372036854775807) : Calls Tryd.prog 6 #[.string s, .int .i64 k] w fun e w' => e = .returned (.bool true) ∧ Below w.heap.size w w' :=
  law17_PoemCut_fn (poemCut_v s.data.toList k) w
end Go.Proofs.YtgfkogafkhbgnaaDoor
