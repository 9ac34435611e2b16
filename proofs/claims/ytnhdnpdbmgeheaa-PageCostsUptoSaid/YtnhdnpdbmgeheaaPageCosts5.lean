/-
  Texts laid together: Pj, Pk, Pn, Po, LfPageCosts, Sh, PlPageCosts. Nothing is assumed.
-/
import Derived.Test.YtnhdnpdbmgeheaaPageCosts3
import Derived.Test.YtnhdnpdbmgeheaaPageCosts4
import Derived.OpenShut
import Derived.SliceStrings
import Derived.ProofKit
namespace Go.Proofs.Ytnhdnpdbmgeheaa
open Go.RowKit Go.Lib
set_option linter.unusedVariables false
set_option linter.unusedSimpArgs false
def okC (s : ByteArray) (c : Cell) : Prop := 0 ≤ c.Span_From ∧ c.Span_From < c.Span_To ∧ c.Span_To ≤ (s.size : Int) ∧ 0 ≤ c.Columns ∧ c.Columns ≤ 2
theorem cells_okC (s : ByteArray) : ∀ c ∈ cellsS s, okC s c := (cellsS_cov s).mem
theorem rspace_v (s : ByteArray) (hs : s.size ≤ 100000) (c : Cell) (hc : okC s c) : ref30_Space_v s c = some (spB s c) := by
  obtain ⟨h1, h2, h3, h4, h5⟩ := hc
  unfold ref30_Space_v spB
  refine grdI ⟨by omega, by omega⟩ ?_
  by_cases h : c.Span_To = c.Span_From + 1
  · rw [if_pos h]
    obtain ⟨m, hm⟩ : ∃ m : Nat, c.Span_From = m := ⟨c.Span_From.toNat, by omega⟩
    have hg := getB_of hm (show m < s.size by omega)
    refine condTI (beqI (by omega)) (thenI hg ?_)
    rw [hg]
    show some _ = some _
    congr 1
  · rw [if_neg h]; exact condFI (beqF (by omega)) rfl
theorem take_some {α : Type} {l : List α} {k : Nat} (h : k < l.length) : l.take (k + 1) = l.take k ++ [l[k]] := take_snocP (List.getElem?_eq_getElem h)
theorem rcol1 (s : ByteArray) (hs : s.size ≤ 100000) (l : List Cell) (hl : ∀ c ∈ l, okC s c) (hn : l.length ≤ 100000) (j : Int → Option Int) : ∀ (n m : Nat), n ≤ l.length → n < m → loopG (fun _ => none) (ref30_Columns_s1 s l j) m (n : Int) = j (eN (spB s) (l.take n) : Int)
  | 0, m, h, hm => by
    obtain ⟨m, rfl⟩ : ∃ q, m = q + 1 := ⟨m - 1, by omega⟩
    rw [loopI]
    generalize loopG (fun _ => none) (ref30_Columns_s1 s l j) m = ag
    unfold ref30_Columns_s1
    exact condFI rfl rfl
  | n + 1, m, h, hm => by
    obtain ⟨m, rfl⟩ : ∃ q, m = q + 1 := ⟨m - 1, by omega⟩
    have ih := rcol1 s hs l hl hn j n m (by omega) (by omega)
    rw [loopI]
    generalize loopG (fun _ => none) (ref30_Columns_s1 s l j) m = ag at ih ⊢
    have hx : l[n]? = some l[n] := List.getElem?_eq_getElem (by omega)
    unfold ref30_Columns_s1
    rw [take_some (by omega), eN_snoc]
    refine condTI (decide_eq_true (by omega)) (grdI ⟨by omega, by omega⟩ (thenI (getO_of (n := n) (by omega) hx) (thenI (rspace_v s hs _ (hl _ (List.mem_of_getElem? hx))) ?_)))
    cases hsp : spB s l[n] with
    | true =>
      refine condTI rfl (grdI ⟨by omega, by omega⟩ ?_)
      rw [if_pos rfl, show ((n + 1 : Nat) : Int) - 1 = (n : Int) by omega]
      exact ih
    | false =>
      refine condFI rfl ?_
      rw [if_neg (by decide), List.length_take, Nat.min_eq_left (by omega)]
theorem rcol2 (l : List Cell) (hl : ∀ c ∈ l, 0 ≤ c.Columns ∧ c.Columns ≤ 2) (n : Nat) (hn : n ≤ l.length) (hn2 : l.length ≤ 100000) (j : Int → Option Int) : ∀ (d k m : Nat), k + d = n → d < m → loopG (fun _ _ => none) (ref30_Columns_s2 l (n : Int) j) m (colsum (l.take k)) (k : Int) = j (colsum (l.take n))
  | 0, k, m, h, hm => by
    obtain ⟨m, rfl⟩ : ∃ q, m = q + 1 := ⟨m - 1, by omega⟩
    rw [loopI]
    generalize loopG (fun _ _ => none) (ref30_Columns_s2 l (n : Int) j) m = ag
    unfold ref30_Columns_s2
    refine condFI (decide_eq_false (by omega)) ?_
    rw [show k = n by omega]
  | d + 1, k, m, h, hm => by
    obtain ⟨m, rfl⟩ : ∃ q, m = q + 1 := ⟨m - 1, by omega⟩
    have ih := rcol2 l hl n hn hn2 j d (k + 1) m (by omega) (by omega)
    rw [loopI]
    generalize loopG (fun _ _ => none) (ref30_Columns_s2 l (n : Int) j) m = ag at ih ⊢
    have hx : l[k]? = some l[k] := List.getElem?_eq_getElem (by omega)
    rw [take_some (by omega), colsum_app, colsum_one, show ((k + 1 : Nat) : Int) = (k : Int) + 1 by omega] at ih
    have h1 := colsum_rng (l := l.take k) fun c hc => hl c (List.mem_of_mem_take hc)
    have h2 := hl _ (List.mem_of_getElem? hx)
    have h3 : (l.take k).length ≤ 100000 := by rw [List.length_take]; omega
    unfold ref30_Columns_s2
    exact condTI (decide_eq_true (by omega)) (thenI (lp_get hx) (grdI ⟨by omega, by omega⟩ (grdI ⟨by omega, by omega⟩ ih)))
theorem rcolumns_v (s : ByteArray) (hs : s.size ≤ 100000) (l : List Cell) (hl : ∀ c ∈ l, okC s c) (hn : l.length ≤ 100000) : ref30_Columns_v s l = some (colsum (l.take (eN (spB s) l))) := by
  unfold ref30_Columns_v
  refine joinI ((rcol1 s hs l hl hn _ l.length fuel (Nat.le_refl _) (big_fuel (by omega))).trans (joinI ?_))
  rw [List.take_length]
  exact rcol2 l (fun c hc => (hl c hc).2.2.2) (eN (spB s) l) (eN_le _ _) hn _ (eN (spB s) l) 0 fuel (by omega) (big_fuel (by have := eN_le (spB s) l; omega))
theorem rroom_v (l : Gapi_Layout) (i : Int) (f : Nat) (h1 : I64 (l.Width - i)) (h2 : I64 (l.Width - l.Turn)) : ref30_Room_v l i ((f : Int) == 0) = some (roomN (max 1 (l.Width - i)) (l.Width - l.Turn) f) := by
  unfold ref30_Room_v roomN
  by_cases h : f = 0
  · rw [if_pos h, beqI (by omega)]
    refine condFI rfl (grdI h1 ?_)
    by_cases h3 : l.Width - i < 1
    · refine condTI (decide_eq_true h3) ?_
      rw [show max 1 (l.Width - i) = 1 by omega]
    · refine condFI (decide_eq_false h3) (grdI h1 ?_)
      rw [show max 1 (l.Width - i) = l.Width - i by omega]
  · rw [if_neg h, beqF (by omega)]
    exact condTI rfl (grdI h2 rfl)
/-! ### Segments -/
def segL (C : List Cell) (f t : Nat) : List Cell := (C.drop f).take (t - f)
theorem cutL_seg (C : List Cell) (f t : Nat) (h : f ≤ t) : cutL C (f : Int) (t : Int) = segL C f t := by
  unfold cutL segL
  rw [Int.toNat_natCast, Int.toNat_natCast]
theorem seg_len (C : List Cell) (f t : Nat) (h : t ≤ C.length) : (segL C f t).length = t - f := by
  unfold segL; rw [List.length_take, List.length_drop]; omega
theorem seg_get (C : List Cell) (f t k : Nat) (h : k < t - f) : (segL C f t)[k]? = C[f + k]? := by
  unfold segL; rw [List.getElem?_take, if_pos h, List.getElem?_drop]
theorem seg_eN (sp : Cell → Bool) (C : List Cell) (f : Nat) : ∀ (d : Nat), f + d ≤ C.length → eN sp (segL C f (f + d)) = eN sp (C.take (f + d)) - f
  | 0, h => by
    have := eN_le sp (C.take f)
    rw [List.length_take] at this
    have e : segL C f (f + 0) = [] := by unfold segL; simp
    rw [e, eN_nil]
    show 0 = eN sp (C.take f) - f
    omega
  | d + 1, h => by
    have ih := seg_eN sp C f d (by omega)
    have hx : C[f + d]? = some C[f + d] := List.getElem?_eq_getElem (by omega)
    have e : segL C f (f + (d + 1)) = segL C f (f + d) ++ [C[f + d]] := by
      unfold segL
      rw [show f + (d + 1) - f = d + 1 by omega, show f + d - f = d by omega]
      exact take_snocP (by rw [List.getElem?_drop]; exact hx)
    have hl := seg_len C f (f + d) (by omega)
    rw [e, eN_snoc, ih, show f + (d + 1) = f + d + 1 by omega, take_snocP hx, eN_snoc]
    split
    · rfl
    · rw [hl, List.length_take]; omega
theorem seg_sum (C : List Cell) (f t m : Nat) (hf : f ≤ C.length) (h : m ≤ t - f) : colsum ((segL C f t).take m) = colsum (C.take (f + m)) - colsum (C.take f) := by
  have e : C.take (f + m) = C.take f ++ (segL C f t).take m := by
    unfold segL
    rw [List.take_take, Nat.min_eq_left h, List.take_add]
  rw [e, colsum_app]; omega
theorem all_eN (sp : Cell → Bool) (k : Nat) : ∀ (l : List Cell), (l.drop k).all sp = decide (eN sp l ≤ k) := by
  intro l
  rcases List.eq_nil_or_concat l with rfl | ⟨D, x, rfl⟩
  · simp [eN_nil]
  · rw [List.concat_eq_append, eN_snoc]
    have ih := all_eN sp k D
    by_cases h : k ≤ D.length
    · rw [List.drop_append_of_le_length h, List.all_append, ih]
      cases hx : sp x with
      | true => rw [if_pos rfl]; simp [hx]
      | false => rw [if_neg (by decide), decide_eq_false (show ¬ D.length + 1 ≤ k by omega)]; simp [hx]
    · have h1 := eN_le sp (D ++ [x])
      rw [eN_snoc, List.length_append] at h1
      simp only [List.length_cons, List.length_nil] at h1
      rw [List.drop_of_length_le (by simp; omega), decide_eq_true (by omega)]; rfl
termination_by l => l.length
decreasing_by rename_i e; subst e; simp
theorem seg_okC {s : ByteArray} (f t : Nat) : ∀ c ∈ segL (cellsS s) f t, okC s c := fun c hc => cells_okC s c (List.mem_of_mem_drop (List.mem_of_mem_take hc))
section
variable {s : ByteArray} (hs : s.size ≤ 100000)
include hs
theorem rcolN (f t : Nat) (hf : f < t) (ht : t ≤ (cellsS s).length) : ref30_Columns_v s (segL (cellsS s) f t) = some (colN (spB s) (cellsS s) f t) := by
  have hle := cs_le hs
  have hl := seg_len (cellsS s) f t ht
  have he := seg_eN (spB s) (cellsS s) f (t - f) (by omega)
  rw [show f + (t - f) = t by omega] at he
  have h2 := eN_le (spB s) ((cellsS s).take t)
  rw [List.length_take] at h2
  rw [rcolumns_v s hs _ (seg_okC f t) (by omega), he, seg_sum _ _ _ _ (by omega) (by omega)]
  unfold colN
  rw [show f + (eN (spB s) ((cellsS s).take t) - f) = max f (eN (spB s) ((cellsS s).take t)) by omega]
theorem rrow_go (l : List Cell) (hl : ∀ c ∈ l, okC s c) (hn : l.length ≤ 100000) : ∀ (d k m : Nat), k + d = l.length → d < m → loopG (fun _ => none) (ref30_Row_s1 s l (some true)) m (k : Int) = some ((l.drop k).all (spB s))
  | 0, k, m, h, hm => by
    obtain ⟨m, rfl⟩ : ∃ q, m = q + 1 := ⟨m - 1, by omega⟩
    rw [loopI]
    generalize loopG (fun _ => none) (ref30_Row_s1 s l (some true)) m = ag
    unfold ref30_Row_s1
    refine condFI (decide_eq_false (by omega)) ?_
    rw [List.drop_of_length_le (by omega)]; rfl
  | d + 1, k, m, h, hm => by
    obtain ⟨m, rfl⟩ : ∃ q, m = q + 1 := ⟨m - 1, by omega⟩
    have ih := rrow_go l hl hn d (k + 1) m (by omega) (by omega)
    rw [loopI]
    generalize loopG (fun _ => none) (ref30_Row_s1 s l (some true)) m = ag at ih ⊢
    have hx : l[k]? = some l[k] := List.getElem?_eq_getElem (by omega)
    rw [show ((k + 1 : Nat) : Int) = (k : Int) + 1 by omega] at ih
    unfold ref30_Row_s1
    rw [List.drop_eq_getElem_cons (show k < l.length by omega), List.all_cons]
    refine condTI (decide_eq_true (by omega)) (thenI (lp_get hx) (thenI (rspace_v s hs _ (hl _ (List.mem_of_getElem? hx))) ?_))
    cases spB s l[k] with
    | true => exact condFI rfl (grdI ⟨by omega, by omega⟩ ih)
    | false => exact condTI rfl rfl
theorem rrow_v {a b : Int} (f t : Nat) (hf : f < t) (ht : t ≤ (cellsS s).length) : ref30_Row_v s (cutL (cellsS s) (f : Int) (t : Int)) (roomN a b f) ((f : Int) == 0) = some (rowN (spB s) (cellsS s) a b f t) := by
  have hle := cs_le hs
  rw [cutL_seg _ _ _ (by omega)]
  have hl := seg_len (cellsS s) f t ht
  have hok := seg_okC (s := s) f t
  have hx : (segL (cellsS s) f t)[0]? = some (cellsS s)[f] := by rw [seg_get _ _ _ _ (by omega)]; exact List.getElem?_eq_getElem (by omega)
  have he := seg_eN (spB s) (cellsS s) f (t - f) (by omega)
  rw [show f + (t - f) = t by omega] at he
  have hsp : spAt (spB s) (cellsS s) f = spB s (cellsS s)[f] := by unfold spAt; rw [List.getElem?_eq_getElem (by omega)]
  unfold ref30_Row_v rowN
  have tail : (andThen (ref30_Columns_v s (segL (cellsS s) f t)) fun (r2 : Int) => bcond (decide ((r2 : Int) ≤ (roomN a b f))) (some true) (joinK (fun (j2 : Option Bool) => loopG (fun _ => none) (ref30_Row_s1 s (segL (cellsS s) f t) j2) fuel 1) (some true))) = some (decide (colN (spB s) (cellsS s) f t ≤ roomN a b f) || decide (eN (spB s) ((cellsS s).take t) ≤ f + 1)) := by
    refine thenI (rcolN hs f t hf ht) ?_
    by_cases h : colN (spB s) (cellsS s) f t ≤ roomN a b f
    · rw [decide_eq_true h]; exact condTI rfl rfl
    · rw [decide_eq_false h]
      refine condFI rfl (joinI ((rrow_go hs (segL (cellsS s) f t) hok (by omega) (t - f - 1) 1 fuel (by omega) (big_fuel (by omega))).trans ?_))
      rw [all_eN, he, Bool.false_or]
      congr 1
      by_cases h2 : eN (spB s) ((cellsS s).take t) ≤ f + 1
      · rw [decide_eq_true h2, decide_eq_true (by omega)]
      · rw [decide_eq_false h2, decide_eq_false (by omega)]
  refine joinI (condFI (beqF (by omega)) ?_)
  by_cases h0 : 0 < f
  · rw [decide_eq_true h0, beqF (by omega : (f : Int) ≠ 0), hsp]
    refine condTI rfl (thenI (getO_of (n := 0) rfl hx) (thenI (rspace_v s hs _ (cells_okC s _ (List.getElem_mem _))) ?_))
    cases spB s (cellsS s)[f] with
    | true => exact condTI rfl rfl
    | false => exact condFI rfl tail
  · rw [decide_eq_false h0, beqI (by omega : (f : Int) = 0)]
    exact condFI rfl tail
theorem rcost_v {a b : Int} (ha : 0 ≤ a ∧ a ≤ 1000000) (hb : 0 ≤ b ∧ b ≤ 1000000) (f t : Nat) (hf : f < t) (ht : t ≤ (cellsS s).length) : ref30_RowCost_v s (cutL (cellsS s) (f : Int) (t : Int)) (roomN a b f) = some (costN (spB s) (cellsS s) a b f t) := by
  have hle := cs_le hs
  have h1 := room_rng ha hb f
  have h2 := colN_rng hs f t
  have h3 := costN_rng hs ha hb f t
  rw [cutL_seg _ _ _ (by omega)]
  have hl := seg_len (cellsS s) f t ht
  have hx : (segL (cellsS s) f t)[t - f - 1]? = some (cellsS s)[t - 1] := by
    rw [seg_get _ _ _ _ (by omega), show f + (t - f - 1) = t - 1 by omega]; exact List.getElem?_eq_getElem (by omega)
  have hsp : spAt (spB s) (cellsS s) (t - 1) = spB s (cellsS s)[t - 1] := by unfold spAt; rw [List.getElem?_eq_getElem (by omega)]
  unfold ref30_RowCost_v
  refine joinI (thenI (rcolN hs f t hf ht) (grdI ⟨by omega, by omega⟩ ?_))
  have tail : ∀ n : Int, 0 ≤ n → n ≤ 2000000000000 → joinK (fun (j2 : Int → Option Int) => grd (I64 (((segL (cellsS s) f t).length : Int) - 1)) <| andThen (getO (segL (cellsS s) f t) (((segL (cellsS s) f t).length : Int) - 1)) fun (q1 : Gapi_Cell) => andThen (ref30_Space_v s q1) fun (r2 : Bool) => bcond (!r2) (grd (I64 (n + 1000)) <| j2 (n + 1000)) (j2 n)) (fun (n2 : Int) => some n2) = some (n + (if spAt (spB s) (cellsS s) (t - 1) then 0 else 1000)) := by
    intro n hn1 hn2
    refine joinI (grdI ⟨by omega, by omega⟩ (thenI (getO_of (n := t - f - 1) (by omega) hx) (thenI (rspace_v s hs _ (cells_okC s _ (List.getElem_mem _))) ?_)))
    rw [hsp]
    cases spB s (cellsS s)[t - 1] with
    | true => exact condFI rfl (congrArg some (Int.add_zero n).symm)
    | false => exact condTI rfl (grdI ⟨by omega, by omega⟩ rfl)
  unfold costN at h3 ⊢
  have hq : (if spAt (spB s) (cellsS s) (t - 1) then (0 : Int) else 1000) ≤ 1000 ∧ 0 ≤ (if spAt (spB s) (cellsS s) (t - 1) then (0 : Int) else 1000) := by split <;> omega
  by_cases h : 0 < roomN a b f - colN (spB s) (cellsS s) f t
  · rw [if_pos h] at h3 ⊢
    have hm : 0 ≤ (roomN a b f - colN (spB s) (cellsS s) f t) * (roomN a b f - colN (spB s) (cellsS s) f t) := Int.mul_nonneg (by omega) (by omega)
    refine condTI (decide_eq_true h) (grdI ⟨by omega, by omega⟩ (tail _ hm (by omega)))
  · rw [if_neg h]
    exact condFI (decide_eq_false h) (tail 0 (by omega) (by omega))
end
end Go.Proofs.Ytnhdnpdbmgeheaa
namespace Go.Proofs.Ytnhdnpdbmgeheaa
open Go.RowKit Go.Lib
set_option linter.unusedVariables false
set_option linter.unusedSimpArgs false
section
variable {R : Nat → Nat → Bool} {K : Nat → Nat → Int} {n : Nat}
end
section
variable {s : ByteArray} {a b : Int} (hs : s.size ≤ 100000) (ha : 0 ≤ a ∧ a ≤ 1000000) (hb : 0 ≤ b ∧ b ≤ 1000000)
include hs ha hb
end
end Go.Proofs.Ytnhdnpdbmgeheaa
namespace Go.Proofs.Ytnhdnpdbmgeheaa
open Go.RowKit Go.Lib
set_option linter.unusedVariables false
set_option linter.unusedSimpArgs false
section
variable {s : ByteArray} {a b : Int} (hs : s.size ≤ 100000) (ha : 0 ≤ a ∧ a ≤ 1000000) (hb : 0 ≤ b ∧ b ≤ 1000000)
include hs ha hb
end
section
variable {s : ByteArray} {a b : Int} (hs : s.size ≤ 100000) (ha : 0 ≤ a ∧ a ≤ 1000000) (hb : 0 ≤ b ∧ b ≤ 1000000)
include hs ha hb
end
end Go.Proofs.Ytnhdnpdbmgeheaa
namespace Go.Proofs.Ytnhdnpdbmgeheaa
open Go.RowKit Go.Lib
set_option linter.unusedVariables false
set_option linter.unusedSimpArgs false
theorem catL_snoc (t : ByteArray) : ∀ A : List ByteArray, catL (A ++ [t]) = catL A ++ t
  | [] => by
    show t ++ (⟨#[]⟩ : ByteArray) = (⟨#[]⟩ : ByteArray) ++ t
    rw [app_empty, empty_app]
  | x :: A => by show x ++ catL (A ++ [t]) = (x ++ catL A) ++ t; rw [catL_snoc t A, ByteArray.append_assoc]
theorem rcat_go (L : List ByteArray) (hl : L.length ≤ 100000) (hz : sizL L ≤ 100000000) (j : ByteArray → Option (Int × Bool)) : ∀ (ts pre : List ByteArray) (m : Nat), L = pre ++ ts → ts.length < m → loopG (fun _ _ => none) (ref30_Cost_s1 L j) m (catL pre) (pre.length : Int) = j (catL L)
  | [], pre, m, h, hm => by
    obtain ⟨m, rfl⟩ : ∃ q, m = q + 1 := ⟨m - 1, by simp at hm; omega⟩
    rw [List.append_nil] at h; subst h
    rw [loopI]
    generalize loopG (fun _ _ => none) (ref30_Cost_s1 L j) m = ag
    unfold ref30_Cost_s1
    exact condFI lp_ge rfl
  | t :: ts, pre, m, h, hm => by
    obtain ⟨m, rfl⟩ : ∃ q, m = q + 1 := ⟨m - 1, by simp at hm; omega⟩
    have ih := rcat_go L hl hz j ts (pre ++ [t]) m (by rw [h]; simp) (by simp at hm; omega)
    rw [loopI]
    generalize loopG (fun _ _ => none) (ref30_Cost_s1 L j) m = ag at ih ⊢
    have hx : L[pre.length]? = some t := by rw [h]; simp
    have hpl := lp_lt' hx
    have h2 : sizL L = sizL pre + (t.size + sizL ts) := by rw [h, sizL_app]; rfl
    have hcs := catL_size pre
    rw [catL_snoc, show (((pre ++ [t]).length : Nat) : Int) = (pre.length : Int) + 1 by simp] at ih
    unfold ref30_Cost_s1
    exact condTI (lp_lt hx) (thenI (lp_get hx) (grdI (by omega) (grdI ⟨by omega, by omega⟩ ih)))
theorem rc_seek (s : ByteArray) (hs : s.size ≤ 100000) (at3 : Int) (q : ByteArray) : ∀ (d t m : Nat), t + d = (cellsS s).length → d < m → ∃ tr : Nat, t ≤ tr ∧ tr ≤ (cellsS s).length ∧ (∀ j, t ≤ j → j < tr → stN s (j + 1) ≤ at3 + (q.size : Int)) ∧ (tr = (cellsS s).length ∨ at3 + (q.size : Int) < stN s (tr + 1)) ∧
    ∀ j4 : Int → Int → Option (Int × Bool), loopG (fun _ => none) (ref30_Cost_s3 (cellsS s) at3 j4 q) m (t : Int) = j4 (at3 + (q.size : Int)) (tr : Int) := by
  have hle := cs_le hs
  intro d
  induction d with
  | zero =>
    intro t m ht hm
    obtain ⟨m, rfl⟩ : ∃ q, m = q + 1 := ⟨m - 1, by omega⟩
    refine ⟨t, Nat.le_refl _, by omega, fun j h1 h2 => by omega, .inl (by omega), fun j4 => ?_⟩
    rw [loopI]
    generalize loopG (fun _ => none) (ref30_Cost_s3 (cellsS s) at3 j4 q) m = ag
    unfold ref30_Cost_s3
    exact condFI (decide_eq_false (by omega)) rfl
  | succ d ih =>
    intro t m ht hm
    obtain ⟨m, rfl⟩ : ∃ q, m = q + 1 := ⟨m - 1, by omega⟩
    have hx : (cellsS s)[t]? = some (cellsS s)[t] := List.getElem?_eq_getElem (by omega)
    obtain ⟨h1, h2, h3, h4, h5⟩ := stN_to s hx
    by_cases h : (cellsS s)[t].Span_To ≤ at3 + (q.size : Int)
    · obtain ⟨tr, g1, g2, g3, g4, g5⟩ := ih (t + 1) m (by omega) (by omega)
      refine ⟨tr, by omega, g2, fun j a b => ?_, g4, fun j4 => ?_⟩
      · by_cases e : j = t
        · rw [e, h2]; exact h
        · exact g3 j (by omega) b
      · have g5 := g5 j4
        rw [loopI]
        rw [show ((t + 1 : Nat) : Int) = (t : Int) + 1 by omega] at g5
        generalize loopG (fun _ => none) (ref30_Cost_s3 (cellsS s) at3 j4 q) m = ag at g5 ⊢
        unfold ref30_Cost_s3
        exact condTI (decide_eq_true (by omega)) (thenI (lp_get hx) (condTI (decide_eq_true h) (grdI ⟨by omega, by omega⟩ g5)))
    · refine ⟨t, Nat.le_refl _, by omega, fun j a b => by omega, .inr (by rw [h2]; omega), fun j4 => ?_⟩
      rw [loopI]
      generalize loopG (fun _ => none) (ref30_Cost_s3 (cellsS s) at3 j4 q) m = ag
      unfold ref30_Cost_s3
      exact condTI (decide_eq_true (by omega)) (thenI (lp_get hx) (condFI (decide_eq_false h) rfl))
theorem stN_lt (s : ByteArray) {i j : Nat} (h : i < j) (hj : j ≤ (cellsS s).length) : stN s i < stN s j := by
  have := stN_le s (j - i) i (by omega)
  rw [show i + (j - i) = j by omega] at this
  omega
def rRes (j : Int → Option (Int × Bool)) (c : Int) : Option Int → Option (Int × Bool)
  | none => some (0, false)
  | some x => j (c + x)
section
variable {s : ByteArray} {a b : Int} (hs : s.size ≤ 100000) (ha : 0 ≤ a ∧ a ≤ 1000000) (hb : 0 ≤ b ∧ b ≤ 1000000)
include hs ha hb
theorem rc_cost (i : Int) (l : Gapi_Layout) (hI : I64 (l.Width - i)) (hI2 : I64 (l.Width - l.Turn)) (ea : a = max 1 (l.Width - i)) (eb : b = l.Width - l.Turn) (rows : List ByteArray) (hl : rows.length ≤ 100000) (hsz : ∀ x ∈ rows, x.size ≤ 100000000) (j2 : Int → Option (Int × Bool)) : ∀ (L pre : List ByteArray) (f m : Nat) (c : Int), rows = pre ++ L → f ≤ (cellsS s).length → (pre.length = 0 ↔ f = 0) → L.length < m → 0 ≤ c ∧ c ≤ 2000000000000 * pre.length →
    loopG (fun _ _ _ _ => none) (ref30_Cost_s2 rows i l s j2 (cellsS s)) m c (f : Int) (stN s f) (pre.length : Int) = rRes j2 c (costF s a b f L)
  | [], pre, f, m, c, h, hf, hpf, hm, hc => by
    obtain ⟨m, rfl⟩ : ∃ q, m = q + 1 := ⟨m - 1, by simp at hm; omega⟩
    rw [List.append_nil] at h; subst h
    rw [loopI]
    generalize loopG (fun _ _ _ _ => none) (ref30_Cost_s2 rows i l s j2 (cellsS s)) m = ag
    unfold ref30_Cost_s2
    refine condFI lp_ge ?_
    show j2 c = j2 (c + 0)
    rw [Int.add_zero]
  | q :: L, pre, f, m, c, h, hf, hpf, hm, hc => by
    obtain ⟨m, rfl⟩ : ∃ q, m = q + 1 := ⟨m - 1, by simp at hm; omega⟩
    have hle := cs_le hs
    have ih := fun t c' ht h1 hc' => rc_cost i l hI hI2 ea eb rows hl hsz j2 L (pre ++ [q]) t m c' (by rw [h]; simp) ht h1 (by simp at hm; omega) hc'
    have hg : rows[pre.length]? = some q := by rw [h]; simp
    have hpl := lp_lt' hg
    have hqs := hsz q (by rw [h]; simp)
    have hfr := stN_rng s hf
    rw [loopI]
    rw [show (((pre ++ [q]).length : Nat) : Int) = (pre.length : Int) + 1 by simp] at ih
    generalize loopG (fun _ _ _ _ => none) (ref30_Cost_s2 rows i l s j2 (cellsS s)) m = ag at ih ⊢
    unfold ref30_Cost_s2
    refine condTI (lp_lt hg) (joinI (joinI (thenI (lp_get hg) (grdI ⟨by omega, by omega⟩ ?_))))
    obtain ⟨tr, t1, t2, t3, t4, t5⟩ := rc_seek s hs (stN s f) q ((cellsS s).length - f) f fuel (by omega) (big_fuel (by omega))
    refine (t5 _).trans ?_
    clear t5
    have hto : ∀ k, 0 < k → k ≤ (cellsS s).length → ∃ z : Cell, (cellsS s)[k - 1]? = some z ∧ z.Span_To = stN s k := by
      intro k h0 h1
      have hx : (cellsS s)[k - 1]? = some (cellsS s)[k - 1] := List.getElem?_eq_getElem (by omega)
      obtain ⟨_, y2, _⟩ := stN_to s hx
      rw [show k - 1 + 1 = k by omega] at y2
      exact ⟨_, hx, y2.symm⟩
    by_cases he : q = (⟨#[]⟩ : ByteArray)
    · have hq0 : q.size = 0 := by rw [he]; rfl
      have htf : tr = f := by
        rcases Nat.lt_or_ge f tr with h' | h'
        · have h1 := t3 f (Nat.le_refl _) h'
          have h2 := stN_lt s (show f < f + 1 by omega) (by omega)
          omega
        · omega
      unfold costF
      rw [if_pos he]
      exact condTI (beqI (by omega)) rfl
    have hqp : 0 < q.size := by
      rcases Nat.eq_zero_or_pos q.size with h0 | h0
      · exact absurd (ByteArray.ext (Array.eq_empty_of_size_eq_zero h0)) he
      · exact h0
    obtain ⟨g1, g2, g3, g4⟩ := seek_facts s (stN s f + (q.size : Int)) ((cellsS s).length - f) f
    unfold costF
    rw [if_neg he]
    simp only
    generalize seekN s (stN s f + (q.size : Int)) ((cellsS s).length - f) f = t at *
    by_cases hz : stN s t - stN s f = (q.size : Int)
    · have hft : f < t := by
        rcases Nat.lt_or_ge f t with h' | h'
        · exact h'
        · have : t = f := by omega
          rw [this] at hz; omega
      have htt : tr = t := by
        rcases Nat.lt_trichotomy tr t with h' | h' | h'
        · rcases t4 with t4 | t4
          · omega
          · have : stN s (tr + 1) ≤ stN s t := by
              have := stN_le s (t - (tr + 1)) (tr + 1) (by omega)
              rw [show tr + 1 + (t - (tr + 1)) = t by omega] at this
              omega
            omega
        · exact h'
        · have h1 := t3 t (by omega) h'
          have h2 := stN_lt s (show t < t + 1 by omega) (by omega)
          omega
      subst htt
      rw [if_neg (by omega)]
      obtain ⟨z, hz1, hz2⟩ := hto tr (by omega) (by omega)
      have hfirst : ((pre.length : Int) == 0) = ((f : Int) == 0) := by
        by_cases e : f = 0
        · have := hpf.2 e
          rw [beqI (by omega), beqI (by omega)]
        · have : pre.length ≠ 0 := fun h => e (hpf.1 h)
          rw [beqF (by omega), beqF (by omega)]
      have hk : 0 ≤ Ks s a b f tr ∧ Ks s a b f tr ≤ 2000000000000 := costN_rng hs ha hb f tr
      refine condFI (beqF (by omega)) (grdI ⟨by omega, by omega⟩ (thenI (getO_of (n := tr - 1) (by omega) hz1) (condFI (neqF (by omega)) ?_)))
      rw [hfirst]
      refine thenI (rroom_v l i f hI hI2) ?_
      rw [← ea, ← eb]
      refine grdI ⟨by omega, by omega, by omega⟩ (thenI (rrow_v hs f tr hft (by omega)) ?_)
      have hRs : Rs s a b f tr = rowN (spB s) (cellsS s) a b f tr := rfl
      rw [hRs]
      have hin : ∀ c' : Int, 0 ≤ c' → c' ≤ 2000000000000 * (pre.length + 1) → (grd (I64 ((pre.length : Int) + 1)) <| ag c' (tr : Int) (stN s f + (q.size : Int)) ((pre.length : Int) + 1)) = rRes j2 c' (costF s a b tr L) := by
        intro c' k1 k2
        rw [show stN s f + (q.size : Int) = stN s tr by omega]
        exact grdI ⟨by omega, by omega⟩ (ih tr c' (by omega) ⟨fun h => by simp at h, fun h => by omega⟩ ⟨k1, k2⟩)
      cases hR : rowN (spB s) (cellsS s) a b f tr with
      | false => exact condTI rfl (by rw [if_neg (by decide)]; rfl)
      | true =>
        rw [if_pos rfl]
        refine condFI rfl (joinI (grdI ⟨by omega, by omega⟩ ?_))
        by_cases hL : L = []
        · rw [if_pos hL]
          refine condFI (decide_eq_false (by rw [h, hL]; simp)) ?_
          refine (hin c hc.1 (by omega)).trans ?_
          cases costF s a b tr L with
          | none => rfl
          | some x => show j2 (c + x) = j2 (c + (0 + x)); rw [Int.zero_add]
        · rw [if_neg hL]
          have hLl : 0 < L.length := List.length_pos_iff.2 hL
          have hrl : rows.length = pre.length + (1 + L.length) := by rw [h]; simp; omega
          refine condTI (decide_eq_true (by omega)) (grdI ⟨by omega, by omega, by omega⟩ (thenI (rcost_v hs ha hb f tr hft (by omega)) (grdI ⟨?_, ?_⟩ ?_)))
          · show -9223372036854775808 ≤ c + Ks s a b f tr; omega
          · show c + Ks s a b f tr ≤ 9223372036854775807; omega
          refine (hin (c + Ks s a b f tr) (by omega) (by omega)).trans ?_
          cases costF s a b tr L with
          | none => rfl
          | some x => show j2 (c + _ + x) = j2 (c + (_ + x)); rw [Int.add_assoc]
    · rw [if_pos hz]
      show bcond ((tr : Int) == (f : Int)) _ _ = some (0, false)
      by_cases e : tr = f
      · exact condTI (beqI (by omega)) rfl
      · have hftr : f < tr := by omega
        obtain ⟨z, hz1, hz2⟩ := hto tr (by omega) t2
        refine condFI (beqF (by omega)) (grdI ⟨by omega, by omega⟩ (thenI (getO_of (n := tr - 1) (by omega) hz1) (condTI (neqI ?_) rfl)))
        rw [hz2]
        intro e2
        apply hz
        -- then the program's place is the same
        rcases Nat.lt_trichotomy t tr with h' | h' | h'
        · rcases g3 with g3 | g3
          · omega
          · have := stN_lt s h' t2
            omega
        · rw [h']; omega
        · have := g4 tr (by omega) h'
          omega
end
theorem rCost_v (L : List ByteArray) (hl : L.length ≤ 100000) (hz : sizL L ≤ 1024) (i : Int) (l : Gapi_Layout) (h1 : I64 (l.Width - i)) (ha : 0 ≤ max 1 (l.Width - i) ∧ max 1 (l.Width - i) ≤ 1000000) (hb : 0 ≤ l.Width - l.Turn ∧ l.Width - l.Turn ≤ 1000000) :
    ref30_Cost_v L i l = rRes (fun c => some (c, true)) 0 (costF (catL L) (max 1 (l.Width - i)) (l.Width - l.Turn) 0 L) := by
  have hcs := catL_size L
  have hmem : ∀ x ∈ L, x.size ≤ 100000000 := by
    have key : ∀ (L : List ByteArray) (x : ByteArray), x ∈ L → x.size ≤ sizL L := by
      intro L
      induction L with
      | nil => intro x h; cases h
      | cons y L ih =>
        intro x h
        show x.size ≤ y.size + sizL L
        rcases List.mem_cons.1 h with rfl | h
        · omega
        · have := ih x h; omega
    intro x hx
    have := key _ x hx
    omega
  unfold ref30_Cost_v
  refine joinI ((rcat_go L hl (by omega) _ L [] fuel rfl (big_fuel (by omega))).trans (joinI (thenI (rcells_v (catL L) (by omega)) ?_)))
  have := rc_cost (s := catL L) (by omega) ha hb i l h1 ⟨by omega, by omega⟩ rfl rfl L hl hmem (fun (sum1 : Int) => some (sum1, true)) L [] 0 fuel 0 rfl (Nat.zero_le _) ⟨fun _ => rfl, fun _ => rfl⟩ (big_fuel (by omega)) ⟨Int.le_refl _, by simp⟩
  rw [stN_0] at this
  exact this
end Go.Proofs.Ytnhdnpdbmgeheaa
namespace Go.Proofs.Ytnhdnpdbmgeheaa
open Go.RowKit Go.Lib
set_option linter.unusedVariables false
set_option linter.unusedSimpArgs false
def law30_PageCosts_s1 (rows1 : List ByteArray) (j1 : Int → Option Bool) (ag1 : Int → Int → Option Bool) (n4 : Int) (i3 : Int) : Option Bool := bcond (decide ((i3 : Int) < (rows1.length : Int))) ( andThen (getO rows1 i3) fun (q1 : ByteArray) => bcond (decide ((2000 : Int) < (q1.size : Int))) ( some true
) ( bcond (decide ((2000 : Int) < i3)) ( some true
) ( andThen (getO rows1 i3) fun (q2 : ByteArray) => grd (I64 (n4 + (q2.size : Int))) <| grd (I64 (i3 + 1)) <| ag1 (n4 + (q2.size : Int)) (i3 + 1)
)
)
) ( j1 n4
)
def law30_PageCosts_v (rows1 : List ByteArray) (indent1 : Int) (l1 : Gapi_Layout) : Option Bool := andThen (law30_live_v) fun (r1 : Bool) => bcond (!r1) ( some false
) ( joinK (fun (j1 : Int → Option Bool) => loopG (fun _ _ => none) (law30_PageCosts_s1 rows1 j1) fuel 0 0
) (fun (n1 : Int) => joinK (fun (j2 : Option Bool) => bcond (decide ((400 : Int) < n1)) ( bcond (decide ((n1 : Int) ≤ 1024)) ( some true
) ( j2
)
) ( j2
)
) ( joinK (fun (j3 : Int → Int → Bool → Int → Option Bool) => andThen (page_Cost_v rows1 indent1 l1) fun (r2 : (Int × Int)) => andThen (law30_fine_v n1 indent1 l1) fun (r3 : Bool) => bcond (r3) ( andThen (ref30_Cost_v rows1 indent1 l1) fun (r4 : (Int × Bool)) => j3 r2.1 r2.2 r4.2 r4.1
) ( j3 r2.1 r2.2 r3 0
)
) (fun (cost1 : Int) (e1 : Int) (ok1 : Bool) (want1 : Int) => bcond (!ok1) ( bcond ((cost1 : Int) == 0) ( bcond ((e1 : Int) == 2) ( andThen (law30_live_v) fun (r5 : Bool) => some r5
) ( some false
)
) ( some false
)
) ( bcond ((cost1 : Int) == want1) ( some ((e1 : Int) == 0)
) ( some false
)
)
)
)
)
)
set_option maxRecDepth 100000 in
set_option maxHeartbeats 4000000 in
theorem law30_PageCosts_fn {vvrows1 vrows1 : Value} {Lrows1 : List ByteArray} {krows1 : Nat} {rows1 : List ByteArray} (hwrows1 : Vw vvrows1 Lrows1 1 krows1 vrows1 rows1) {indent1 : Int} {l1 : Gapi_Layout} {r : Bool} (h : law30_PageCosts_v rows1 indent1 l1 = some r) : FnR Try.prog 4 [vrows1, .int .i64 indent1, .agg #[.int .i64 l1.Width, .int .i64 l1.Height, .int .i64 l1.Turn, .int .i64 l1.Every]] [roRow encS 1 vvrows1 krows1 Lrows1] [] (fun _ : Unit => (.bool r)) (fun _ => []) := by
 unfold law30_PageCosts_v at h
 refine FnR.intro Try.func4 rfl Try.ntmps4 (by simp) ?_
 intro w0 K hrd
 refine TC.seq (TC.region ?_)
 refine TO.box rfl dc rfl (fun b1 => ?_)
 refine TO.assign rfl dc rfl (TO.nil (TX.next (TC.seq (TC.seq (TC.region ?_)))))
 obtain ⟨r1, hq1, h⟩ := andE h
 refine TO.callP (v := .bool r1) (vs := []) rfl dc rfl rfl rfl en_6 (law30_live_fn hq1) (TO.un rfl dc rfl un_not (TO.nil (TX.next ?_)))
 refine TC.condB rfl (fun hb1 => ?_) (fun hb1 => ?_)
 ·
  have h := condT hb1 h
  refine TC.seq (TC.region (TO.assign rfl dc rfl (TO.nil (TX.next (TC.ret (TX.thenRet ?_))))))
  cases h
  exact TX.fin (rs := [.tmp 6]) () (.inl rfl) Try.results4 (.cons (.tmp rfl) .nil) rfl Splits.nil
 ·
  have h := condF hb1 h
  refine TC.skip (TX.next ?_)
  obtain ⟨j1, hj1, h⟩ := joinE h
  refine TC.cutN (β := Int) 1 rfl (fun b => j1 b = some r) (fun b => []) (fun b => [(0, vrows1), (1, .int .i64 indent1), (5, .pointer (some ⟨b1, 0, none⟩)), (7, .int .i64 b)]) (fun b => [cells b1 [.int .i64 l1.Width, .int .i64 l1.Height, .int .i64 l1.Turn, .int .i64 l1.Every] 23]) (fun cut => ?_) ?_
  ·
   refine TC.seq (TC.region (TO.assign rfl dc rfl (TO.nil (TX.next (cut (TC.seq (TC.region (TO.assign rfl dc rfl (TO.nil (TX.next (TC.block ?_)))))))))))
   refine TC.loopD (β := Nat × Int × Int) (fun b => loopG (fun _ _ => none) (law30_PageCosts_s1 rows1 j1) b.1 b.2.1 b.2.2 = some r) (fun b => []) (fun b => [(0, vrows1), (1, .int .i64 indent1), (5, .pointer (some ⟨b1, 0, none⟩)), (7, .int .i64 b.2.1), (8, .int .i64 b.2.2)]) (fun b => [cells b1 [.int .i64 l1.Width, .int .i64 l1.Height, .int .i64 l1.Turn, .int .i64 l1.Every] 23]) (fun b => b.1) (fuel, 0, 0) h rfl (Sbs.cons rfl (Sbs.cons rfl (Sbs.cons rfl (Sbs.cons rfl (Sbs.cons rfl (Sbs.nil)))))) (Splits.of [0] kr rfl) ?_
   rintro ⟨n5, n4, i3⟩ h
   cases n5 with
   | zero => exact noneE h
   | succ n5 =>
    obtain ⟨ag1, hag1⟩ : ∃ ag, ag = loopG (fun _ _ => none) (law30_PageCosts_s1 rows1 j1) n5 := ⟨_, rfl⟩
    have h : law30_PageCosts_s1 rows1 j1 ag1 n4 i3 = some r := by rw [hag1]; exact h
    unfold law30_PageCosts_s1 at h
    show TC _ _ _ _ _ ([]) _ _ [(0, vrows1), (1, .int .i64 indent1), (5, .pointer (some ⟨b1, 0, none⟩)), (7, .int .i64 n4), (8, .int .i64 i3)] [cells b1 [.int .i64 l1.Width, .int .i64 l1.Height, .int .i64 l1.Turn, .int .i64 l1.Every] 23]
    refine TC.seq (TC.seq (TC.region (TO.move rfl dc rfl (TO.move rfl dc rfl (TO.lenVw hwrows1 rfl dc rfl Try.underlying25 (TO.bin rfl dc rfl rfl bin_lss (TO.nil (TX.next ?_))))))))
    refine TC.condB rfl (fun hb2 => ?_) (fun hb2 => ?_)
    ·
     have h := condT hb2 h
     refine TC.skip (TX.next (TC.seq (TC.block (TC.seq (TC.seq (TC.region (TO.move rfl dc rfl (TO.move rfl dc rfl ?_))))))))
     obtain ⟨q1, hq2, h⟩ := andE h
     refine TO.indexVw hwrows1 hq2 Try.underlying25 sz_9 rfl dc rfl rfl rfl (TO.loadRowRd (n := krows1 + (i3 : Int).toNat) (j := 0) (i := 0) (q := q1) hrd rfl (by omega) sc_9 rfl dc rfl (Vw.get hwrows1 hq2) rfl rfl (TO.lenStr rfl dc rfl Try.underlying9 (TO.bin rfl dc rfl rfl bin_gtr (TO.move rfl dc rfl ?_))))
     refine TO.split (s := 27) rfl (fun hb3 => ?_) (fun hb3 => ?_)
     ·
      have h := condT hb3 h
      refine TO.skip rfl dc (TO.skip rfl dc (TO.pick (b := true) rfl dc rfl rfl (TO.nil (TX.next (TC.condT rfl (TC.seq (TC.region (TO.assign rfl dc rfl (TO.nil (TX.next (TC.ret (TX.thenRet (TX.blockRet ?_)))))))))))))
      refine TX.thenRet (TX.thenRet (TX.blockRet (TX.thenRet ?_)))
      cases h
      exact TX.fin (rs := [.tmp 6]) () (.inl rfl) Try.results4 (.cons (.tmp rfl) .nil) rfl Splits.nil
     ·
      have h := condF hb3 h
      refine TO.move rfl dc rfl (TO.bin rfl dc rfl rfl bin_gtr (TO.pick (b := false) rfl dc rfl rfl (TO.nil (TX.next ?_))))
      refine TC.condB rfl (fun hb4 => ?_) (fun hb4 => ?_)
      ·
       have h := condT hb4 h
       refine TC.seq (TC.region (TO.assign rfl dc rfl (TO.nil (TX.next (TC.ret (TX.thenRet (TX.blockRet (TX.thenRet (TX.thenRet (TX.blockRet (TX.thenRet ?_)))))))))))
       cases h
       exact TX.fin (rs := [.tmp 6]) () (.inl rfl) Try.results4 (.cons (.tmp rfl) .nil) rfl Splits.nil
      ·
       have h := condF hb4 h
       refine TC.skip (TX.next (TC.region (TO.move rfl dc rfl (TO.move rfl dc rfl (TO.move rfl dc rfl ?_)))))
       obtain ⟨q2, hq3, h⟩ := andE h
       refine TO.indexVw hwrows1 hq3 Try.underlying25 sz_9 rfl dc rfl rfl rfl (TO.loadRowRd (n := krows1 + (i3 : Int).toNat) (j := 0) (i := 0) (q := q2) hrd rfl (by omega) sc_9 rfl dc rfl (Vw.get hwrows1 hq3) rfl rfl (TO.lenStr rfl dc rfl Try.underlying9 ?_))
       obtain ⟨hg1, h⟩ := grdE h
       refine TO.bin rfl dc rfl rfl (bin_add (r := n4 + (q2.size : Int)) (IntWalk.i64_in _ hg1)) (TO.assign rfl dc rfl (TO.nil (TX.blockNormal (TX.next (TC.region (TO.move rfl dc rfl ?_))))))
       obtain ⟨hg2, h⟩ := grdE h
       refine TO.bin rfl dc rfl rfl (bin_add (r := i3 + 1) (IntWalk.i64_in _ hg2)) (TO.assign rfl dc rfl (TO.nil ?_))
       subst hag1
       exact TX.againD (n5, n4 + (q2.size : Int), i3 + 1) h (Nat.lt_succ_self _) rfl (Sbs.cons rfl (Sbs.cons rfl (Sbs.cons rfl (Sbs.cons rfl (Sbs.cons rfl (Sbs.nil)))))) (Splits.of [0] kr rfl)
    ·
     have h := condF hb2 h
     refine TC.exit (TX.thenExit (TX.thenExit (TX.blockHere ?_)))
     exact TX.meetD n4 h rfl (Sbs.cons rfl (Sbs.cons rfl (Sbs.cons rfl (Sbs.cons rfl (Sbs.nil))))) (Splits.of [0] kr rfl)
  ·
   rintro n1 h
   rw [hj1] at h
   show TC _ _ _ _ _ ([]) _ _ [(0, vrows1), (1, .int .i64 indent1), (5, .pointer (some ⟨b1, 0, none⟩)), (7, .int .i64 n1)] [cells b1 [.int .i64 l1.Width, .int .i64 l1.Height, .int .i64 l1.Turn, .int .i64 l1.Every] 23]
   obtain ⟨j2, hj2, h⟩ := joinE h
   refine TC.cutN (β := Unit) 0 rfl (fun b => j2 = some r) (fun b => []) (fun b => [(0, vrows1), (1, .int .i64 indent1), (5, .pointer (some ⟨b1, 0, none⟩)), (7, .int .i64 n1)]) (fun b => [cells b1 [.int .i64 l1.Width, .int .i64 l1.Height, .int .i64 l1.Turn, .int .i64 l1.Every] 23]) (fun cut => ?_) ?_
   ·
    refine cut (TC.seq (TC.region (TO.move rfl dc rfl (TO.bin rfl dc rfl rfl bin_gtr (TO.move rfl dc rfl ?_)))))
    refine TO.split (s := 40) rfl (fun hb5 => ?_) (fun hb5 => ?_)
    ·
     have h := condT hb5 h
     refine TO.move rfl dc rfl (TO.bin rfl dc rfl rfl bin_leq (TO.pick (b := true) rfl dc rfl rfl (TO.nil (TX.next ?_))))
     refine TC.condB rfl (fun hb6 => ?_) (fun hb6 => ?_)
     ·
      have h := condT hb6 h
      refine TC.seq (TC.region (TO.assign rfl dc rfl (TO.nil (TX.next (TC.ret (TX.thenRet ?_))))))
      cases h
      exact TX.fin (rs := [.tmp 6]) () (.inl rfl) Try.results4 (.cons (.tmp rfl) .nil) rfl Splits.nil
     ·
      have h := condF hb6 h
      refine TC.skip ?_
      exact TX.meetD () h rfl (Sbs.cons rfl (Sbs.cons rfl (Sbs.cons rfl (Sbs.cons rfl (Sbs.nil))))) (Splits.of [0] kr rfl)
    ·
     have h := condF hb5 h
     refine TO.skip rfl dc (TO.skip rfl dc (TO.pick (b := false) rfl dc rfl rfl (TO.nil (TX.next (TC.condF rfl (TC.skip ?_))))))
     exact TX.meetD () h rfl (Sbs.cons rfl (Sbs.cons rfl (Sbs.cons rfl (Sbs.cons rfl (Sbs.nil))))) (Splits.of [0] kr rfl)
   ·
    rintro _ h
    rw [hj2] at h
    show TC _ _ _ _ _ ([]) _ _ [(0, vrows1), (1, .int .i64 indent1), (5, .pointer (some ⟨b1, 0, none⟩)), (7, .int .i64 n1)] [cells b1 [.int .i64 l1.Width, .int .i64 l1.Height, .int .i64 l1.Turn, .int .i64 l1.Every] 23]
    obtain ⟨j3, hj3, h⟩ := joinE h
    refine TC.cutN (β := Int × Int × Bool × Int) 3 rfl (fun b => j3 b.1 b.2.1 b.2.2.1 b.2.2.2 = some r) (fun b => []) (fun b => [(9, .int .i64 b.1), (10, .int .i64 b.2.1), (11, .bool b.2.2.1), (12, .int .i64 b.2.2.2)]) (fun b => []) (fun cut => ?_) ?_
    ·
     refine TC.seq (TC.region (TO.move rfl dc rfl (TO.move rfl dc rfl (TO.loads (k := 0) (cs := [.int .i64 l1.Width, .int .i64 l1.Height, .int .i64 l1.Turn, .int .i64 l1.Every]) rw_23 rfl dc rfl rfl rfl rfl ?_))))
     obtain ⟨r2, hq4, h⟩ := andE h
     refine TO.callPR (v := .tuple #[.int .i64 r2.1, .int .i64 r2.2]) (vs := [vrows1, .int .i64 indent1, .agg #[.int .i64 l1.Width, .int .i64 l1.Height, .int .i64 l1.Turn, .int .i64 l1.Every]]) hrd rfl dc rfl rfl rfl en_11 (page_Cost_fn (l1 := l1) hwrows1 hq4) (.ro 0 rfl .nil) (TO.move rfl dc rfl (TO.extract rfl dc rfl rfl (TO.extract rfl dc rfl rfl (TO.assign rfl dc rfl (TO.assign rfl dc rfl (TO.nil (TX.next (TC.seq (TC.region (TO.move rfl dc rfl (TO.move rfl dc rfl (TO.loads (k := 0) (cs := [.int .i64 l1.Width, .int .i64 l1.Height, .int .i64 l1.Turn, .int .i64 l1.Every]) rw_23 rfl dc rfl rfl rfl rfl ?_))))))))))))
     obtain ⟨r3, hq5, h⟩ := andE h
     refine TO.callP (v := .bool r3) (vs := [.int .i64 n1, .int .i64 indent1, .agg #[.int .i64 l1.Width, .int .i64 l1.Height, .int .i64 l1.Turn, .int .i64 l1.Every]]) rfl dc rfl rfl rfl en_8 (law30_fine_fn (l1 := l1) hq5) (TO.assign rfl dc rfl (TO.nil (TX.next (TC.seq (TC.region (TO.assign rfl dc rfl (TO.nil (TX.next (cut (TC.seq (TC.region (TO.move rfl dc rfl (TO.nil ?_)))))))))))))
     refine TX.next ?_
     refine TC.condB rfl (fun hb7 => ?_) (fun hb7 => ?_)
     ·
      have h := condT hb7 h
      refine TC.region (TO.move rfl dc rfl (TO.move rfl dc rfl (TO.loads (k := 0) (cs := [.int .i64 l1.Width, .int .i64 l1.Height, .int .i64 l1.Turn, .int .i64 l1.Every]) rw_23 rfl dc rfl rfl rfl rfl ?_)))
      obtain ⟨r4, hq6, h⟩ := andE h
      refine TO.callPR (v := .tuple #[.int .i64 r4.1, .bool r4.2]) (vs := [vrows1, .int .i64 indent1, .agg #[.int .i64 l1.Width, .int .i64 l1.Height, .int .i64 l1.Turn, .int .i64 l1.Every]]) hrd rfl dc rfl rfl rfl en_12 (ref30_Cost_fn (l1 := l1) hwrows1 hq6) (.ro 0 rfl .nil) (TO.move rfl dc rfl (TO.extract rfl dc rfl rfl (TO.extract rfl dc rfl rfl (TO.assign rfl dc rfl (TO.assign rfl dc rfl (TO.nil ?_))))))
      exact TX.meetD (r2.1, r2.2, r4.2, r4.1) h rfl (Sbs.cons rfl (Sbs.cons rfl (Sbs.cons rfl (Sbs.cons rfl (Sbs.nil))))) Splits.nil
     ·
      have h := condF hb7 h
      refine TC.skip ?_
      exact TX.meetD (r2.1, r2.2, r3, 0) h rfl (Sbs.cons rfl (Sbs.cons rfl (Sbs.cons rfl (Sbs.cons rfl (Sbs.nil))))) Splits.nil
    ·
     rintro ⟨cost1, e1, ok1, want1⟩ h
     rw [hj3] at h
     show TC _ _ _ _ _ ([]) _ _ [(9, .int .i64 cost1), (10, .int .i64 e1), (11, .bool ok1), (12, .int .i64 want1)] []
     refine TC.seq (TC.seq (TC.region (TO.move rfl dc rfl (TO.un rfl dc rfl un_not (TO.nil (TX.next ?_))))))
     refine TC.condB rfl (fun hb8 => ?_) (fun hb8 => ?_)
     ·
      have h := condT hb8 h
      refine TC.seq (TC.region (TO.move rfl dc rfl (TO.bin rfl dc rfl rfl bin_eql (TO.move rfl dc rfl ?_))))
      refine TO.split (s := 67) rfl (fun hb9 => ?_) (fun hb9 => ?_)
      ·
       have h := condT hb9 h
       refine TO.move rfl dc rfl (TO.bin rfl dc rfl rfl bin_eql (TO.pick (b := true) rfl dc rfl rfl (TO.move rfl dc rfl ?_)))
       refine TO.split (s := 71) rfl (fun hb10 => ?_) (fun hb10 => ?_)
       ·
        have h := condT hb10 h
        obtain ⟨r5, hq7, h⟩ := andE h
        refine TO.callP (v := .bool r5) (vs := []) rfl dc rfl rfl rfl en_6 (law30_live_fn hq7) (TO.pick (b := true) rfl dc rfl rfl (TO.assign rfl dc rfl (TO.nil (TX.next (TC.ret (TX.thenRet ?_))))))
        cases h
        exact TX.fin (rs := [.tmp 6]) () (.inl rfl) Try.results4 (.cons (.tmp rfl) .nil) rfl Splits.nil
       ·
        have h := condF hb10 h
        refine TO.skip rfl dc (TO.pick (b := false) rfl dc rfl rfl (TO.assign rfl dc rfl (TO.nil (TX.next (TC.ret (TX.thenRet ?_))))))
        cases h
        exact TX.fin (rs := [.tmp 6]) () (.inl rfl) Try.results4 (.cons (.tmp rfl) .nil) rfl Splits.nil
      ·
       have h := condF hb9 h
       refine TO.skip rfl dc (TO.skip rfl dc (TO.pick (b := false) rfl dc rfl rfl (TO.move rfl dc rfl (TO.skip rfl dc (TO.pick (b := false) rfl dc rfl rfl (TO.assign rfl dc rfl (TO.nil (TX.next (TC.ret (TX.thenRet ?_))))))))))
       cases h
       exact TX.fin (rs := [.tmp 6]) () (.inl rfl) Try.results4 (.cons (.tmp rfl) .nil) rfl Splits.nil
     ·
      have h := condF hb8 h
      refine TC.skip (TX.next (TC.seq (TC.region (TO.move rfl dc rfl (TO.move rfl dc rfl (TO.bin rfl dc rfl rfl bin_eql (TO.move rfl dc rfl ?_)))))))
      refine TO.split (s := 77) rfl (fun hb11 => ?_) (fun hb11 => ?_)
      ·
       have h := condT hb11 h
       refine TO.move rfl dc rfl (TO.bin rfl dc rfl rfl bin_eql (TO.pick (b := true) rfl dc rfl rfl (TO.assign rfl dc rfl (TO.nil (TX.next (TC.ret ?_))))))
       cases h
       exact TX.fin (rs := [.tmp 6]) () (.inl rfl) Try.results4 (.cons (.tmp rfl) .nil) rfl Splits.nil
      ·
       have h := condF hb11 h
       refine TO.skip rfl dc (TO.skip rfl dc (TO.pick (b := false) rfl dc rfl rfl (TO.assign rfl dc rfl (TO.nil (TX.next (TC.ret ?_))))))
       cases h
       exact TX.fin (rs := [.tmp 6]) () (.inl rfl) Try.results4 (.cons (.tmp rfl) .nil) rfl Splits.nil
end Go.Proofs.Ytnhdnpdbmgeheaa
namespace Go.Proofs.Ytnhdnpdbmgeheaa
open Go.RowKit Go.Lib Go.ChangeShapes Go.WideShapes
set_option linter.unusedVariables false
set_option linter.unusedSimpArgs false
theorem FnR.p {P : Program} {f : FuncId} {vs : List Value} {RD : List Asn} {v : Value} (h : FnR P f vs RD [] (fun _ : Unit => v) (fun _ => [])) (w : World) (hr : Rd w (fun _ => False) RD) : Calls P f vs.toArray w fun e w' => e = .returned v ∧ Below w.heap.size w w' :=
  (h w (fun _ => False) hr (fun _ h => h)).mono fun e w' ⟨_, h1, C', h2, h3⟩ => ⟨h1, h3.toBelow (Nat.le_refl _) (fun _ _ h => h)⟩
theorem cell_lt {w : World} {b j : Nat} {v : Value} (h : w.cell? ⟨b, j, none⟩ = some v) : b < w.heap.size := by
  rcases Nat.lt_or_ge b w.heap.size with h1 | h1
  · exact h1
  · have : w.heap[b]? = none := Array.getElem?_eq_none h1
    simp [World.cell?, this] at h
/-- A slice that can be read can be read. -/
theorem see_row {α : Type} {enc : α → List Value} {m : α → Value} (hm : ∀ x, enc x = [m x]) {w : World} {a : Addr} {ys : List α} {cap : Nat} (hl : ys.length ≤ cap) (hc : ∀ i y, ys[i]? = some y → w.cell? (a.add i) = some (m y)) :
    ∃ vv k L, Vw vv L 1 k (.slice (some a) ys.length cap) ys ∧ (roRow enc 1 vv k L).P (fun b => b < w.heap.size) w := by
  cases ys with
  | nil =>
    refine ⟨.slice none 0 0, 0, [], ⟨Nat.le_refl _, rfl, _, _, rfl, hl, fun h => absurd rfl h⟩, fun b hb => hb, fun i x j v hi hx => by simp at hx⟩
  | cons y ys =>
    obtain ⟨b, off, spot⟩ := a
    have hspot : spot = none := by simpa [Addr.add] using World.cell?_spot (hc 0 y rfl)
    subst hspot
    refine ⟨.slice (some ⟨b, 0, none⟩) 0 0, off, List.replicate off y ++ (y :: ys), ⟨by simp, ?_, _, _, rfl, hl, fun _ => by simp [vblk]⟩, fun b hb => hb, fun i x j v hi hx hv => ?_⟩
    · rw [List.drop_left' (by simp), List.take_length]
    · rw [List.getElem?_append_right (by simpa using hi), List.length_replicate] at hx
      have h1 := hc _ _ hx
      rw [add_plain, show off + (i - off) = i by omega] at h1
      rw [hm] at hv
      have hj : j = 0 := by
        cases j with
        | zero => rfl
        | succ j => simp at hv
      subst hj
      have hv' : m x = v := by simpa using hv
      subst hv'
      show b < w.heap.size ∧ w.cell? ⟨b, i * 1 + 0, none⟩ = some (m x)
      rw [Nat.mul_one, Nat.add_zero]
      exact ⟨cell_lt h1, h1⟩
section
variable {H : Type} {enc : TypeId × Value → H} {P : Program} {w : World} {base : Nat} {held : Bool} {fuel : Nat} {t e : TypeId} {cs : List Value} {x : DataW H × List MemPlace}
theorem see_strings (ht : P.underlying t = some (.slice e)) (he : P.underlying e = some .string) (hc : P.cellsOf e = 1) (h : DataW.trod enc P w base (fun _ => true) held fuel t cs = some x) :
    ∃ (hd : Hd) (zs : List ByteArray) (vv : Value) (k : Nat) (L : List ByteArray), cs = [hd.v] ∧ Vw vv L 1 k hd.v zs ∧ (roRow encS 1 vv k L).P (fun b => b < w.heap.size) w ∧ ((x.1 = .nil ∧ zs = []) ∨ ∃ B, x.1 = .slice (strs zs) B) := by
  rcases open_strings ht he hc h with ⟨rfl, rfl⟩ | ⟨a, len, cap, zs, rfl, hb, hl, hm, hz, rfl, hcell, hw⟩
  · exact ⟨Hd.nil, [], .slice none 0 0, 0, [], rfl, ⟨Nat.le_refl _, rfl, none, 0, rfl, Nat.le_refl _, fun h => absurd rfl h⟩, ⟨fun b hb => hb, fun i x j v hi hx => by simp at hx⟩, .inl ⟨rfl, rfl⟩⟩
  · rw [if_pos rfl] at hz
    have hlen : (zs.take len).length = len := by rw [List.length_take]; omega
    have hr := see_row (enc := encS) (m := fun x => .string x) (fun _ => rfl) (w := w) (a := a) (ys := zs.take len) (cap := cap) (by omega) (fun i y hy => by
      rw [List.getElem?_take] at hy
      split at hy
      · have hi : i < zs.length := (List.getElem?_eq_some_iff.1 hy).1
        rw [hcell i hi, List.getD, hy]; rfl
      · cases hy)
    obtain ⟨vv, k, L, h1, h2⟩ := hr
    rw [hlen] at h1
    exact ⟨⟨some a, len, cap⟩, zs.take len, vv, k, L, rfl, h1, h2, .inr ⟨_, rfl⟩⟩
/-- A record of four whole numbers. -/
theorem see_four {q : IntKind} {fs : Array Field} (ht : P.underlying t = some (.struct fs)) (hfs : fs.toList.map (fun f => (f.type, f.offset)) = [(e, 0), (e, 1), (e, 2), (e, 3)]) (hsz : P.cellsOf t = 4) (h1 : P.cellsOf e = 1) (he : P.underlying e = some (.int q)) {sp : Nat → Bool} (h : DataW.trod enc P w base sp held fuel t cs = some x) :
    ∃ a b c d : Int, cs = [.int q a, .int q b, .int q c, .int q d] ∧ (Lit.int q a).wf = true ∧ (Lit.int q b).wf = true ∧ (Lit.int q c).wf = true ∧ (Lit.int q d).wf = true := by
  obtain ⟨xs, n, rfl, rfl, hl, hx, hf⟩ := DataW.trod_struct ht h
  rw [hsz] at hl
  have key : ∀ i, i < 4 → ∃ z, DataW.trod enc P w base sp held n e ((cs.drop i).take 1) = some z := by
    intro i hi
    have hg : (fs.toList.map (fun f => (f.type, f.offset)))[i]? = some (e, i) := by
      rw [hfs]
      have : i = 0 ∨ i = 1 ∨ i = 2 ∨ i = 3 := by omega
      rcases this with rfl | rfl | rfl | rfl <;> rfl
    rw [List.getElem?_map] at hg
    cases hq : fs.toList[i]? with
    | none => rw [hq] at hg; cases hg
    | some f =>
      rw [hq] at hg
      have hfe : (f.type, f.offset) = (e, i) := Option.some.inj hg
      have h2 := hf i f (by rw [← Array.getElem?_toList]; exact hq)
      rw [(Prod.mk.inj hfe).1, (Prod.mk.inj hfe).2, h1] at h2
      have hsz4 : fs.size = 4 := by have := congrArg List.length hfs; simpa using this
      rw [List.getElem?_eq_getElem (by omega)] at h2
      exact ⟨_, h2⟩
  match cs, hl with
  | [c0, c1, c2, c3], _ =>
    obtain ⟨z0, k0⟩ := key 0 (by decide)
    obtain ⟨z1, k1⟩ := key 1 (by decide)
    obtain ⟨z2, k2⟩ := key 2 (by decide)
    obtain ⟨z3, k3⟩ := key 3 (by decide)
    obtain ⟨a, ea, _, wa⟩ := DataW.trod_int he k0
    obtain ⟨b, eb, _, wb⟩ := DataW.trod_int he k1
    obtain ⟨c, ec, _, wc⟩ := DataW.trod_int he k2
    obtain ⟨d, ed, _, wd⟩ := DataW.trod_int he k3
    simp at ea eb ec ed
    exact ⟨a, b, c, d, by rw [ea, eb, ec, ed], wa, wb, wc, wd⟩
theorem see_layout {q : IntKind} {fs : Array Field} {v : Value} {d : DataW H} {ps : List MemPlace} {r : Reach} {b0 : Nat} {sp : Nat → Bool} (ht : P.underlying t = some (.struct fs)) (hfs : fs.toList.map (fun f => (f.type, f.offset)) = [(e, 0), (e, 1), (e, 2), (e, 3)]) (hsz : P.cellsOf t = 4) (h1 : P.cellsOf e = 1) (he : P.underlying e = some (.int q)) (hval : Value.okWide P w r b0 t v) (h : DataW.Trod enc P w base sp held t v d ps) :
    ∃ a b c g : Int, v = .agg #[.int q a, .int q b, .int q c, .int q g] := by
  obtain ⟨cs, rfl, hcs⟩ := okWide_struct ht hval
  obtain ⟨fuel, h⟩ := h
  have h : DataW.trod enc P w base sp held fuel t cs.toList = some (d, ps) := h
  obtain ⟨a, b, c, g, h2, _⟩ := see_four ht hfs hsz h1 he h
  exact ⟨a, b, c, g, by rw [← h2]⟩
end
end Go.Proofs.Ytnhdnpdbmgeheaa
namespace Go.Proofs.Ytnhdnpdbmgeheaa
open Go.RowKit Go.Lib
set_option linter.unusedVariables false
set_option linter.unusedSimpArgs false
theorem costs_loop (L : List ByteArray) (hl : L.length ≤ 4611686018427387904) (j : Int → Option Bool) (hj : L.length ≤ 2001 → (∀ x ∈ L, x.size ≤ 2000) → j (sizL L : Int) = some true) : ∀ (ts pre : List ByteArray) (m : Nat), L = pre ++ ts → ts.length < m → pre.length ≤ 2001 → (∀ x ∈ pre, x.size ≤ 2000) → sizL pre ≤ 2000 * pre.length →
    loopG (fun _ _ => none) (law30_PageCosts_s1 L j) m (sizL pre : Int) (pre.length : Int) = some true
  | [], pre, m, h, hm, hp, hx, hz => by
    obtain ⟨m, rfl⟩ : ∃ q, m = q + 1 := ⟨m - 1, by simp at hm; omega⟩
    rw [List.append_nil] at h; subst h
    rw [loopI]
    generalize loopG (fun _ _ => none) (law30_PageCosts_s1 L j) m = ag
    unfold law30_PageCosts_s1
    exact condFI lp_ge (hj hp hx)
  | t :: ts, pre, m, h, hm, hp, hx, hz => by
    obtain ⟨m, rfl⟩ : ∃ q, m = q + 1 := ⟨m - 1, by simp at hm; omega⟩
    have h1 : sizL (pre ++ [t]) = sizL pre + t.size := by rw [sizL_app]; show sizL pre + (t.size + 0) = _; omega
    have ih := fun q1 q2 q3 => costs_loop L hl j hj ts (pre ++ [t]) m (by rw [h]; simp) (by simp at hm; omega) q1 q2 q3
    rw [loopI]
    generalize loopG (fun _ _ => none) (law30_PageCosts_s1 L j) m = ag at ih ⊢
    have hg : L[pre.length]? = some t := by rw [h]; simp
    rw [h1, show (((pre ++ [t]).length : Nat) : Int) = (pre.length : Int) + 1 by simp] at ih
    have hll : (pre ++ [t]).length = pre.length + 1 := by simp
    unfold law30_PageCosts_s1
    refine condTI (lp_lt hg) (thenI (lp_get hg) ?_)
    by_cases c1 : (2000 : Int) < (t.size : Int)
    · exact condTI (decide_eq_true c1) rfl
    refine condFI (decide_eq_false c1) ?_
    by_cases c2 : (2000 : Int) < (pre.length : Int)
    · exact condTI (decide_eq_true c2) rfl
    refine condFI (decide_eq_false c2) (thenI (lp_get hg) (grdI ⟨by omega, by omega⟩ (grdI ⟨by omega, by omega⟩ ?_)))
    rw [show (sizL pre : Int) + (t.size : Int) = ((sizL pre + t.size : Nat) : Int) by omega]
    refine ih (by omega) ?_ (by rw [hll]; omega)
    intro x hx'
    rcases List.mem_append.1 hx' with h' | h'
    · exact hx x h'
    · rw [List.mem_singleton.1 h']; omega
theorem pageCosts_v (L : List ByteArray) (hl : L.length ≤ 4611686018427387904) (i : Int) (l : Gapi_Layout) : law30_PageCosts_v L i l = some true := by
  unfold law30_PageCosts_v
  refine thenI live_v (condFI rfl (joinI ?_))
  refine costs_loop L hl _ ?_ L [] fuel rfl (big_fuel hl) (Nat.zero_le _) (fun x h => by cases h) (Nat.le_refl _)
  intro hlen hmem
  have main : (sizL L ≤ 400 ∨ 1024 < sizL L) → joinK (fun (j3 : Int → Int → Bool → Int → Option Bool) => andThen (page_Cost_v L i l) fun (r2 : (Int × Int)) => andThen (law30_fine_v (sizL L : Int) i l) fun (r3 : Bool) => bcond (r3) (andThen (ref30_Cost_v L i l) fun (r4 : (Int × Bool)) => j3 r2.1 r2.2 r4.2 r4.1) (j3 r2.1 r2.2 r3 0))
      (fun (cost1 : Int) (e1 : Int) (ok1 : Bool) (want1 : Int) => bcond (!ok1) (bcond ((cost1 : Int) == 0) (bcond ((e1 : Int) == 2) (andThen (law30_live_v) fun (r5 : Bool) => some r5) (some false)) (some false)) (bcond ((cost1 : Int) == want1) (some ((e1 : Int) == 0)) (some false))) = some true := by
    intro hsz
    have hC := Cost_v L (by omega) (fun x hx => by have := hmem x hx; omega) i l
    refine joinI (thenI hC (thenI (fine_v _ _ _) ?_))
    by_cases hf : mayB l = true ∧ 0 ≤ i ∧ i ≤ 1024 ∧ sizL L ≤ 1024
    · rw [if_pos hf]
      obtain ⟨f1, f2, f3, f4⟩ := hf
      rw [f1, decide_eq_true f2, decide_eq_true f3, decide_eq_true (show (sizL L : Int) ≤ 1024 by omega)]
      obtain ⟨g1, g2, g3⟩ := w_rng f1 (i := i) ⟨f2, f3⟩
      refine condTI rfl ?_
      rw [rCost_v L (by omega) (by omega) i l g1 g2 g3]
      show andThen (rRes (fun c => some (c, true)) 0 (costF (catL L) (fstW i l) (nxtW l) 0 L)) _ = _
      cases costF (catL L) (fstW i l) (nxtW l) 0 L with
      | none => exact thenI rfl (condTI rfl (condTI rfl (condTI rfl (thenI live_v rfl))))
      | some c =>
        refine thenI rfl (condFI rfl (condTI ?_ rfl))
        show (c == (0 : Int) + c) = true
        rw [Int.zero_add, beq_self_eq_true]
    · rw [if_neg hf]
      have hb : (mayB l && (decide ((0 : Int) ≤ i) && (decide ((i : Int) ≤ 1024) && decide ((sizL L : Int) ≤ 1024)))) = false := by
        cases h : (mayB l && (decide ((0 : Int) ≤ i) && (decide ((i : Int) ≤ 1024) && decide ((sizL L : Int) ≤ 1024)))) with
        | false => rfl
        | true =>
          simp only [Bool.and_eq_true, decide_eq_true_eq] at h
          exact absurd ⟨h.1, h.2.1, h.2.2.1, by omega⟩ hf
      rw [hb]
      exact condFI rfl (condTI rfl (condTI rfl (condTI rfl (thenI live_v rfl))))
  refine joinI ?_
  by_cases h1 : (400 : Int) < (sizL L : Int)
  · refine condTI (decide_eq_true h1) ?_
    by_cases h2 : (sizL L : Int) ≤ 1024
    · exact condTI (decide_eq_true h2) rfl
    · exact condFI (decide_eq_false h2) (main (.inr (by omega)))
  · exact condFI (decide_eq_false h1) (main (.inl (by omega)))
theorem pageCosts_any (L : List ByteArray) (i w0 h0 t0 e0 : Int) (hd : Hd) {vv : Value} {k : Nat} {M : List ByteArray} (w : World) (hw : Vw vv M 1 k hd.v L) (hr : (roRow encS 1 vv k M).P (fun b => b < w.heap.size) w) (hc : L.length ≤ 4611686018427387904) :
    Calls Try.prog 4 #[hd.v, .int .i64 i, .agg #[.int .i64 w0, .int .i64 h0, .int .i64 t0, .int .i64 e0]] w fun e w' => e = .returned (.bool true) ∧ Below w.heap.size w w' :=
  FnR.p (law30_PageCosts_fn (l1 := ⟨w0, h0, t0, e0⟩) hw (pageCosts_v L hc i ⟨w0, h0, t0, e0⟩)) w (fun A hA => by
    rcases List.mem_singleton.1 hA with rfl
    exact ⟨_, hr, fun _ _ h => h⟩)
end Go.Proofs.Ytnhdnpdbmgeheaa
