/-
  Walks: digits, kinds and vowels, as package class says them. Nothing is assumed.
-/
import Derived.Test.YtekjfmjeemjcjaaClsW
namespace Go.Proofs.Ytekjfmjeemjcjaa
open Go.RowKit Go.Lib Go.Shelf
set_option linter.unusedVariables false
set_option linter.unusedSimpArgs false

theorem digit_any (r : Int) (w : World) (h0 : -2147483648 ≤ r) (h1 : r ≤ 2147483647) :
    Calls Try.prog 41 #[.int .i32 r] w fun e w' => e = .returned (.tuple #[.int .i64 (if 48 ≤ r ∧ r ≤ 57 then r - 48 else 0), .bool (decide (48 ≤ r ∧ r ≤ 57))]) ∧ w = w' := by
  by_cases h : 48 ≤ r ∧ r ≤ 57
  · rw [if_pos h, decide_eq_true h]
    obtain ⟨h2, h3⟩ := h
    go_enter Try.func41, Try.ntmps41
    go_wp2
    all_goals
      go_ret2
      exact ⟨rfl, rfl⟩
  · rw [if_neg h, decide_eq_false h]
    by_cases h2 : r < 48
    · clear h
      go_enter Try.func41, Try.ntmps41
      go_wp2
      all_goals
        go_ret2
        exact ⟨rfl, rfl⟩
    · have h3 : 57 < r := by omega
      have h4 : 48 ≤ r := by omega
      clear h h2
      go_enter Try.func41, Try.ntmps41
      go_wp2
      all_goals
        go_ret2
        exact ⟨rfl, rfl⟩

set_option maxHeartbeats 4000000 in
theorem kind_any (r : Int) (w : World) (h0 : -2147483648 ≤ r) (h1 : r ≤ 2147483647) :
    Calls Try.prog 32 #[.int .i32 r] w fun e w' => e = .returned (.int .i64 (kind r)) ∧ w = w' := by
  go_enter Try.func32, Try.ntmps32
  go_wp2_with (first | (go_at_call 59; refine (letter_any _ _ (by omega) (by omega)).mono ?_; rintro e w' ⟨rfl, rfl⟩) | (go_at_call 60; refine (mark_any _ _ (by omega) (by omega)).mono ?_; rintro e w' ⟨rfl, rfl⟩))
  all_goals
    go_ret
    refine ⟨ret_int ?_, rfl⟩
    go_light
    try simp only [decide_eq_true_eq, bne_iff_ne, ne_eq, Bool.not_eq_true', decide_eq_false_iff_not, Bool.and_eq_true, Bool.or_eq_true, Bool.or_eq_false_iff, Bool.and_eq_false_iff, bne_eq_false_iff_eq, beq_iff_eq, beq_eq_false_iff_ne, Bool.false_eq_true, false_iff, true_iff, iff_true, iff_false, Bool.not_eq_false', Bool.not_true, Bool.not_false] at *
    grind [kind, kindP]

/-- A piece's kind. -/
def kindOf (b : Bool) (r : Int) : Int := if b then 11 else kind r

theorem of_any (i wd r : Int) (b : Bool) (w : World) (h0 : -2147483648 ≤ r) (h1 : r ≤ 2147483647) :
    Calls Try.prog 34 #[.agg #[.int .i64 i, .int .i64 wd, .int .i32 r, .bool b]] w fun e w' => e = .returned (.int .i64 (kindOf b r)) ∧ Below w.heap.size w w' := by
  cases b
  · go_enter Try.func34, Try.ntmps34
    go_wp2_with (go_at_call 32; refine (kind_any _ _ (by omega) (by omega)).mono ?_; rintro e w' ⟨rfl, rfl⟩)
    go_ret
    exact ⟨ret_int (by simp [kindOf]), (Below.refl _ _).alloc (Nat.le_refl _) _⟩
  · go_enter Try.func34, Try.ntmps34
    go_wp2_with (go_at_call 32; refine (kind_any _ _ (by omega) (by omega)).mono ?_; rintro e w' ⟨rfl, rfl⟩)
    go_ret
    exact ⟨ret_int (by simp [kindOf]), (Below.refl _ _).alloc (Nat.le_refl _) _⟩


theorem indexByte_any (s : ByteArray) (c : Int) (w : World) :
    Calls Try.prog 66 #[.string s, .int .u8 c] w fun e w' => e = .returned (.int .i64 (indexByte s.data.toList c.toNat.toUInt8)) ∧ w = w' := by
  have h2 : ∀ w : World, Calls Try.prog 73 #[.string s, .int .u8 c] w fun e w' => e = .returned (.int .i64 (indexByte s.data.toList c.toNat.toUInt8)) ∧ w = w' := by
    intro w
    go_enter Try.func73, Try.ntmps73
    go_wp2
    rw [run_callFunc_extern Try.func75 (by kernel_rfl) (by kernel_rfl) (by kernel_rfl) (e := Extern.BytealgIndexByte.indexByte) (by kernel_rfl), Lib.run_indexByteString]
    simp only [Result.andThen]
    rw [Oper.upon_value]
    go_wp2
    go_ret
    exact ⟨rfl, rfl⟩
  go_enter Try.func66, Try.ntmps66
  go_wp2_with (go_at_call 73; refine (h2 _).mono ?_; rintro e w' ⟨rfl, rfl⟩)
  go_ret
  exact ⟨rfl, rfl⟩

end Go.Proofs.Ytekjfmjeemjcjaa
