/-
  Walks: what a rune is, as package class says it. Nothing is assumed.
-/
import Derived.Test.YtekjfmjeemjcjaaPcW
import Derived.Test.YtekjfmjeemjcjaaCls
namespace Go.Proofs.Ytekjfmjeemjcjaa
open Go.RowKit Go.Lib Go.Shelf
set_option linter.unusedVariables false
set_option linter.unusedSimpArgs false

theorem and1 (r : Int) (h0 : -2147483648 ≤ r) (h1 : r ≤ 2147483647) : (bits BinOp.and IntKind.i32 r 1 == 0) = evenB r := by
  have hk : bits .and .i32 r 1 = r % 2 := by
    have h1 : (BitVec.ofInt 32 1).toNat = 2 ^ 1 - 1 := by decide
    have key : (BitVec.ofInt 32 r &&& BitVec.ofInt 32 1).toNat = (r % ((2 ^ 32 : Nat) : Int)).toNat % 2 ^ 1 := by
      rw [BitVec.toNat_and, BitVec.toNat_ofInt, h1, Nat.and_two_pow_sub_one_eq_mod]
    show IntKind.i32.wrap ((BitVec.ofInt 32 r &&& BitVec.ofInt 32 1).toNat : Nat) = r % 2
    rw [key, IntKind.wrap_i32]
    omega
  rw [hk, evenB, Bool.eq_iff_iff]
  simp
theorem even_any (r : Int) (w : World) (h0 : -2147483648 ≤ r) (h1 : r ≤ 2147483647) :
    Calls Try.prog 65 #[.int .i32 r] w fun e w' => e = .returned (.bool (evenB r)) ∧ w = w' := by
  go_enter Try.func65, Try.ntmps65
  go_wp2
  go_ret
  exact ⟨ret_bool (and1 r h0 h1), rfl⟩

set_option maxHeartbeats 1000000 in
theorem great_any (r : Int) (w : World) (h0 : -2147483648 ≤ r) (h1 : r ≤ 2147483647) :
    Calls Try.prog 39 #[.int .i32 r] w fun e w' => e = .returned (.bool (great r)) ∧ w = w' := by
  go_enter Try.func39, Try.ntmps39
  go_wp2_with (go_at_call 65; refine (even_any _ _ (by omega) (by omega)).mono ?_; rintro e w' ⟨rfl, rfl⟩)
  all_goals
    go_ret
    refine ⟨ret_bool ?_, rfl⟩
    (go_light; rw [Bool.eq_iff_iff]; (try simp only [great_iff, greatP, evenB, decide_eq_true_eq, bne_iff_ne, ne_eq, Bool.not_eq_true', decide_eq_false_iff_not, Bool.and_eq_true, Bool.or_eq_true, Bool.or_eq_false_iff, Bool.and_eq_false_iff, bne_eq_false_iff_eq, beq_iff_eq, beq_eq_false_iff_ne, Bool.false_eq_true, false_iff, true_iff, iff_true, iff_false, Bool.not_eq_false', Bool.not_true, Bool.not_false] at *); omega)

set_option maxHeartbeats 1000000 in
theorem small_any (r : Int) (w : World) (h0 : -2147483648 ≤ r) (h1 : r ≤ 2147483647) :
    Calls Try.prog 42 #[.int .i32 r] w fun e w' => e = .returned (.bool (small r)) ∧ w = w' := by
  go_enter Try.func42, Try.ntmps42
  go_wp2_with (go_at_call 65; refine (even_any _ _ (by omega) (by omega)).mono ?_; rintro e w' ⟨rfl, rfl⟩)
  all_goals
    go_ret
    refine ⟨ret_bool ?_, rfl⟩
    (go_light; rw [Bool.eq_iff_iff]; (try simp only [small_iff, smallP, evenB, decide_eq_true_eq, bne_iff_ne, ne_eq, Bool.not_eq_true', decide_eq_false_iff_not, Bool.and_eq_true, Bool.or_eq_true, Bool.or_eq_false_iff, Bool.and_eq_false_iff, bne_eq_false_iff_eq, beq_iff_eq, beq_eq_false_iff_ne, Bool.false_eq_true, false_iff, true_iff, iff_true, iff_false, Bool.not_eq_false', Bool.not_true, Bool.not_false] at *); omega)

theorem letter_any (r : Int) (w : World) (h0 : -2147483648 ≤ r) (h1 : r ≤ 2147483647) :
    Calls Try.prog 59 #[.int .i32 r] w fun e w' => e = .returned (.bool (letter r)) ∧ w = w' := by
  go_enter Try.func59, Try.ntmps59
  go_wp2_with (first | (go_at_call 39; refine (great_any _ _ (by omega) (by omega)).mono ?_; rintro e w' ⟨rfl, rfl⟩) | (go_at_call 42; refine (small_any _ _ (by omega) (by omega)).mono ?_; rintro e w' ⟨rfl, rfl⟩))
  all_goals
    go_ret
    refine ⟨ret_bool ?_, rfl⟩
    go_light
    simp_all [letter]

theorem script_any (r : Int) (w : World) (h0 : -2147483648 ≤ r) (h1 : r ≤ 2147483647) :
    Calls Try.prog 46 #[.int .i32 r] w fun e w' => e = .returned (.int .i64 (script r)) ∧ w = w' := by
  go_enter Try.func46, Try.ntmps46
  go_wp2_with (go_at_call 59; refine (letter_any _ _ (by omega) (by omega)).mono ?_; rintro e w' ⟨rfl, rfl⟩)
  all_goals
    go_ret
    refine ⟨ret_int ?_, rfl⟩
    go_light
    grind [script]

set_option maxHeartbeats 1000000 in
theorem lower_any (r : Int) (w : World) (h0 : -2147483648 ≤ r) (h1 : r ≤ 2147483647) :
    Calls Try.prog 33 #[.int .i32 r] w fun e w' => e = .returned (.int .i32 (lower r)) ∧ w = w' := by
  by_cases hg : great r = true
  · have hb : r ≤ 2000 ∧ 0 ≤ r := by rw [great_iff] at hg; unfold greatP at hg; omega
    have hb1 := hb.1; have hb2 := hb.2; clear hb
    go_enter Try.func33, Try.ntmps33
    go_wp2_with (go_at_call 39; refine (great_any _ _ (by omega) (by omega)).mono ?_; rintro e w' ⟨rfl, rfl⟩)
    all_goals
      go_ret
      refine ⟨ret_int ?_, rfl⟩
      go_light
      grind [lower]
  · go_enter Try.func33, Try.ntmps33
    go_wp2_with (go_at_call 39; refine (great_any _ _ (by omega) (by omega)).mono ?_; rintro e w' ⟨rfl, rfl⟩)
    all_goals
      go_ret
      refine ⟨ret_int ?_, rfl⟩
      go_light
      simp_all [lower]

set_option maxHeartbeats 1000000 in
theorem back_any (r : Int) (w : World) (h0 : -2147483648 ≤ r) (h1 : r ≤ 2147483647) :
    Calls Try.prog 67 #[.int .i32 r] w fun e w' => e = .returned (.int .i32 (back r)) ∧ w = w' := by
  go_enter Try.func67, Try.ntmps67
  go_wp2
  all_goals
    go_ret
    refine ⟨ret_int ?_, rfl⟩
    go_light
    grind [back]

theorem back_bd (r : Int) : -300 ≤ back r ∧ back r ≤ 300 := by unfold back; (repeat' split) <;> omega
theorem lower_bd (r : Int) (h0 : -2147483648 ≤ r) (h1 : r ≤ 2147483647) : -2147483648 ≤ lower r ∧ lower r ≤ 2147483647 := by
  unfold lower
  by_cases hg : great r = true
  · have hb : r ≤ 2000 ∧ 0 ≤ r := by rw [great_iff] at hg; unfold greatP at hg; omega
    simp only [hg, Bool.not_true, Bool.false_eq_true, if_false]
    (repeat' split) <;> omega
  · simp [hg]; omega

set_option maxHeartbeats 1000000 in
theorem upper_any (r : Int) (w : World) (h0 : -2147483648 ≤ r) (h1 : r ≤ 2147483647) :
    Calls Try.prog 49 #[.int .i32 r] w fun e w' => e = .returned (.int .i32 (upper r)) ∧ w = w' := by
  have hbd1 := (back_bd r).1
  have hbd2 := (back_bd r).2
  by_cases hg : small r = true
  · have hb : r ≤ 2000 ∧ 0 ≤ r := by rw [small_iff] at hg; unfold smallP at hg; omega
    have hb1 := hb.1; have hb2 := hb.2; clear hb
    go_enter Try.func49, Try.ntmps49
    go_wp2_with (first | (go_at_call 42; refine (small_any _ _ (by omega) (by omega)).mono ?_; rintro e w' ⟨rfl, rfl⟩) | (go_at_call 67; refine (back_any _ _ (by omega) (by omega)).mono ?_; rintro e w' ⟨rfl, rfl⟩) | (go_at_call 39; refine (great_any _ _ (by omega) (by omega)).mono ?_; rintro e w' ⟨rfl, rfl⟩) | (go_at_call 33; refine (lower_any _ _ (by omega) (by omega)).mono ?_; rintro e w' ⟨rfl, rfl⟩))
    all_goals
      go_ret
      refine ⟨ret_int ?_, rfl⟩
      go_light
      grind [upper]
  · go_enter Try.func49, Try.ntmps49
    go_wp2_with (first | (go_at_call 42; refine (small_any _ _ (by omega) (by omega)).mono ?_; rintro e w' ⟨rfl, rfl⟩))
    all_goals
      go_ret
      refine ⟨ret_int ?_, rfl⟩
      go_light
      simp_all [upper]

theorem mark_any (r : Int) (w : World) (h0 : -2147483648 ≤ r) (h1 : r ≤ 2147483647) :
    Calls Try.prog 60 #[.int .i32 r] w fun e w' => e = .returned (.bool (decide (0x300 ≤ r ∧ r ≤ 0x36F))) ∧ w = w' := by
  go_enter Try.func60, Try.ntmps60
  go_wp2
  all_goals
    go_ret
    refine ⟨ret_bool ?_, rfl⟩
    (go_light; rw [Bool.eq_iff_iff]; simp only [decide_eq_true_eq, bne_iff_ne, ne_eq, Bool.not_eq_true', decide_eq_false_iff_not, Bool.and_eq_true, Bool.or_eq_true, Bool.or_eq_false_iff, Bool.and_eq_false_iff, bne_eq_false_iff_eq, beq_iff_eq, beq_eq_false_iff_ne, Bool.false_eq_true, false_iff, true_iff, iff_true, iff_false, Bool.not_eq_false', Bool.not_true, Bool.not_false] at *; omega)

end Go.Proofs.Ytekjfmjeemjcjaa
