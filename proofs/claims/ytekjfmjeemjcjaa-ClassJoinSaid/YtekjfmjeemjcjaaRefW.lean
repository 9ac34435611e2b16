/-
  Walks: what a rune is, as package canticleref03 says it. Nothing is assumed.
-/
import Derived.Test.YtekjfmjeemjcjaaVow
namespace Go.Proofs.Ytekjfmjeemjcjaa
open Go.RowKit Go.Lib Go.Shelf
set_option linter.unusedVariables false
set_option linter.unusedSimpArgs false

def inB (r a b : Int) : Bool := decide (a ≤ r ∧ r ≤ b)
theorem rin_any (r a b : Int) (w : World) :
    Calls Try.prog 62 #[.int .i32 r, .int .i32 a, .int .i32 b] w fun e w' => e = .returned (.bool (inB r a b)) ∧ w = w' := by
  go_enter Try.func62, Try.ntmps62
  go_wp2
  all_goals
    go_ret
    refine ⟨ret_bool ?_, rfl⟩
    (go_light; rw [Bool.eq_iff_iff]; simp only [inB, decide_eq_true_eq, bne_iff_ne, ne_eq, Bool.not_eq_true', decide_eq_false_iff_not, Bool.and_eq_true, Bool.or_eq_true, Bool.or_eq_false_iff, Bool.and_eq_false_iff, bne_eq_false_iff_eq, beq_iff_eq, beq_eq_false_iff_ne, Bool.false_eq_true, false_iff, true_iff, iff_true, iff_false, Bool.not_eq_false', Bool.not_true, Bool.not_false] at *; omega)

theorem mod2 (r : Int) (h : 0 ≤ r) : Int.tmod r 2 = r % 2 := by
  rw [Int.tmod_eq_emod_of_nonneg h]

set_option maxHeartbeats 4000000 in
theorem rgreat_any (r : Int) (w : World) (h0 : -2147483648 ≤ r) (h1 : r ≤ 2147483647) :
    Calls Try.prog 40 #[.int .i32 r] w fun e w' => e = .returned (.bool (great r)) ∧ w = w' := by
  by_cases hn : 0 ≤ r
  · go_enter Try.func40, Try.ntmps40
    go_wp2_with (first | (go_at_call 62; refine (rin_any _ _ _ _).mono ?_; rintro e w' ⟨rfl, rfl⟩))
    all_goals
      go_ret
      refine ⟨ret_bool ?_, rfl⟩
      (go_light; rw [Bool.eq_iff_iff, great_iff]; simp only [inB, greatP, decide_eq_true_eq, bne_iff_ne, ne_eq, Bool.not_eq_true', decide_eq_false_iff_not, Bool.and_eq_true, Bool.or_eq_true, Bool.or_eq_false_iff, Bool.and_eq_false_iff, bne_eq_false_iff_eq, beq_iff_eq, beq_eq_false_iff_ne, Bool.false_eq_true, false_iff, true_iff, iff_true, iff_false, Bool.not_eq_false', Bool.not_true, Bool.not_false] at *; omega)
  · have i1 : ∀ a b : Int, 0 ≤ a → inB r a b = false := by intro a b ha; simp [inB]; omega
    have hm : great r = false := by rw [Bool.eq_false_iff]; intro h; rw [great_iff] at h; unfold greatP at h; omega
    go_enter Try.func40, Try.ntmps40
    go_wp2_with (first | (go_at_call 62; refine (rin_any _ _ _ _).mono ?_; rintro e w' ⟨rfl, rfl⟩))
    all_goals
      go_ret
      refine ⟨ret_bool ?_, rfl⟩
      (go_light; rw [Bool.eq_iff_iff, great_iff]; simp only [inB, greatP, decide_eq_true_eq, bne_iff_ne, ne_eq, Bool.not_eq_true', decide_eq_false_iff_not, Bool.and_eq_true, Bool.or_eq_true, Bool.or_eq_false_iff, Bool.and_eq_false_iff, bne_eq_false_iff_eq, beq_iff_eq, beq_eq_false_iff_ne, Bool.false_eq_true, false_iff, true_iff, iff_true, iff_false, Bool.not_eq_false', Bool.not_true, Bool.not_false] at *; omega)


set_option maxHeartbeats 4000000 in
theorem rsmall_any (r : Int) (w : World) (h0 : -2147483648 ≤ r) (h1 : r ≤ 2147483647) :
    Calls Try.prog 43 #[.int .i32 r] w fun e w' => e = .returned (.bool (small r)) ∧ w = w' := by
  by_cases hn : 0 ≤ r
  · go_enter Try.func43, Try.ntmps43
    go_wp2_with (first | (go_at_call 62; refine (rin_any _ _ _ _).mono ?_; rintro e w' ⟨rfl, rfl⟩))
    all_goals
      go_ret
      refine ⟨ret_bool ?_, rfl⟩
      (go_light; rw [Bool.eq_iff_iff, small_iff]; simp only [inB, smallP, decide_eq_true_eq, bne_iff_ne, ne_eq, Bool.not_eq_true', decide_eq_false_iff_not, Bool.and_eq_true, Bool.or_eq_true, Bool.or_eq_false_iff, Bool.and_eq_false_iff, bne_eq_false_iff_eq, beq_iff_eq, beq_eq_false_iff_ne, Bool.false_eq_true, false_iff, true_iff, iff_true, iff_false, Bool.not_eq_false', Bool.not_true, Bool.not_false] at *; omega)
  · have i1 : ∀ a b : Int, 0 ≤ a → inB r a b = false := by intro a b ha; simp [inB]; omega
    have hm : small r = false := by rw [Bool.eq_false_iff]; intro h; rw [small_iff] at h; unfold smallP at h; omega
    go_enter Try.func43, Try.ntmps43
    go_wp2_with (first | (go_at_call 62; refine (rin_any _ _ _ _).mono ?_; rintro e w' ⟨rfl, rfl⟩))
    all_goals
      go_ret
      refine ⟨ret_bool ?_, rfl⟩
      (go_light; rw [Bool.eq_iff_iff, small_iff]; simp only [inB, smallP, decide_eq_true_eq, bne_iff_ne, ne_eq, Bool.not_eq_true', decide_eq_false_iff_not, Bool.and_eq_true, Bool.or_eq_true, Bool.or_eq_false_iff, Bool.and_eq_false_iff, bne_eq_false_iff_eq, beq_iff_eq, beq_eq_false_iff_ne, Bool.false_eq_true, false_iff, true_iff, iff_true, iff_false, Bool.not_eq_false', Bool.not_true, Bool.not_false] at *; omega)

theorem rscript_any (r : Int) (w : World) (h0 : -2147483648 ≤ r) (h1 : r ≤ 2147483647) :
    Calls Try.prog 47 #[.int .i32 r] w fun e w' => e = .returned (.int .i64 (script r)) ∧ w = w' := by
  have hg : great r = true → greatP r := (great_iff r).1
  have hm : small r = true → smallP r := (small_iff r).1
  have Hg := Lib.hid hg; have Hm := Lib.hid hm; clear hg hm
  go_enter Try.func47, Try.ntmps47
  go_wp2_with (first | (go_at_call 40; refine (rgreat_any _ _ (by omega) (by omega)).mono ?_; rintro e w' ⟨rfl, rfl⟩) | (go_at_call 43; refine (rsmall_any _ _ (by omega) (by omega)).mono ?_; rintro e w' ⟨rfl, rfl⟩))
  all_goals
    go_ret
    refine ⟨ret_int ?_, rfl⟩
    have hg := Hg.out
    have hm := Hm.out
    clear Hg Hm
    go_light
    unfold greatP at hg
    unfold smallP at hm
    grind [script, letter]

set_option maxHeartbeats 1000000 in
theorem rlower_any (r : Int) (w : World) (h0 : -2147483648 ≤ r) (h1 : r ≤ 2147483647) :
    Calls Try.prog 48 #[.int .i32 r] w fun e w' => e = .returned (.int .i32 (lower r)) ∧ w = w' := by
  by_cases hg : great r = true
  · have hp := (great_iff r).1 hg
    have hb : r ≤ 2000 ∧ 0 ≤ r := by unfold greatP at hp; omega
    have hb1 := hb.1; have hb2 := hb.2; clear hb
    have Hp := Lib.hid hp; clear hp
    go_enter Try.func48, Try.ntmps48
    go_wp2_with (first | (go_at_call 40; refine (rgreat_any _ _ (by omega) (by omega)).mono ?_; rintro e w' ⟨rfl, rfl⟩) | (go_at_call 62; refine (rin_any _ _ _ _).mono ?_; rintro e w' ⟨rfl, rfl⟩))
    all_goals
      go_ret
      refine ⟨ret_int ?_, rfl⟩
      have hp := Hp.out
      clear Hp
      go_light
      unfold greatP at hp
      grind [lower, inB]
  · go_enter Try.func48, Try.ntmps48
    go_wp2_with (first | (go_at_call 40; refine (rgreat_any _ _ (by omega) (by omega)).mono ?_; rintro e w' ⟨rfl, rfl⟩))
    all_goals
      go_ret
      refine ⟨ret_int ?_, rfl⟩
      go_light
      simp_all [lower]

end Go.Proofs.Ytekjfmjeemjcjaa
