/-
  Walks: vowels and kinds, as package canticleref03 says them. Nothing is assumed.
-/
import Derived.Test.YtekjfmjeemjcjaaRefW
namespace Go.Proofs.Ytekjfmjeemjcjaa
open Go.RowKit Go.Lib Go.Shelf
set_option linter.unusedVariables false
set_option linter.unusedSimpArgs false

set_option maxRecDepth 20000 in
set_option maxHeartbeats 4000000 in
theorem rkind_any (r : Int) (w : World) (h0 : -2147483648 ≤ r) (h1 : r ≤ 2147483647) :
    Calls Try.prog 36 #[.int .i32 r] w fun e w' => e = .returned (.int .i64 (kind r)) ∧ w = w' := by
  go_enter Try.func36, Try.ntmps36
  go_wp2_with (first | (go_at_call 62; refine (rin_any _ _ _ _).mono ?_; rintro e w' ⟨rfl, rfl⟩) | (go_at_call 40; refine (rgreat_any _ _ (by omega) (by omega)).mono ?_; rintro e w' ⟨rfl, rfl⟩) | (go_at_call 43; refine (rsmall_any _ _ (by omega) (by omega)).mono ?_; rintro e w' ⟨rfl, rfl⟩))
  all_goals
    go_ret
    refine ⟨ret_int ?_, rfl⟩
    go_light
    try simp only [inB, decide_eq_true_eq, bne_iff_ne, ne_eq, Bool.not_eq_true', decide_eq_false_iff_not, Bool.and_eq_true, Bool.or_eq_true, Bool.or_eq_false_iff, Bool.and_eq_false_iff, bne_eq_false_iff_eq, beq_iff_eq, beq_eq_false_iff_ne, Bool.false_eq_true, false_iff, true_iff, iff_true, iff_false, Bool.not_eq_false', Bool.not_true, Bool.not_false] at *
    grind (splits := 60) [kind, kindP, letter]

theorem vow_true (x : Int) (h : x = 97 ∨ x = 101 ∨ x = 105 ∨ x = 111 ∨ x = 117 ∨ x = 121 ∨ (224 ≤ x ∧ x ≤ 230) ∨ (232 ≤ x ∧ x ≤ 239) ∨ (242 ≤ x ∧ x ≤ 246) ∨ (248 ≤ x ∧ x ≤ 253) ∨ x = 255) : true = vowelL x := by
  unfold vowelL
  by_cases h1 : x < 128
  · rw [if_pos h1, eq_comm, decide_eq_true_eq]; omega
  · rw [if_neg h1, if_pos (by omega), eq_comm, Bool.and_eq_true, decide_eq_true_eq, small_iff]
    unfold smallP; omega
theorem vow_rest (x : Int) (h : ¬ (x = 97 ∨ x = 101 ∨ x = 105 ∨ x = 111 ∨ x = 117 ∨ x = 121 ∨ (224 ≤ x ∧ x ≤ 230) ∨ (232 ≤ x ∧ x ≤ 239) ∨ (242 ≤ x ∧ x ≤ 246) ∨ (248 ≤ x ∧ x ≤ 253) ∨ x = 255)) : vowelL x = vowelRunes.contains x := by
  unfold vowelL
  have hc : x < 256 → vowelRunes.contains x = false := by
    intro hx
    rw [← Bool.not_eq_true, List.contains_iff_mem]
    intro hm
    simp [vowelRunes] at hm
    omega
  by_cases h1 : x < 128
  · rw [if_pos h1, hc (by omega), decide_eq_false_iff_not]; omega
  · rw [if_neg h1]
    by_cases h2 : x < 256
    · rw [if_pos h2, hc h2, Bool.and_eq_false_iff, decide_eq_false_iff_not, ← Bool.not_eq_true, small_iff]
      unfold smallP; omega
    · rw [if_neg h2]

set_option maxRecDepth 100000 in
set_option maxHeartbeats 1000000 in
theorem rvowel_any (r : Int) (w : World) (h0 : -2147483648 ≤ r) (h1 : r ≤ 2147483647) :
    Calls Try.prog 45 #[.int .i32 r] w fun e w' => e = .returned (.bool (vowel r)) ∧ Below w.heap.size w w' := by
  have hb := lower_bd r h0 h1
  have hb1 := hb.1; have hb2 := hb.2; clear hb
  unfold vowel
  generalize hx : lower r = x at *
  have Hx := Lib.hid hx; clear hx
  go_enter Try.func45, Try.ntmps45
  go_wp2_with (first | (go_at_call 48; refine (rlower_any _ _ (by omega) (by omega)).mono ?_; rintro e w' ⟨rfl, rfl⟩; rw [Hx.out]) | (go_at_call 62; refine (rin_any _ _ _ _).mono ?_; rintro e w' ⟨rfl, rfl⟩))
  all_goals first
    | (go_ret; refine ⟨ret_bool ?_, Below.refl _ _⟩; refine vow_true x ?_; (go_light; (try simp only [inB, decide_eq_true_eq, bne_iff_ne, ne_eq, Bool.not_eq_true', decide_eq_false_iff_not, Bool.and_eq_true, Bool.or_eq_true, Bool.or_eq_false_iff, Bool.and_eq_false_iff, bne_eq_false_iff_eq, beq_iff_eq, beq_eq_false_iff_ne, Bool.false_eq_true, false_iff, true_iff, iff_true, iff_false, Bool.not_eq_false', Bool.not_true, Bool.not_false] at *); omega))
    | skip
  have hv : vowelL x = vowelRunes.contains x := by
    refine vow_rest x ?_
    (go_light; (try simp only [inB, decide_eq_true_eq, bne_iff_ne, ne_eq, Bool.not_eq_true', decide_eq_false_iff_not, Bool.and_eq_true, Bool.or_eq_true, Bool.or_eq_false_iff, Bool.and_eq_false_iff, bne_eq_false_iff_eq, beq_iff_eq, beq_eq_false_iff_ne, Bool.false_eq_true, false_iff, true_iff, iff_true, iff_false, Bool.not_eq_false', Bool.not_true, Bool.not_false] at *); omega)
  have Hv := Lib.hid hv; clear hv
  go_loopw [] (fun wr => VowRel w x wr) (fun wr => vowelS.size - wr.iterPos w.heap.size)
  case atStart => exact VowRel.start w _
  case round =>
    rcases VowRel.round (P := Try.prog) hrel with ⟨pos, y, W1, hn, hb, ⟨he, hc⟩ | ⟨he, hr, hm⟩⟩ | ⟨hn, hb, hc⟩
    · clear hrel
      have he' : ((y : Int) == x) = true := by simp [he]
      have Hc := Lib.hid hc; clear hc he
      go_wp2
      go_ret
      exact ⟨ret_bool (by rw [Hv.out, Hc.out]), hb⟩
    · clear hrel
      have he' : ((y : Int) == x) = false := by simp [he]
      have Hr := Lib.hid hr; have Hm := Lib.hid hm; clear he hr hm
      go_wp2
      go_roundw
      case rel => exact Hr.out
      case measure => exact Hm.out
    · clear hrel
      have Hc := Lib.hid hc; clear hc
      go_wp2
      go_ret
      exact ⟨ret_bool (by rw [Hv.out, Hc.out]), hb⟩

theorem rof_any (i wd r : Int) (b : Bool) (w : World) (h0 : -2147483648 ≤ r) (h1 : r ≤ 2147483647) :
    Calls Try.prog 24 #[.agg #[.int .i64 i, .int .i64 wd, .int .i32 r, .bool b]] w fun e w' => e = .returned (.int .i64 (kindOf b r)) ∧ Below w.heap.size w w' := by
  cases b
  · go_enter Try.func24, Try.ntmps24
    go_wp2_with (go_at_call 36; refine (rkind_any _ _ (by omega) (by omega)).mono ?_; rintro e w' ⟨rfl, rfl⟩)
    go_ret
    exact ⟨ret_int (by simp [kindOf]), (Below.refl _ _).alloc (Nat.le_refl _) _⟩
  · go_enter Try.func24, Try.ntmps24
    go_wp2_with (go_at_call 36; refine (rkind_any _ _ (by omega) (by omega)).mono ?_; rintro e w' ⟨rfl, rfl⟩)
    go_ret
    exact ⟨ret_int (by simp [kindOf]), (Below.refl _ _).alloc (Nat.le_refl _) _⟩

end Go.Proofs.Ytekjfmjeemjcjaa
