/-
  Walks: the statements on runes (canticlelaw03.live, known, greatSmall, ClassRunes). Nothing is assumed.
-/
import Derived.Test.YtekjfmjeemjcjaaRefW2
import Derived.Test.YtekjfmjeemjcjaaRefW3
namespace Go.Proofs.Ytekjfmjeemjcjaa
open Go.RowKit Go.Lib Go.Shelf
set_option linter.unusedVariables false
set_option linter.unusedSimpArgs false

theorem live_any (w : World) :
    Calls Try.prog 12 #[] w fun e w' => e = .returned (.bool true) ∧ w = w' := by
  have hk : kind 97 = 1 := by decide
  have hl : lower 65 = 97 := by decide
  go_enter Try.func12, Try.ntmps12
  go_wp2_with (first | (go_at_call 32; refine (kind_any _ _ (by omega) (by omega)).mono ?_; rintro e w' ⟨rfl, rfl⟩) | (go_at_call 33; refine (lower_any _ _ (by omega) (by omega)).mono ?_; rintro e w' ⟨rfl, rfl⟩))
  go_ret
  exact ⟨rfl, rfl⟩

def wd (x : Int) : Int := ((Utf8.encode x).size : Int)
def smallFacts (r : Int) : Bool := (kind r == 1) && (script r != 0) && (lower r == r) && (upper (upper r) == upper r) && (lower (upper r) == r) && ((Utf8.encode (upper r)).size == (Utf8.encode r).size) && (script (upper r) == script r) && !great r
def greatFacts (r : Int) : Bool := (kind r == 1) && (script r != 0) && (lower r != r) && (lower (lower r) == lower r) && (upper r == r) && (upper (lower r) == r) && ((Utf8.encode (lower r)).size == (Utf8.encode r).size) && (script (lower r) == script r) && !small r
theorem small_nat : ∀ n : Nat, n < 1200 → small (n : Int) = true → n ≠ 305 → n ≠ 383 → n ≠ 962 → smallFacts (n : Int) = true := by decide +kernel
theorem great_nat : ∀ n : Nat, n < 1200 → great (n : Int) = true → n ≠ 304 → greatFacts (n : Int) = true := by decide +kernel
theorem small_facts (r : Int) (h : small r = true) (h1 : r ≠ 305) (h2 : r ≠ 383) (h3 : r ≠ 962) : smallFacts r = true := by
  have hp := (small_iff r).1 h
  obtain ⟨n, rfl⟩ : ∃ n : Nat, r = n := ⟨r.toNat, by unfold smallP at hp; omega⟩
  exact small_nat n (by unfold smallP at hp; omega) h (by omega) (by omega) (by omega)
theorem great_facts (r : Int) (h : great r = true) (h1 : r ≠ 304) : greatFacts r = true := by
  have hp := (great_iff r).1 h
  obtain ⟨n, rfl⟩ : ∃ n : Nat, r = n := ⟨r.toNat, by unfold greatP at hp; omega⟩
  exact great_nat n (by unfold greatP at hp; omega) h (by omega)
theorem none_facts (r : Int) (hg : great r = false) (hs : small r = false) : lower r = r ∧ upper r = r ∧ script r = 0 ∧ (kind r == 1) = false := by
  have hl : letter r = false := by simp [letter, hg, hs]
  refine ⟨by simp [lower, hg], by simp [upper, hs], by simp [script, hl], ?_⟩
  rw [beq_eq_false_iff_ne]
  unfold kind kindP
  rw [hl]
  simp only [Bool.false_eq_true, if_false]
  (repeat' split) <;> omega
theorem upper_bd (r : Int) (h0 : -2147483648 ≤ r) (h1 : r ≤ 2147483647) : -2147483648 ≤ upper r ∧ upper r ≤ 2147483647 := by
  unfold upper
  by_cases hg : small r = true
  · have hb : r ≤ 2000 ∧ 0 ≤ r := by rw [small_iff] at hg; unfold smallP at hg; omega
    have := back_bd r
    simp only [hg, Bool.not_true, Bool.false_eq_true, if_false]
    (repeat' split) <;> omega
  · simp [hg]; omega

set_option maxRecDepth 100000 in
set_option maxHeartbeats 4000000 in
theorem greatSmall_any (r : Int) (w : World) (h0 : -2147483648 ≤ r) (h1 : r ≤ 2147483647) :
    Calls Try.prog 21 #[.int .i32 r] w fun e w' => e = .returned (.bool true) ∧ Below w.heap.size w w' := by
  have l1 := (lower_bd r h0 h1).1
  have l2 := (lower_bd r h0 h1).2
  have u1 := (upper_bd r h0 h1).1
  have u2 := (upper_bd r h0 h1).2
  cases hg : great r
  · cases hs : small r
    · obtain ⟨a, b, c, d⟩ := none_facts r hg hs
      clear l1 l2 u1 u2
      have c' : (script r != 0) = false := by rw [c]; rfl
      clear c
      go_enter Try.func21, Try.ntmps21
      go_wp2_with (first | (go_at_call 39; refine (great_any _ _ (by omega) (by omega)).mono ?_; rintro e w' ⟨rfl, rfl⟩) | (go_at_call 42; refine (small_any _ _ (by omega) (by omega)).mono ?_; rintro e w' ⟨rfl, rfl⟩) | (go_at_call 12; refine (live_any _).mono ?_; rintro e w' ⟨rfl, rfl⟩) | (go_at_call 32; refine (kind_any _ _ (by omega) (by omega)).mono ?_; rintro e w' ⟨rfl, rfl⟩) | (go_at_call 46; refine (script_any _ _ (by omega) (by omega)).mono ?_; rintro e w' ⟨rfl, rfl⟩) | (go_at_call 33; refine (lower_any _ _ (by omega) (by omega)).mono ?_; rintro e w' ⟨rfl, rfl⟩) | (go_at_call 49; refine (upper_any _ _ (by omega) (by omega)).mono ?_; rintro e w' ⟨rfl, rfl⟩))
      all_goals
        go_ret
        refine ⟨ret_bool ?_, Below.refl _ _⟩
        go_light
        first | rfl | (exfalso; revert hs; rw [‹r = 305›]; decide) | (exfalso; revert hs; rw [‹r = 383›]; decide)
    · by_cases hlit : r = 305
      · clear hg hs
        subst hlit
        have g73 : great 73 = true := by decide
        have s73 : small 73 = false := by decide
        have k73 : kind 73 = 1 := by decide
        have c73 : script 73 = 1 := by decide
        have l73 : lower 73 = 105 := by decide
        have u73 : upper 73 = 73 := by decide
        have z73 : (Utf8.encode 73).size = 1 := by decide
        have g105 : great 105 = false := by decide
        have s105 : small 105 = true := by decide
        have k105 : kind 105 = 1 := by decide
        have c105 : script 105 = 1 := by decide
        have l105 : lower 105 = 105 := by decide
        have u105 : upper 105 = 73 := by decide
        have z105 : (Utf8.encode 105).size = 1 := by decide
        have g305 : great 305 = false := by decide
        have s305 : small 305 = true := by decide
        have k305 : kind 305 = 1 := by decide
        have c305 : script 305 = 1 := by decide
        have l305 : lower 305 = 305 := by decide
        have u305 : upper 305 = 73 := by decide
        have z305 : (Utf8.encode 305).size = 2 := by decide
        clear h0 h1 l1 l2 u1 u2
        go_enter Try.func21, Try.ntmps21
        go_wp2_with (first | (go_at_call 39; refine (great_any _ _ (by omega) (by omega)).mono ?_; rintro e w' ⟨rfl, rfl⟩) | (go_at_call 42; refine (small_any _ _ (by omega) (by omega)).mono ?_; rintro e w' ⟨rfl, rfl⟩) | (go_at_call 12; refine (live_any _).mono ?_; rintro e w' ⟨rfl, rfl⟩) | (go_at_call 32; refine (kind_any _ _ (by omega) (by omega)).mono ?_; rintro e w' ⟨rfl, rfl⟩) | (go_at_call 46; refine (script_any _ _ (by omega) (by omega)).mono ?_; rintro e w' ⟨rfl, rfl⟩) | (go_at_call 33; refine (lower_any _ _ (by omega) (by omega)).mono ?_; rintro e w' ⟨rfl, rfl⟩) | (go_at_call 49; refine (upper_any _ _ (by omega) (by omega)).mono ?_; rintro e w' ⟨rfl, rfl⟩))
        refine (vowel_any _ _ (by omega) (by omega)).mono ?_
        rintro e w1 ⟨rfl, hb1⟩
        go_wp2_with fail
        refine (vowel_any _ _ (by omega) (by omega)).mono ?_
        rintro e w2 ⟨rfl, hb2⟩
        go_wp2_with fail
        go_ret
        exact ⟨ret_bool (by first | (simp; done) | (simp; omega)), hb1.trans (hb2.mono hb1.size)⟩
      · have h305 := hlit
        clear hlit
        by_cases hlit : r = 383
        · clear hg hs
          subst hlit
          have g83 : great 83 = true := by decide
          have s83 : small 83 = false := by decide
          have k83 : kind 83 = 1 := by decide
          have c83 : script 83 = 1 := by decide
          have l83 : lower 83 = 115 := by decide
          have u83 : upper 83 = 83 := by decide
          have z83 : (Utf8.encode 83).size = 1 := by decide
          have g115 : great 115 = false := by decide
          have s115 : small 115 = true := by decide
          have k115 : kind 115 = 1 := by decide
          have c115 : script 115 = 1 := by decide
          have l115 : lower 115 = 115 := by decide
          have u115 : upper 115 = 83 := by decide
          have z115 : (Utf8.encode 115).size = 1 := by decide
          have g383 : great 383 = false := by decide
          have s383 : small 383 = true := by decide
          have k383 : kind 383 = 1 := by decide
          have c383 : script 383 = 1 := by decide
          have l383 : lower 383 = 383 := by decide
          have u383 : upper 383 = 83 := by decide
          have z383 : (Utf8.encode 383).size = 2 := by decide
          clear h0 h1 l1 l2 u1 u2
          go_enter Try.func21, Try.ntmps21
          go_wp2_with (first | (go_at_call 39; refine (great_any _ _ (by omega) (by omega)).mono ?_; rintro e w' ⟨rfl, rfl⟩) | (go_at_call 42; refine (small_any _ _ (by omega) (by omega)).mono ?_; rintro e w' ⟨rfl, rfl⟩) | (go_at_call 12; refine (live_any _).mono ?_; rintro e w' ⟨rfl, rfl⟩) | (go_at_call 32; refine (kind_any _ _ (by omega) (by omega)).mono ?_; rintro e w' ⟨rfl, rfl⟩) | (go_at_call 46; refine (script_any _ _ (by omega) (by omega)).mono ?_; rintro e w' ⟨rfl, rfl⟩) | (go_at_call 33; refine (lower_any _ _ (by omega) (by omega)).mono ?_; rintro e w' ⟨rfl, rfl⟩) | (go_at_call 49; refine (upper_any _ _ (by omega) (by omega)).mono ?_; rintro e w' ⟨rfl, rfl⟩))
          refine (vowel_any _ _ (by omega) (by omega)).mono ?_
          rintro e w1 ⟨rfl, hb1⟩
          go_wp2_with fail
          refine (vowel_any _ _ (by omega) (by omega)).mono ?_
          rintro e w2 ⟨rfl, hb2⟩
          go_wp2_with fail
          go_ret
          exact ⟨ret_bool (by first | (simp; done) | (simp; omega)), hb1.trans (hb2.mono hb1.size)⟩
        · have h383 := hlit
          clear hlit
          by_cases hlit : r = 962
          · clear hg hs
            subst hlit
            have g931 : great 931 = true := by decide
            have s931 : small 931 = false := by decide
            have k931 : kind 931 = 1 := by decide
            have c931 : script 931 = 2 := by decide
            have l931 : lower 931 = 963 := by decide
            have u931 : upper 931 = 931 := by decide
            have z931 : (Utf8.encode 931).size = 2 := by decide
            have g962 : great 962 = false := by decide
            have s962 : small 962 = true := by decide
            have k962 : kind 962 = 1 := by decide
            have c962 : script 962 = 2 := by decide
            have l962 : lower 962 = 962 := by decide
            have u962 : upper 962 = 931 := by decide
            have z962 : (Utf8.encode 962).size = 2 := by decide
            have g963 : great 963 = false := by decide
            have s963 : small 963 = true := by decide
            have k963 : kind 963 = 1 := by decide
            have c963 : script 963 = 2 := by decide
            have l963 : lower 963 = 963 := by decide
            have u963 : upper 963 = 931 := by decide
            have z963 : (Utf8.encode 963).size = 2 := by decide
            clear h0 h1 l1 l2 u1 u2
            go_enter Try.func21, Try.ntmps21
            go_wp2_with (first | (go_at_call 39; refine (great_any _ _ (by omega) (by omega)).mono ?_; rintro e w' ⟨rfl, rfl⟩) | (go_at_call 42; refine (small_any _ _ (by omega) (by omega)).mono ?_; rintro e w' ⟨rfl, rfl⟩) | (go_at_call 12; refine (live_any _).mono ?_; rintro e w' ⟨rfl, rfl⟩) | (go_at_call 32; refine (kind_any _ _ (by omega) (by omega)).mono ?_; rintro e w' ⟨rfl, rfl⟩) | (go_at_call 46; refine (script_any _ _ (by omega) (by omega)).mono ?_; rintro e w' ⟨rfl, rfl⟩) | (go_at_call 33; refine (lower_any _ _ (by omega) (by omega)).mono ?_; rintro e w' ⟨rfl, rfl⟩) | (go_at_call 49; refine (upper_any _ _ (by omega) (by omega)).mono ?_; rintro e w' ⟨rfl, rfl⟩))
            refine (vowel_any _ _ (by omega) (by omega)).mono ?_
            rintro e w1 ⟨rfl, hb1⟩
            go_wp2_with fail
            refine (vowel_any _ _ (by omega) (by omega)).mono ?_
            rintro e w2 ⟨rfl, hb2⟩
            go_wp2_with fail
            go_ret
            exact ⟨ret_bool (by first | (simp; done) | (simp; omega)), hb1.trans (hb2.mono hb1.size)⟩
          · have hf := small_facts r hs h305 h383 hlit
            simp only [smallFacts, Bool.and_eq_true, Bool.not_eq_true', beq_iff_eq] at hf
            obtain ⟨⟨⟨⟨⟨⟨⟨f1, f2⟩, f3⟩, f4⟩, f5⟩, f6⟩, f7⟩, _⟩ := hf
            have n304 : r ≠ 304 := by rintro rfl; revert hg; decide
            go_enter Try.func21, Try.ntmps21
            go_wp2_with (first | (go_at_call 39; refine (great_any _ _ (by omega) (by omega)).mono ?_; rintro e w' ⟨rfl, rfl⟩) | (go_at_call 42; refine (small_any _ _ (by omega) (by omega)).mono ?_; rintro e w' ⟨rfl, rfl⟩) | (go_at_call 12; refine (live_any _).mono ?_; rintro e w' ⟨rfl, rfl⟩) | (go_at_call 32; refine (kind_any _ _ (by omega) (by omega)).mono ?_; rintro e w' ⟨rfl, rfl⟩) | (go_at_call 46; refine (script_any _ _ (by omega) (by omega)).mono ?_; rintro e w' ⟨rfl, rfl⟩) | (go_at_call 33; refine (lower_any _ _ (by omega) (by omega)).mono ?_; rintro e w' ⟨rfl, rfl⟩) | (go_at_call 49; refine (upper_any _ _ (by omega) (by omega)).mono ?_; rintro e w' ⟨rfl, rfl⟩))
            refine (vowel_any _ _ (by omega) (by omega)).mono ?_
            rintro e w1 ⟨rfl, hb1⟩
            go_wp2_with fail
            refine (vowel_any _ _ (by omega) (by omega)).mono ?_
            rintro e w2 ⟨rfl, hb2⟩
            go_wp2_with fail
            go_ret
            exact ⟨ret_bool (by first | (simp; done) | (simp; omega)), hb1.trans (hb2.mono hb1.size)⟩
  · by_cases hlit : r = 304
    · clear hg
      subst hlit
      have g73 : great 73 = true := by decide
      have s73 : small 73 = false := by decide
      have k73 : kind 73 = 1 := by decide
      have c73 : script 73 = 1 := by decide
      have l73 : lower 73 = 105 := by decide
      have u73 : upper 73 = 73 := by decide
      have z73 : (Utf8.encode 73).size = 1 := by decide
      have g105 : great 105 = false := by decide
      have s105 : small 105 = true := by decide
      have k105 : kind 105 = 1 := by decide
      have c105 : script 105 = 1 := by decide
      have l105 : lower 105 = 105 := by decide
      have u105 : upper 105 = 73 := by decide
      have z105 : (Utf8.encode 105).size = 1 := by decide
      have g304 : great 304 = true := by decide
      have s304 : small 304 = false := by decide
      have k304 : kind 304 = 1 := by decide
      have c304 : script 304 = 1 := by decide
      have l304 : lower 304 = 105 := by decide
      have u304 : upper 304 = 304 := by decide
      have z304 : (Utf8.encode 304).size = 2 := by decide
      have v304 : vowel 304 = true := by decide
      have v105 : vowel 105 = true := by decide
      clear h0 h1 l1 l2 u1 u2
      go_enter Try.func21, Try.ntmps21
      go_wp2_with (first | (go_at_call 39; refine (great_any _ _ (by omega) (by omega)).mono ?_; rintro e w' ⟨rfl, rfl⟩) | (go_at_call 42; refine (small_any _ _ (by omega) (by omega)).mono ?_; rintro e w' ⟨rfl, rfl⟩) | (go_at_call 12; refine (live_any _).mono ?_; rintro e w' ⟨rfl, rfl⟩) | (go_at_call 32; refine (kind_any _ _ (by omega) (by omega)).mono ?_; rintro e w' ⟨rfl, rfl⟩) | (go_at_call 46; refine (script_any _ _ (by omega) (by omega)).mono ?_; rintro e w' ⟨rfl, rfl⟩) | (go_at_call 33; refine (lower_any _ _ (by omega) (by omega)).mono ?_; rintro e w' ⟨rfl, rfl⟩) | (go_at_call 49; refine (upper_any _ _ (by omega) (by omega)).mono ?_; rintro e w' ⟨rfl, rfl⟩))
      refine (vowel_any _ _ (by omega) (by omega)).mono ?_
      rintro e w1 ⟨rfl, hb1⟩
      go_wp2_with fail
      refine (vowel_any _ _ (by omega) (by omega)).mono ?_
      rintro e w2 ⟨rfl, hb2⟩
      go_wp2_with fail
      go_ret
      exact ⟨ret_bool (by first | (simp; done) | (simp; omega)), hb1.trans (hb2.mono hb1.size)⟩
    · have hf := great_facts r hg hlit
      simp only [greatFacts, Bool.and_eq_true, Bool.not_eq_true', beq_iff_eq] at hf
      obtain ⟨⟨⟨⟨⟨⟨⟨⟨f1, f2⟩, f3⟩, f4⟩, f5⟩, f6⟩, f7⟩, f8⟩, f9⟩ := hf
      have f3' : (lower r == r) = false := by rw [beq_eq_false_iff_ne]; exact bne_iff_ne.1 f3
      have n305 : r ≠ 305 := by rintro rfl; revert hg; decide
      have n383 : r ≠ 383 := by rintro rfl; revert hg; decide
      have n962 : r ≠ 962 := by rintro rfl; revert hg; decide
      have hv : vowel (lower r) = vowel r := by unfold vowel; rw [f4]
      go_enter Try.func21, Try.ntmps21
      go_wp2_with (first | (go_at_call 39; refine (great_any _ _ (by omega) (by omega)).mono ?_; rintro e w' ⟨rfl, rfl⟩) | (go_at_call 42; refine (small_any _ _ (by omega) (by omega)).mono ?_; rintro e w' ⟨rfl, rfl⟩) | (go_at_call 12; refine (live_any _).mono ?_; rintro e w' ⟨rfl, rfl⟩) | (go_at_call 32; refine (kind_any _ _ (by omega) (by omega)).mono ?_; rintro e w' ⟨rfl, rfl⟩) | (go_at_call 46; refine (script_any _ _ (by omega) (by omega)).mono ?_; rintro e w' ⟨rfl, rfl⟩) | (go_at_call 33; refine (lower_any _ _ (by omega) (by omega)).mono ?_; rintro e w' ⟨rfl, rfl⟩) | (go_at_call 49; refine (upper_any _ _ (by omega) (by omega)).mono ?_; rintro e w' ⟨rfl, rfl⟩))
      refine (vowel_any _ _ (by omega) (by omega)).mono ?_
      rintro e w1 ⟨rfl, hb1⟩
      go_wp2_with fail
      refine (vowel_any _ _ (by omega) (by omega)).mono ?_
      rintro e w2 ⟨rfl, hb2⟩
      go_wp2_with fail
      go_ret
      exact ⟨ret_bool (by first | (simp; done) | (simp; omega)), hb1.trans (hb2.mono hb1.size)⟩

set_option maxRecDepth 100000 in
set_option maxHeartbeats 4000000 in
theorem known_any (r : Int) (w : World) (h0 : -2147483648 ≤ r) (h1 : r ≤ 2147483647) :
    Calls Try.prog 20 #[.int .i32 r] w fun e w' => e = .returned (.bool true) ∧ Below w.heap.size w w' := by
  by_cases hd : 48 ≤ r
  · by_cases hd2 : r ≤ 57
    · have dc : (decide (48 ≤ r ∧ r ≤ 57)) = true := decide_eq_true ⟨hd, hd2⟩
      have dd : (if 48 ≤ r ∧ r ≤ 57 then r - 48 else 0) = r - 48 := if_pos ⟨hd, hd2⟩
      go_enter Try.func20, Try.ntmps20
      go_wp2_with (first | (go_at_call 32; refine (kind_any _ _ (by omega) (by omega)).mono ?_; rintro e w' ⟨rfl, rfl⟩) | (go_at_call 36; refine (rkind_any _ _ (by omega) (by omega)).mono ?_; rintro e w' ⟨rfl, rfl⟩) | (go_at_call 39; refine (great_any _ _ (by omega) (by omega)).mono ?_; rintro e w' ⟨rfl, rfl⟩) | (go_at_call 40; refine (rgreat_any _ _ (by omega) (by omega)).mono ?_; rintro e w' ⟨rfl, rfl⟩) | (go_at_call 42; refine (small_any _ _ (by omega) (by omega)).mono ?_; rintro e w' ⟨rfl, rfl⟩) | (go_at_call 43; refine (rsmall_any _ _ (by omega) (by omega)).mono ?_; rintro e w' ⟨rfl, rfl⟩) | (go_at_call 41; refine (digit_any _ _ (by omega) (by omega)).mono ?_; rintro e w' ⟨rfl, rfl⟩) | (go_at_call 46; refine (script_any _ _ (by omega) (by omega)).mono ?_; rintro e w' ⟨rfl, rfl⟩) | (go_at_call 47; refine (rscript_any _ _ (by omega) (by omega)).mono ?_; rintro e w' ⟨rfl, rfl⟩) | (go_at_call 33; refine (lower_any _ _ (by omega) (by omega)).mono ?_; rintro e w' ⟨rfl, rfl⟩) | (go_at_call 48; refine (rlower_any _ _ (by omega) (by omega)).mono ?_; rintro e w' ⟨rfl, rfl⟩) | (go_at_call 49; refine (upper_any _ _ (by omega) (by omega)).mono ?_; rintro e w' ⟨rfl, rfl⟩) | (go_at_call 50; refine (rupper_any _ _ (by omega) (by omega)).mono ?_; rintro e w' ⟨rfl, rfl⟩))
      refine (vowel_any _ _ (by omega) (by omega)).mono ?_
      rintro e w1 ⟨rfl, hb1⟩
      go_wp2_with fail
      refine (rvowel_any _ _ (by omega) (by omega)).mono ?_
      rintro e w2 ⟨rfl, hb2⟩
      go_wp2_with (first | (go_at_call 32; refine (kind_any _ _ (by omega) (by omega)).mono ?_; rintro e w' ⟨rfl, rfl⟩) | (go_at_call 36; refine (rkind_any _ _ (by omega) (by omega)).mono ?_; rintro e w' ⟨rfl, rfl⟩) | (go_at_call 39; refine (great_any _ _ (by omega) (by omega)).mono ?_; rintro e w' ⟨rfl, rfl⟩) | (go_at_call 40; refine (rgreat_any _ _ (by omega) (by omega)).mono ?_; rintro e w' ⟨rfl, rfl⟩) | (go_at_call 42; refine (small_any _ _ (by omega) (by omega)).mono ?_; rintro e w' ⟨rfl, rfl⟩) | (go_at_call 43; refine (rsmall_any _ _ (by omega) (by omega)).mono ?_; rintro e w' ⟨rfl, rfl⟩) | (go_at_call 41; refine (digit_any _ _ (by omega) (by omega)).mono ?_; rintro e w' ⟨rfl, rfl⟩) | (go_at_call 46; refine (script_any _ _ (by omega) (by omega)).mono ?_; rintro e w' ⟨rfl, rfl⟩) | (go_at_call 47; refine (rscript_any _ _ (by omega) (by omega)).mono ?_; rintro e w' ⟨rfl, rfl⟩) | (go_at_call 33; refine (lower_any _ _ (by omega) (by omega)).mono ?_; rintro e w' ⟨rfl, rfl⟩) | (go_at_call 48; refine (rlower_any _ _ (by omega) (by omega)).mono ?_; rintro e w' ⟨rfl, rfl⟩) | (go_at_call 49; refine (upper_any _ _ (by omega) (by omega)).mono ?_; rintro e w' ⟨rfl, rfl⟩) | (go_at_call 50; refine (rupper_any _ _ (by omega) (by omega)).mono ?_; rintro e w' ⟨rfl, rfl⟩))
      go_ret
      exact ⟨ret_bool (by first | rfl | (simp; done) | (simp; omega)), hb1.trans (hb2.mono hb1.size)⟩
    · have dc : (decide (48 ≤ r ∧ r ≤ 57)) = false := decide_eq_false (fun h => hd2 h.2)
      have dd : (if 48 ≤ r ∧ r ≤ 57 then r - 48 else 0) = 0 := if_neg (fun h => hd2 h.2)
      go_enter Try.func20, Try.ntmps20
      go_wp2_with (first | (go_at_call 32; refine (kind_any _ _ (by omega) (by omega)).mono ?_; rintro e w' ⟨rfl, rfl⟩) | (go_at_call 36; refine (rkind_any _ _ (by omega) (by omega)).mono ?_; rintro e w' ⟨rfl, rfl⟩) | (go_at_call 39; refine (great_any _ _ (by omega) (by omega)).mono ?_; rintro e w' ⟨rfl, rfl⟩) | (go_at_call 40; refine (rgreat_any _ _ (by omega) (by omega)).mono ?_; rintro e w' ⟨rfl, rfl⟩) | (go_at_call 42; refine (small_any _ _ (by omega) (by omega)).mono ?_; rintro e w' ⟨rfl, rfl⟩) | (go_at_call 43; refine (rsmall_any _ _ (by omega) (by omega)).mono ?_; rintro e w' ⟨rfl, rfl⟩) | (go_at_call 41; refine (digit_any _ _ (by omega) (by omega)).mono ?_; rintro e w' ⟨rfl, rfl⟩) | (go_at_call 46; refine (script_any _ _ (by omega) (by omega)).mono ?_; rintro e w' ⟨rfl, rfl⟩) | (go_at_call 47; refine (rscript_any _ _ (by omega) (by omega)).mono ?_; rintro e w' ⟨rfl, rfl⟩) | (go_at_call 33; refine (lower_any _ _ (by omega) (by omega)).mono ?_; rintro e w' ⟨rfl, rfl⟩) | (go_at_call 48; refine (rlower_any _ _ (by omega) (by omega)).mono ?_; rintro e w' ⟨rfl, rfl⟩) | (go_at_call 49; refine (upper_any _ _ (by omega) (by omega)).mono ?_; rintro e w' ⟨rfl, rfl⟩) | (go_at_call 50; refine (rupper_any _ _ (by omega) (by omega)).mono ?_; rintro e w' ⟨rfl, rfl⟩))
      refine (vowel_any _ _ (by omega) (by omega)).mono ?_
      rintro e w1 ⟨rfl, hb1⟩
      go_wp2_with fail
      refine (rvowel_any _ _ (by omega) (by omega)).mono ?_
      rintro e w2 ⟨rfl, hb2⟩
      go_wp2_with (first | (go_at_call 32; refine (kind_any _ _ (by omega) (by omega)).mono ?_; rintro e w' ⟨rfl, rfl⟩) | (go_at_call 36; refine (rkind_any _ _ (by omega) (by omega)).mono ?_; rintro e w' ⟨rfl, rfl⟩) | (go_at_call 39; refine (great_any _ _ (by omega) (by omega)).mono ?_; rintro e w' ⟨rfl, rfl⟩) | (go_at_call 40; refine (rgreat_any _ _ (by omega) (by omega)).mono ?_; rintro e w' ⟨rfl, rfl⟩) | (go_at_call 42; refine (small_any _ _ (by omega) (by omega)).mono ?_; rintro e w' ⟨rfl, rfl⟩) | (go_at_call 43; refine (rsmall_any _ _ (by omega) (by omega)).mono ?_; rintro e w' ⟨rfl, rfl⟩) | (go_at_call 41; refine (digit_any _ _ (by omega) (by omega)).mono ?_; rintro e w' ⟨rfl, rfl⟩) | (go_at_call 46; refine (script_any _ _ (by omega) (by omega)).mono ?_; rintro e w' ⟨rfl, rfl⟩) | (go_at_call 47; refine (rscript_any _ _ (by omega) (by omega)).mono ?_; rintro e w' ⟨rfl, rfl⟩) | (go_at_call 33; refine (lower_any _ _ (by omega) (by omega)).mono ?_; rintro e w' ⟨rfl, rfl⟩) | (go_at_call 48; refine (rlower_any _ _ (by omega) (by omega)).mono ?_; rintro e w' ⟨rfl, rfl⟩) | (go_at_call 49; refine (upper_any _ _ (by omega) (by omega)).mono ?_; rintro e w' ⟨rfl, rfl⟩) | (go_at_call 50; refine (rupper_any _ _ (by omega) (by omega)).mono ?_; rintro e w' ⟨rfl, rfl⟩))
      go_ret
      exact ⟨ret_bool (by first | rfl | (simp; done) | (simp; omega)), hb1.trans (hb2.mono hb1.size)⟩
  · have dc : (decide (48 ≤ r ∧ r ≤ 57)) = false := decide_eq_false (fun h => hd h.1)
    have dd : (if 48 ≤ r ∧ r ≤ 57 then r - 48 else 0) = 0 := if_neg (fun h => hd h.1)
    go_enter Try.func20, Try.ntmps20
    go_wp2_with (first | (go_at_call 32; refine (kind_any _ _ (by omega) (by omega)).mono ?_; rintro e w' ⟨rfl, rfl⟩) | (go_at_call 36; refine (rkind_any _ _ (by omega) (by omega)).mono ?_; rintro e w' ⟨rfl, rfl⟩) | (go_at_call 39; refine (great_any _ _ (by omega) (by omega)).mono ?_; rintro e w' ⟨rfl, rfl⟩) | (go_at_call 40; refine (rgreat_any _ _ (by omega) (by omega)).mono ?_; rintro e w' ⟨rfl, rfl⟩) | (go_at_call 42; refine (small_any _ _ (by omega) (by omega)).mono ?_; rintro e w' ⟨rfl, rfl⟩) | (go_at_call 43; refine (rsmall_any _ _ (by omega) (by omega)).mono ?_; rintro e w' ⟨rfl, rfl⟩) | (go_at_call 41; refine (digit_any _ _ (by omega) (by omega)).mono ?_; rintro e w' ⟨rfl, rfl⟩) | (go_at_call 46; refine (script_any _ _ (by omega) (by omega)).mono ?_; rintro e w' ⟨rfl, rfl⟩) | (go_at_call 47; refine (rscript_any _ _ (by omega) (by omega)).mono ?_; rintro e w' ⟨rfl, rfl⟩) | (go_at_call 33; refine (lower_any _ _ (by omega) (by omega)).mono ?_; rintro e w' ⟨rfl, rfl⟩) | (go_at_call 48; refine (rlower_any _ _ (by omega) (by omega)).mono ?_; rintro e w' ⟨rfl, rfl⟩) | (go_at_call 49; refine (upper_any _ _ (by omega) (by omega)).mono ?_; rintro e w' ⟨rfl, rfl⟩) | (go_at_call 50; refine (rupper_any _ _ (by omega) (by omega)).mono ?_; rintro e w' ⟨rfl, rfl⟩))
    refine (vowel_any _ _ (by omega) (by omega)).mono ?_
    rintro e w1 ⟨rfl, hb1⟩
    go_wp2_with fail
    refine (rvowel_any _ _ (by omega) (by omega)).mono ?_
    rintro e w2 ⟨rfl, hb2⟩
    go_wp2_with (first | (go_at_call 32; refine (kind_any _ _ (by omega) (by omega)).mono ?_; rintro e w' ⟨rfl, rfl⟩) | (go_at_call 36; refine (rkind_any _ _ (by omega) (by omega)).mono ?_; rintro e w' ⟨rfl, rfl⟩) | (go_at_call 39; refine (great_any _ _ (by omega) (by omega)).mono ?_; rintro e w' ⟨rfl, rfl⟩) | (go_at_call 40; refine (rgreat_any _ _ (by omega) (by omega)).mono ?_; rintro e w' ⟨rfl, rfl⟩) | (go_at_call 42; refine (small_any _ _ (by omega) (by omega)).mono ?_; rintro e w' ⟨rfl, rfl⟩) | (go_at_call 43; refine (rsmall_any _ _ (by omega) (by omega)).mono ?_; rintro e w' ⟨rfl, rfl⟩) | (go_at_call 41; refine (digit_any _ _ (by omega) (by omega)).mono ?_; rintro e w' ⟨rfl, rfl⟩) | (go_at_call 46; refine (script_any _ _ (by omega) (by omega)).mono ?_; rintro e w' ⟨rfl, rfl⟩) | (go_at_call 47; refine (rscript_any _ _ (by omega) (by omega)).mono ?_; rintro e w' ⟨rfl, rfl⟩) | (go_at_call 33; refine (lower_any _ _ (by omega) (by omega)).mono ?_; rintro e w' ⟨rfl, rfl⟩) | (go_at_call 48; refine (rlower_any _ _ (by omega) (by omega)).mono ?_; rintro e w' ⟨rfl, rfl⟩) | (go_at_call 49; refine (upper_any _ _ (by omega) (by omega)).mono ?_; rintro e w' ⟨rfl, rfl⟩) | (go_at_call 50; refine (rupper_any _ _ (by omega) (by omega)).mono ?_; rintro e w' ⟨rfl, rfl⟩))
    go_ret
    exact ⟨ret_bool (by first | rfl | (simp; done) | (simp; omega)), hb1.trans (hb2.mono hb1.size)⟩

theorem classRunes_any (r : Int) (w : World) (h0 : -2147483648 ≤ r) (h1 : r ≤ 2147483647) :
    Calls Try.prog 6 #[.int .i32 r] w fun e w' => e = .returned (.bool true) ∧ Below w.heap.size w w' := by
  go_enter Try.func6, Try.ntmps6
  go_wp2_with (first | (go_at_call 12; refine (live_any _).mono ?_; rintro e w' ⟨rfl, rfl⟩))
  refine (known_any _ _ (by omega) (by omega)).mono ?_
  rintro e w1 ⟨rfl, hb1⟩
  go_wp2_with fail
  refine (greatSmall_any _ _ (by omega) (by omega)).mono ?_
  rintro e w2 ⟨rfl, hb2⟩
  go_wp2_with fail
  go_ret
  exact ⟨rfl, hb1.trans (hb2.mono hb1.size)⟩

end Go.Proofs.Ytekjfmjeemjcjaa
