/-
  Walks: great letters, vowels and kinds, as package canticleref03 says them. Nothing is assumed.
-/
import Derived.Test.YtekjfmjeemjcjaaRefW
namespace Go.Proofs.Ytekjfmjeemjcjaa
open Go.RowKit Go.Lib Go.Shelf
set_option linter.unusedVariables false
set_option linter.unusedSimpArgs false

theorem upper_lower_nat : ∀ n : Nat, n < 1100 → great (n : Int) = true → n ≠ 0x130 → upper (lower (n : Int)) = n := by decide +kernel
theorem up_found (r g : Int) (h1 : r ≠ 0x69) (hg : great g = true) (hl : lower g = r) : upper r = g := by
  have hp := (great_iff g).1 hg
  have hb : 0 ≤ g ∧ g < 1100 := by unfold greatP at hp; omega
  obtain ⟨n, rfl⟩ : ∃ n : Nat, g = n := ⟨g.toNat, by omega⟩
  rw [← hl]
  refine upper_lower_nat n (by omega) hg ?_
  rintro rfl
  exact h1 (by rw [← hl]; decide)
theorem up_none (r : Int) (h2 : r ≠ 0x131) (h3 : r ≠ 0x17f) (h4 : r ≠ 0x3c2) (h : ∀ x, 0x41 ≤ x → x < 0x430 → great x = true → lower x ≠ r) : upper r = r := by
  unfold upper
  by_cases hs : small r = true
  · rw [if_neg (by simp [hs]), if_neg h2, if_neg h3, if_neg h4, if_neg]
    rw [Bool.and_eq_true, beq_iff_eq]
    rintro ⟨hg, hl⟩
    have hp := (great_iff _).1 hg
    exact h (r - back r) (by unfold greatP at hp; omega) (by unfold greatP at hp; omega) hg hl
  · rw [if_pos (by simp [hs])]
theorem lower_tab (r : Int) : lower r = r ∨ (65 ≤ r ∧ r < 1072) := by
  unfold lower
  by_cases hg : great r = true
  · have hp := (great_iff r).1 hg
    right; unfold greatP at hp; omega
  · left; simp [hg]

set_option maxHeartbeats 1000000 in
theorem rupper_any (r : Int) (w : World) (h0 : -2147483648 ≤ r) (h1 : r ≤ 2147483647) :
    Calls Try.prog 50 #[.int .i32 r] w fun e w' => e = .returned (.int .i32 (upper r)) ∧ w = w' := by
  by_cases hs : small r = true
  · by_cases e1 : r = 0x69 ∨ r = 0x131 ∨ r = 0x17f ∨ r = 0x3c2
    · rcases e1 with rfl | rfl | rfl | rfl
      all_goals
        go_enter Try.func50, Try.ntmps50
        go_wp2_with (first | (go_at_call 43; refine (rsmall_any _ _ (by omega) (by omega)).mono ?_; rintro e w' ⟨rfl, rfl⟩))
        go_ret
        exact ⟨ret_int (by decide), rfl⟩
    · have e2 : r ≠ 0x69 ∧ r ≠ 0x131 ∧ r ≠ 0x17f ∧ r ≠ 0x3c2 := by omega
      obtain ⟨n1, n2, n3, n4⟩ := e2
      have b1 : (r == 105) = false := by simp; omega
      have b2 : (r == 305) = false := by simp; omega
      have b3 : (r == 383) = false := by simp; omega
      have b4 : (r == 962) = false := by simp; omega
      have Un := Lib.hid (up_none r n2 n3 n4)
      have Uf := Lib.hid (fun g => up_found r g n1)
      clear n1 n2 n3 n4 e1
      go_enter Try.func50, Try.ntmps50
      go_wp2_with (first | (go_at_call 43; refine (rsmall_any _ _ (by omega) (by omega)).mono ?_; rintro e w' ⟨rfl, rfl⟩))
      go_loop [3] (fun v => ∃ g : Int, v = .int .i32 g ∧ 65 ≤ g ∧ g ≤ 1072 ∧ Hid (∀ x, 0x41 ≤ x → x < g → great x = true → lower x ≠ r)) (fun v => (1072 - intOf v).toNat)
      case atStart => exact ⟨65, rfl, by omega, by omega, fun x hx hx2 => by omega⟩
      case round =>
        obtain ⟨g, rfl, g1, g2, hall⟩ := hrel
        by_cases hle : g ≤ 1071
        · have lb := lower_bd g (by omega) (by omega)
          have lb1 := lb.1; have lb2 := lb.2; clear lb
          by_cases hg : great g = true
          · by_cases hl : lower g = r
            · have hl' : (lower g == r) = true := by simp [hl]
              have Hl := Lib.hid hl; have Hg := Lib.hid hg; clear hl hs
              go_wp2_with (first | (go_at_call 40; refine (rgreat_any _ _ (by omega) (by omega)).mono ?_; rintro e w' ⟨rfl, rfl⟩) | (go_at_call 48; refine (rlower_any _ _ (by omega) (by omega)).mono ?_; rintro e w' ⟨rfl, rfl⟩))
              go_ret
              exact ⟨ret_int (Uf.out g Hg.out Hl.out).symm, rfl⟩
            · have hl' : (lower g == r) = false := by simp [hl]
              have Hl := Lib.hid hl; clear hl hs
              go_wp2_with (first | (go_at_call 40; refine (rgreat_any _ _ (by omega) (by omega)).mono ?_; rintro e w' ⟨rfl, rfl⟩) | (go_at_call 48; refine (rlower_any _ _ (by omega) (by omega)).mono ?_; rintro e w' ⟨rfl, rfl⟩))
              go_round
              case rel =>
                refine ⟨g + 1, rfl, by omega, by omega, fun x hx hx2 hgx => ?_⟩
                by_cases e : x = g
                · subst e; exact Hl.out
                · exact hall.out x hx (by omega) hgx
              case measure => simp [intOf]; omega
          · have Hg := Lib.hid hg
            clear hs
            go_wp2_with (first | (go_at_call 40; refine (rgreat_any _ _ (by omega) (by omega)).mono ?_; rintro e w' ⟨rfl, rfl⟩) | (go_at_call 48; refine (rlower_any _ _ (by omega) (by omega)).mono ?_; rintro e w' ⟨rfl, rfl⟩))
            go_round
            case rel =>
              refine ⟨g + 1, rfl, by omega, by omega, fun x hx hx2 hgx => ?_⟩
              by_cases e : x = g
              · subst e; exact absurd hgx Hg.out
              · exact hall.out x hx (by omega) hgx
            case measure => simp [intOf]; omega
        · clear hs
          go_wp2
          go_ret
          exact ⟨ret_int (Un.out (fun x hx hx2 => hall.out x hx (by omega))).symm, rfl⟩
  · go_enter Try.func50, Try.ntmps50
    go_wp2_with (first | (go_at_call 43; refine (rsmall_any _ _ (by omega) (by omega)).mono ?_; rintro e w' ⟨rfl, rfl⟩))
    go_ret
    exact ⟨ret_int (by simp [upper, hs]), rfl⟩

end Go.Proofs.Ytekjfmjeemjcjaa
