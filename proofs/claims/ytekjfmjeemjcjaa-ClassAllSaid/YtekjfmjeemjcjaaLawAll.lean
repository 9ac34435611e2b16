/-
  Walk: canticlelaw03.ClassAll. Nothing is assumed.
-/
import Derived.Test.YtekjfmjeemjcjaaLawRunes
namespace Go.Proofs.Ytekjfmjeemjcjaa
open Go.RowKit Go.Lib Go.Shelf
set_option linter.unusedVariables false

set_option maxHeartbeats 1000000 in
theorem classAll_any (w : World) :
    Calls Try.prog 7 #[] w fun e w' => e = .returned (.bool true) ∧ Below w.heap.size w w' := by
  go_enter Try.func7, Try.ntmps7
  go_wp2_with (first | (go_at_call 12; refine (live_any _).mono ?_; rintro e w' ⟨rfl, rfl⟩))
  go_loopw [1] (fun v wr => ∃ g : Int, v = .int .i32 g ∧ -3 ≤ g ∧ g ≤ 12304 ∧ Below w.heap.size w wr) (fun v _ => (12304 - intOf v).toNat)
  case atStart => exact ⟨-3, rfl, by omega, by omega, Below.refl _ _⟩
  case round =>
    obtain ⟨g, rfl, g1, g2, hb⟩ := hrel
    by_cases hle : g < 12304
    · go_wp2_with fail
      refine (classRunes_any _ _ (by omega) (by omega)).mono ?_
      rintro e w1 ⟨rfl, hb1⟩
      go_wp2_with fail
      go_roundw
      case rel => exact ⟨g + 1, rfl, by omega, by omega, hb.trans (hb1.mono hb.size)⟩
      case measure => simp [intOf]; omega
    · go_wp2_with fail
      refine (classRunes_any _ _ (by omega) (by omega)).mono ?_
      rintro e w1 ⟨rfl, hc⟩
      have hb1 := hc
      clear hc
      go_wp2_with fail
      refine (classRunes_any _ _ (by omega) (by omega)).mono ?_
      rintro e w2 ⟨rfl, hc⟩
      replace hb1 := hb1.trans (hc.mono hb1.size)
      clear hc
      go_wp2_with fail
      refine (classRunes_any _ _ (by omega) (by omega)).mono ?_
      rintro e w3 ⟨rfl, hc⟩
      replace hb1 := hb1.trans (hc.mono hb1.size)
      clear hc
      go_wp2_with fail
      refine (classRunes_any _ _ (by omega) (by omega)).mono ?_
      rintro e w4 ⟨rfl, hc⟩
      replace hb1 := hb1.trans (hc.mono hb1.size)
      clear hc
      go_wp2_with fail
      refine (classRunes_any _ _ (by omega) (by omega)).mono ?_
      rintro e w5 ⟨rfl, hc⟩
      replace hb1 := hb1.trans (hc.mono hb1.size)
      clear hc
      go_wp2_with fail
      refine (classRunes_any _ _ (by omega) (by omega)).mono ?_
      rintro e w6 ⟨rfl, hc⟩
      replace hb1 := hb1.trans (hc.mono hb1.size)
      clear hc
      go_wp2_with fail
      refine (classRunes_any _ _ (by omega) (by omega)).mono ?_
      rintro e w7 ⟨rfl, hc⟩
      replace hb1 := hb1.trans (hc.mono hb1.size)
      clear hc
      go_wp2_with fail
      refine (classRunes_any _ _ (by omega) (by omega)).mono ?_
      rintro e w8 ⟨rfl, hc⟩
      replace hb1 := hb1.trans (hc.mono hb1.size)
      clear hc
      go_wp2_with fail
      go_ret
      exact ⟨rfl, hb.trans (hb1.mono hb.size)⟩

end Go.Proofs.Ytekjfmjeemjcjaa
