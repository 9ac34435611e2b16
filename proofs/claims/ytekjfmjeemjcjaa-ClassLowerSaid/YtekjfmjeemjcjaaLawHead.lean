/-
  The law ClassHead, walked. Nothing is assumed.
-/
import Derived.Test.YtekjfmjeemjcjaaTexts
import Derived.Test.YtekjfmjeemjcjaaLawPcs
namespace Go.Proofs.Ytekjfmjeemjcjaa
open Go.RowKit Go.Lib Go.Shelf
attribute [local go_sem] Oper.semAt_some
set_option linter.unusedVariables false
set_option linter.unusedSimpArgs false

set_option maxHeartbeats 1000000 in
theorem classHead_any (s : ByteArray) (w : World) (hs : s.size ≤ 140737488351232) :
    Calls Try.prog 9 #[.string s] w fun e w' => e = .returned (.bool true) ∧ Below w.heap.size w w' := by
  by_cases hbig : 2147483647 < s.size
  · have hdb : decide ((2147483647 : Int) < (s.size : Int)) = true := by simp; omega
    go_enter Try.func9, Try.ntmps9
    go_wp2_with (first | (go_at_call 15; refine (beyond_any _ _).mono ?_; rintro e w' ⟨rfl, rfl⟩) | (go_at_call 12; refine (live_any _).mono ?_; rintro e w' ⟨rfl, rfl⟩))
    go_ret
    exact ⟨rfl, Below.refl _ _⟩
  · have hdb : decide ((2147483647 : Int) < (s.size : Int)) = false := by simp; omega
    go_enter Try.func9, Try.ntmps9
    go_wp2_with (first | (go_at_call 15; refine (beyond_any _ _).mono ?_; rintro e w' ⟨rfl, rfl⟩) | (go_at_call 12; refine (live_any _).mono ?_; rintro e w' ⟨rfl, rfl⟩))
    refine (headText_any _ _ (by omega)).mono ?_
    rintro e w1 ⟨rfl, hb⟩
    go_wp2_with fail
    refine (rhead_any _ _ (by omega)).mono ?_
    rintro e w2 ⟨rfl, hc⟩
    replace hb := hb.trans (hc.mono hb.size)
    clear hc
    go_wp2_with fail
    go_ret
    exact ⟨rfl, hb⟩

end Go.Proofs.Ytekjfmjeemjcjaa
