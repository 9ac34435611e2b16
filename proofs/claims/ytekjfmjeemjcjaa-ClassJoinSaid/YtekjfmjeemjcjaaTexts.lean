/-
  class.LowerText, UpperText, HeadText. Nothing is assumed.
-/
import Derived.Test.YtekjfmjeemjcjaaTxt2
namespace Go.Proofs.Ytekjfmjeemjcjaa
open Go.RowKit Go.Lib Go.Shelf
attribute [local go_sem] Oper.semAt_some
set_option linter.unusedVariables false
set_option linter.unusedSimpArgs false

theorem smallOne_size (r : Int) (b : Bool) (t : ByteArray) : (smallOne r b t).size ≤ 4 := by
  unfold smallOne; split
  · decide
  · rw [encode_size]; exact (encodeRune_len _).2
theorem headLet_size (r : Int) (b : Bool) (t : ByteArray) : (headLet r b t).size ≤ 4 := by
  unfold headLet; split
  · exact smallOne_size r b t
  · rw [encode_size]; exact (encodeRune_len _).2
theorem upLet_size (r : Int) : (upLet r).size ≤ 4 := by
  unfold upLet; split
  · decide
  · rw [encode_size]; exact (encodeRune_len _).2

set_option maxHeartbeats 1000000 in
theorem lowText_any (s : ByteArray) (w : World) (hs : s.size ≤ 2147483647) :
    Calls Try.prog 25 #[.string s] w fun e w' => e = .returned (.string (lowText s)) ∧ Below w.heap.size w w' := by
  have hc := turn_any s 52 smallOne w hs (enters_of Try.func52 (by kernel_rfl) rfl) (fun r led rest w h1 h2 => small1_any r led rest w (by omega) (by omega) h2) smallOne_size
  rw [turn_low] at hc
  go_enter Try.func25, Try.ntmps25
  go_wp2_with (go_at_call 51; refine hc.mono ?_; rintro e w' ⟨rfl, hb⟩)
  go_ret
  exact ⟨rfl, hb⟩
set_option maxHeartbeats 1000000 in
theorem upText_any (s : ByteArray) (w : World) (hs : s.size ≤ 2147483647) :
    Calls Try.prog 28 #[.string s] w fun e w' => e = .returned (.string (upText s)) ∧ Below w.heap.size w w' := by
  have hc := turn_any s 56 (fun r _ _ => upLet r) w hs (enters_of Try.func56 (by kernel_rfl) rfl) (fun r led rest w h1 h2 => up1_any r led rest w (by omega) (by omega)) (fun r _ _ => upLet_size r)
  rw [turn_up] at hc
  go_enter Try.func28, Try.ntmps28
  go_wp2_with (go_at_call 51; refine hc.mono ?_; rintro e w' ⟨rfl, hb⟩)
  go_ret
  exact ⟨rfl, hb⟩
set_option maxHeartbeats 1000000 in
theorem headText_any (s : ByteArray) (w : World) (hs : s.size ≤ 2147483647) :
    Calls Try.prog 26 #[.string s] w fun e w' => e = .returned (.string (headText s)) ∧ Below w.heap.size w w' := by
  have hc := turn_any s 53 headLet w hs (enters_of Try.func53 (by kernel_rfl) rfl) (fun r led rest w h1 h2 => head1_any r led rest w (by omega) (by omega) h2) headLet_size
  rw [turn_head] at hc
  go_enter Try.func26, Try.ntmps26
  go_wp2_with (go_at_call 51; refine hc.mono ?_; rintro e w' ⟨rfl, hb⟩)
  go_ret
  exact ⟨rfl, hb⟩

end Go.Proofs.Ytekjfmjeemjcjaa
