/-
  class.small, and the function values of UpperText and HeadText. Nothing is assumed.
-/
import Derived.Test.YtekjfmjeemjcjaaFol
import Derived.Test.YtekjfmjeemjcjaaRefUp
namespace Go.Proofs.Ytekjfmjeemjcjaa
open Go.RowKit Go.Lib Go.Shelf
attribute [local go_sem] Oper.semAt_some
set_option linter.unusedVariables false
set_option linter.unusedSimpArgs false

/-- A letter in small letters: what stands ahead and behind is told. -/
def smallOne (r : Int) (led : Bool) (rest : ByteArray) : ByteArray := if r = 931 ∧ led = true ∧ aft (pcs rest.data.toList) = false then ⟨#[207, 130]⟩ else Utf8.encode (lower r)

set_option maxRecDepth 100000 in
set_option maxHeartbeats 4000000 in
theorem small1_any (r : Int) (led : Bool) (rest : ByteArray) (w : World) (h0 : -2147483648 ≤ r) (h1 : r ≤ 2147483647) (hs : rest.size ≤ 2147483647) :
    Calls Try.prog 52 #[.int .i32 r, .bool led, .string rest] w fun e w' => e = .returned (.string (smallOne r led rest)) ∧ Below w.heap.size w w' := by
  have hno : ∀ w, (r == 931) = false → Calls Try.prog 52 #[.int .i32 r, .bool led, .string rest] w fun e w' => e = .returned (.string (smallOne r led rest)) ∧ Below w.heap.size w w' := by
    intro w e1
    have h2 : r ≠ 931 := by simpa using e1
    have hq : Hid (smallOne r led rest = Utf8.encode (lower r)) := by show _ = _; unfold smallOne; rw [if_neg (by simp [h2])]
    clear h2
    go_enter Try.func52, Try.ntmps52
    go_wp2_with (first | (go_at_call 33; refine (lower_any _ _ (by omega) (by omega)).mono ?_; rintro e w' ⟨rfl, rfl⟩))
    go_ret
    exact ⟨ret_str hq.out.symm, Below.refl _ _⟩
  by_cases h931 : r = 931
  · have e1 : (r == 931) = true := by simp [h931]
    cases led
    · have hq : Hid (smallOne r false rest = Utf8.encode (lower r)) := by show _ = _; unfold smallOne; rw [if_neg (by simp)]
      clear hno h931
      go_enter Try.func52, Try.ntmps52
      go_wp2_with (first | (go_at_call 33; refine (lower_any _ _ (by omega) (by omega)).mono ?_; rintro e w' ⟨rfl, rfl⟩))
      go_ret
      exact ⟨ret_str hq.out.symm, Below.refl _ _⟩
    · have H := Lib.hid h931
      clear hno h931
      go_enter Try.func52, Try.ntmps52
      go_wp2_with fail
      refine (followed_any _ _ hs).mono ?_
      rintro e w2 ⟨rfl, hb⟩
      have Hb := Lib.hid hb
      clear hb
      cases hf : aft (pcs rest.data.toList)
      · have hq : Hid (smallOne r true rest = ⟨#[207, 130]⟩) := by show _ = _; unfold smallOne; rw [if_pos ⟨H.out, rfl, hf⟩]
        clear hf
        go_wp2
        go_ret
        exact ⟨ret_str hq.out.symm, Hb.out⟩
      · have hq : Hid (smallOne r true rest = Utf8.encode (lower r)) := by show _ = _; unfold smallOne; rw [if_neg (by simp [hf])]
        clear hf
        go_wp2_with (first | (go_at_call 33; refine (lower_any _ _ (by omega) (by omega)).mono ?_; rintro e w' ⟨rfl, rfl⟩))
        go_ret
        exact ⟨ret_str hq.out.symm, Hb.out⟩
  · exact hno w (by simp [h931])

end Go.Proofs.Ytekjfmjeemjcjaa
