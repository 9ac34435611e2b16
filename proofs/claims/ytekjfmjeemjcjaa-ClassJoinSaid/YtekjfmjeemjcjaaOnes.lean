/-
  The function values of class.UpperText and class.HeadText. Nothing is assumed.
-/
import Derived.Test.YtekjfmjeemjcjaaSmall
namespace Go.Proofs.Ytekjfmjeemjcjaa
open Go.RowKit Go.Lib Go.Shelf
attribute [local go_sem] Oper.semAt_some
set_option linter.unusedVariables false
set_option linter.unusedSimpArgs false

def upLet (r : Int) : ByteArray := if r = 223 then ⟨#[83, 83]⟩ else Utf8.encode (upper r)
def headLet (r : Int) (led : Bool) (rest : ByteArray) : ByteArray := if led = true then smallOne r led rest else Utf8.encode (upper r)

set_option maxRecDepth 100000 in
set_option maxHeartbeats 4000000 in
theorem up1_any (r : Int) (led : Bool) (rest : ByteArray) (w : World) (h0 : -2147483648 ≤ r) (h1 : r ≤ 2147483647) :
    Calls Try.prog 56 #[.int .i32 r, .bool led, .string rest] w fun e w' => e = .returned (.string (upLet r)) ∧ Below w.heap.size w w' := by
  by_cases hr : r = 223
  · have e1 : (r == 223) = true := by simp [hr]
    have hq : Hid (upLet r = ⟨#[83, 83]⟩) := by show _ = _; unfold upLet; rw [if_pos hr]
    clear hr
    go_enter Try.func56, Try.ntmps56
    go_wp2
    go_ret
    exact ⟨ret_str hq.out.symm, Below.refl _ _⟩
  · have e1 : (r == 223) = false := by simp [hr]
    have hq : Hid (upLet r = Utf8.encode (upper r)) := by show _ = _; unfold upLet; rw [if_neg hr]
    clear hr
    go_enter Try.func56, Try.ntmps56
    go_wp2_with (first | (go_at_call 49; refine (upper_any _ _ (by omega) (by omega)).mono ?_; rintro e w' ⟨rfl, rfl⟩))
    go_ret
    exact ⟨ret_str hq.out.symm, Below.refl _ _⟩

set_option maxRecDepth 100000 in
set_option maxHeartbeats 4000000 in
theorem head1_any (r : Int) (led : Bool) (rest : ByteArray) (w : World) (h0 : -2147483648 ≤ r) (h1 : r ≤ 2147483647) (hs : rest.size ≤ 2147483647) :
    Calls Try.prog 53 #[.int .i32 r, .bool led, .string rest] w fun e w' => e = .returned (.string (headLet r led rest)) ∧ Below w.heap.size w w' := by
  cases led
  · have hq : Hid (headLet r false rest = Utf8.encode (upper r)) := by show _ = _; unfold headLet; rw [if_neg (by simp)]
    go_enter Try.func53, Try.ntmps53
    go_wp2_with (first | (go_at_call 49; refine (upper_any _ _ (by omega) (by omega)).mono ?_; rintro e w' ⟨rfl, rfl⟩))
    go_ret
    exact ⟨ret_str hq.out.symm, Below.refl _ _⟩
  · have hq : Hid (headLet r true rest = smallOne r true rest) := by show _ = _; unfold headLet; rw [if_pos rfl]
    go_enter Try.func53, Try.ntmps53
    go_wp2_with fail
    refine (small1_any _ _ _ _ (by omega) (by omega) hs).mono ?_
    rintro e w2 ⟨rfl, hb⟩
    have Hb := Lib.hid hb
    clear hb
    go_wp2
    go_ret
    exact ⟨ret_str hq.out.symm, Hb.out⟩

end Go.Proofs.Ytekjfmjeemjcjaa
