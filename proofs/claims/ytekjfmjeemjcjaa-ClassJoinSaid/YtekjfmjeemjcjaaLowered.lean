/-
  The reference's lowered. Nothing is assumed.
-/
import Derived.Test.YtekjfmjeemjcjaaLed
namespace Go.Proofs.Ytekjfmjeemjcjaa
open Go.RowKit Go.Lib Go.Shelf
attribute [local go_sem] Oper.semAt_some
set_option linter.unusedVariables false
set_option linter.unusedSimpArgs false

/-- The k-th piece in small letters. -/
def lowOne (s : ByteArray) (l : List Pc) (k : Nat) (p : Pc) : ByteArray :=
  if pk p ≠ 1 then s.extract p.i (p.i + p.w)
  else if p.r = 931 ∧ aft (l.take k).reverse = true ∧ aft (l.drop (k + 1)) = false then ⟨#[207, 130]⟩
  else Utf8.encode (lower p.r)

theorem ret_str {a b : ByteArray} (h : a = b) : Ending.returned (.string a) = .returned (.string b) := by rw [h]

set_option maxRecDepth 100000 in
set_option maxHeartbeats 4000000 in
theorem lowered_any (s : ByteArray) (l : List Pc) (v : Value) (k base : Nat) (x : Pc) (w : World) (hs : s.size ≤ 2147483647) (hlen : l.length ≤ 2147483647) (hx : l[k]? = some x) (hval : ∀ p ∈ l, p.r ≤ 1114111) (hend : x.i + x.w ≤ s.size)
    (hrw : Rw enc4 w base 47 4 v (l.map fun p => (p, p.broken))) :
    Calls Try.prog 55 #[.string s, v, .int .i64 k] w fun e w' => e = .returned (.string (lowOne s l k x)) ∧ Below w.heap.size w w' := by
  have hk : k < l.length := (List.getElem?_eq_some_iff.1 hx).1
  have hk1 : k ≤ 2147483647 := by omega
  have hv : x.r ≤ 1114111 := hval x (List.mem_of_getElem? hx)
  have hv1 : (-2147483648 : Int) ≤ (x.r : Int) := by omega
  have hv2 : (x.r : Int) ≤ 2147483647 := by omega
  have hLk : (l.map fun p => (p, p.broken))[k]? = some (x, x.broken) := by rw [List.getElem?_map, hx]; rfl
  have hlen' : (l.map fun p => (p, p.broken)).length = l.length := by simp
  rcases hrw.shape with ⟨rfl, hL⟩ | ⟨g, cap, rfl, hbg, hglt, _, _⟩
  · exfalso; have : l = [] := by simpa using hL
    subst this; simp at hk
  have c0 : w.cell? ⟨g, k * 4, none⟩ = some (.int .i64 x.i) := hrw.cell enc4_len hLk (j := 0) (by omega) rfl
  have c1 : w.cell? ⟨g, k * 4 + 1, none⟩ = some (.int .i64 x.w) := hrw.cell enc4_len hLk (j := 1) (by omega) rfl
  have c2 : w.cell? ⟨g, k * 4 + 2, none⟩ = some (.int .i32 x.r) := hrw.cell enc4_len hLk (j := 2) (by omega) rfl
  have c3 : w.cell? ⟨g, k * 4 + 3, none⟩ = some (.bool x.broken) := hrw.cell enc4_len hLk (j := 3) (by omega) rfl
  have Hval := Lib.hid hval; have Hrw := Lib.hid hrw; have Hlen := Lib.hid hlen'; have HLk := Lib.hid hLk; have Hx := Lib.hid hx
  rw [hlen']
  clear hx hLk hlen' hrw hv hval
  go_enter Try.func55, Try.ntmps55
  go_wp2_with fail
  refine (rof_any _ _ _ _ _ (by omega) (by omega)).mono ?_
  rintro e w2 ⟨rfl, hb2⟩
  have hbx : w2.heap[w.heap.size]? = some (.cells #[.int .i64 x.i, .int .i64 x.w, .int .i32 x.r, .bool x.broken] 47 (0, 0)) := some_lt (World.alloc_heap_new w _) hb2
  have d0 : w2.cell? ⟨w.heap.size, 0, none⟩ = some (.int .i64 x.i) := cell_at hbx rfl
  have d1 : w2.cell? ⟨w.heap.size, 1, none⟩ = some (.int .i64 x.w) := cell_at hbx rfl
  have d2 : w2.cell? ⟨w.heap.size, 2, none⟩ = some (.int .i32 x.r) := cell_at hbx rfl
  have hb2' : Below w.heap.size w w2 := ((Below.refl _ _).alloc (Nat.le_refl _) _).trans (hb2.mono (by simp))
  have hr2 : Rw enc4 w2 base 47 4 (.slice (some ⟨g, 0, none⟩) l.length cap) (l.map fun p => (p, p.broken)) := by rw [← Hlen.out]; exact Hrw.out.below hb2'
  have hsz2 := hb2'.size
  have Hb2 := Lib.hid hb2'; have Hr2 := Lib.hid hr2; have Hbx := Lib.hid hbx
  clear hb2 hb2' hr2 hbx c0 c1 c2 c3
  have hpk : kindOf x.broken (x.r : Int) = pk x := rfl
  rw [hpk]
  clear hpk
  by_cases hp : pk x = 1
  · have e1 : (pk x != 1) = false := by simp [hp]
    by_cases h31 : x.r = 931
    · have e2 : ((x.r : Int) == 931) = true := by simp; omega
      have Hp := Lib.hid hp; have H31 := Lib.hid h31
      clear hp h31
      go_wp2_with fail
      refine (led_any l _ k base _ hlen (by omega) Hval.out Hr2.out).mono ?_
      rintro e w3 ⟨rfl, hb3⟩
      have f2 : w3.cell? ⟨w.heap.size, 2, none⟩ = some (.int .i32 x.r) := cell_at (some_lt Hbx.out hb3) rfl
      have hr3 := Hr2.out.below hb3
      have hb3' := Hb2.out.trans (hb3.mono Hb2.out.size)
      have Hr3 := Lib.hid hr3; have Hb3 := Lib.hid hb3'; have Hbx3 := Lib.hid (some_lt Hbx.out hb3)
      clear hb3 hr3 hb3' d0 d1 d2
      cases hl : aft (l.take k).reverse
      · have Hl := Lib.hid hl
        clear hl
        go_wp2_with (first | (go_at_call 48; refine (rlower_any _ _ (by omega) (by omega)).mono ?_; rintro e w' ⟨rfl, rfl⟩))
        go_ret
        exact ⟨ret_str (by unfold lowOne; rw [if_neg (by simp [Hp.out]), if_neg (by simp [Hl.out])]), Hb3.out⟩
      · have Hl := Lib.hid hl
        clear hl
        go_wp2_with fail
        refine (fol_any l _ k base _ hlen hk Hval.out Hr3.out).mono ?_
        rintro e w4 ⟨rfl, hb4⟩
        have f2 : w4.cell? ⟨w.heap.size, 2, none⟩ = some (.int .i32 x.r) := cell_at (some_lt Hbx3.out hb4) rfl
        have hb4' := Hb3.out.trans (hb4.mono Hb3.out.size)
        have Hb4 := Lib.hid hb4'
        clear hb4 hb4'
        cases hf : aft (l.drop (k + 1))
        · have Hf := Lib.hid hf
          clear hf
          go_wp2
          go_ret
          exact ⟨ret_str (by unfold lowOne; rw [if_neg (by simp [Hp.out]), if_pos ⟨H31.out, Hl.out, Hf.out⟩]), Hb4.out⟩
        · have Hf := Lib.hid hf
          clear hf
          go_wp2_with (first | (go_at_call 48; refine (rlower_any _ _ (by omega) (by omega)).mono ?_; rintro e w' ⟨rfl, rfl⟩))
          go_ret
          exact ⟨ret_str (by unfold lowOne; rw [if_neg (by simp [Hp.out]), if_neg (by simp [Hf.out])]), Hb4.out⟩
    · have e2 : ((x.r : Int) == 931) = false := by simp; omega
      have Hp := Lib.hid hp; have H31 := Lib.hid h31
      clear hp h31
      go_wp2_with (first | (go_at_call 48; refine (rlower_any _ _ (by omega) (by omega)).mono ?_; rintro e w' ⟨rfl, rfl⟩))
      go_ret
      exact ⟨ret_str (by unfold lowOne; rw [if_neg (by simp [Hp.out]), if_neg (by simp [H31.out])]), Hb2.out⟩
  · have e1 : (pk x != 1) = true := by simp [bne, hp]
    have Hp := Lib.hid hp
    clear hp
    go_wp2
    go_ret
    exact ⟨ret_str (by unfold lowOne; rw [if_pos Hp.out]), Hb2.out⟩

end Go.Proofs.Ytekjfmjeemjcjaa
