/-
  Walk: canticlelaw03.pieces. Nothing is assumed.
-/
import Derived.Test.YtekjfmjeemjcjaaSeqW
import Derived.Test.YtekjfmjeemjcjaaLawRunes
namespace Go.Proofs.Ytekjfmjeemjcjaa
open Go.RowKit Go.Lib Go.Shelf
set_option linter.unusedVariables false
set_option linter.unusedSimpArgs false

theorem beyond_any (n : Int) (w : World) :
    Calls Try.prog 15 #[.int .i64 n] w fun e w' => e = .returned (.bool (decide (2147483647 < n))) ∧ w = w' := by
  go_enter Try.func15, Try.ntmps15
  go_wp2
  go_ret
  exact ⟨rfl, rfl⟩
theorem kind_ne11 (r : Int) : kind r ≠ 11 := by
  unfold kind kindP; (repeat' split) <;> omega
theorem of_plain (i wd r : Int) (w : World) (h0 : -2147483648 ≤ r) (h1 : r ≤ 2147483647) :
    Calls Try.prog 34 #[.agg #[.int .i64 i, .int .i64 wd, .int .i32 r, .bool false]] w fun e w' => e = .returned (.int .i64 (kind r)) ∧ Below w.heap.size w w' :=
  (of_any i wd r false w h0 h1).mono (fun e w' h => ⟨by rw [h.1]; simp [kindOf], h.2⟩)
theorem of_broken (i wd r : Int) (w : World) (h0 : -2147483648 ≤ r) (h1 : r ≤ 2147483647) :
    Calls Try.prog 34 #[.agg #[.int .i64 i, .int .i64 wd, .int .i32 r, .bool true]] w fun e w' => e = .returned (.int .i64 11) ∧ Below w.heap.size w w' :=
  (of_any i wd r true w h0 h1).mono (fun e w' h => ⟨by rw [h.1]; simp [kindOf], h.2⟩)

set_option maxRecDepth 100000 in
set_option maxHeartbeats 6000000 in
theorem lawPieces_any (s : ByteArray) (w : World) (hs : s.size ≤ 9223372036854775807) :
    Calls Try.prog 13 #[.string s] w fun e w' => e = .returned (.bool true) ∧ Below w.heap.size w w' := by
  by_cases hbig : 2147483647 < s.size
  · have hdb : decide ((2147483647 : Int) < (s.size : Int)) = true := by simp; omega
    go_enter Try.func13, Try.ntmps13
    go_wp2_with (first | (go_at_call 15; refine (beyond_any _ _).mono ?_; rintro e w' ⟨rfl, rfl⟩) | (go_at_call 12; refine (live_any _).mono ?_; rintro e w' ⟨rfl, rfl⟩))
    go_ret
    exact ⟨rfl, Below.refl _ _⟩
  · have hdb : decide ((2147483647 : Int) < (s.size : Int)) = false := by simp; omega
    go_enter Try.func13, Try.ntmps13
    go_wp2_with (first | (go_at_call 15; refine (beyond_any _ _).mono ?_; rintro e w' ⟨rfl, rfl⟩) | (go_at_call 12; refine (live_any _).mono ?_; rintro e w' ⟨rfl, rfl⟩))
    go_loopw [3] (fun v wr => ∃ pos : Nat, v = .int .i64 pos ∧ pos ≤ s.size ∧ Below w.heap.size w wr ∧ wr.heap[w.heap.size]? = some (.stringIter s pos)) (fun _ wr => s.size - wr.iterPos w.heap.size)
    case atStart => exact ⟨0, rfl, Nat.zero_le _, (Below.refl _ _).alloc (Nat.le_refl _) _, World.iter_heap w s 0⟩
    case round =>
      obtain ⟨pos, rfl, hpos, hb, hit⟩ := hrel
      by_cases hlt : pos < s.size
      · obtain ⟨r, wd, W1, hn, hf, hit1, hsz, hok, hp, hle, h1⟩ := next_some Try.prog wr w.heap.size s pos hit hlt
        have hb1 : Below w.heap.size w W1 := hb.trans (hf.toBelow hb.size (by intro k hk; omega))
        have hitlt := lt_of_some hit1
        have hv := hok.valid
        have hv1 : (-2147483648 : Int) ≤ (r : Int) := by omega
        have hv2 : (r : Int) ≤ 2147483647 := by omega
        have hpw := Lib.hid (iterPos_at hit)
        clear hv hp hf hb hit
        by_cases hr : r = 65533
        · subst hr
          have hw3 : (Utf8.encode 65533).size = 3 := by decide
          have hk65 : kind 65533 = 10 := by decide
          have hlo := hok.lost_ok rfl
          have hlb := hok.lost_bad rfl
          have hex : (s.extract pos (pos + 3)).toList = (s.data.toList.drop pos).take 3 := by rw [Lib.toList_data, extract_data, show pos + 3 - pos = 3 from by omega]
          clear hok
          by_cases h2 : wd = 1
          · subst h2
            have e1 : ((s.extract pos (pos + 3)).toList == [239, 191, 189]) = false := by rw [beq_eq_false_iff_ne, hex]; exact hlb rfl
            clear hlo hlb hex
            by_cases h3 : (s.size : Int) - pos < 3
            · have hd3 : decide ((s.size : Int) - pos < 3) = true := decide_eq_true h3
              clear h3
              go_wp2_with fail
              refine (of_broken _ _ _ _ (by omega) (by omega)).mono ?_
              rintro e w2 ⟨rfl, hb2⟩
              have hbx : w2.heap[wr.heap.size]? = some (.cells #[.int .i64 pos, .int .i64 (↑pos + 1 - ↑pos), .int .i32 65533, .bool true] 51 (0, 0)) := by rw [← hsz]; exact some_lt (World.alloc_heap_new W1 _) hb2
              have c0 := cell_at hbx (j := 0) rfl
              have c1 := cell_at hbx (j := 1) rfl
              have c2 := cell_at hbx (j := 2) rfl
              have c3 := cell_at hbx (j := 3) rfl
              have f0 := frozen_at hbx 0
              have f1 := frozen_at hbx 1
              have it2 : w2.heap[w.heap.size]? = some (.stringIter s (pos + 1)) := some_lt ((Below.heap_alloc W1 _ _ hitlt).trans hit1) hb2
              have hlt2 := lt_of_some hbx
              have hb2' : Below w.heap.size w w2 := (hb1.alloc hb1.size _).trans (hb2.mono (by have := hb1.size; simp; omega))
              clear hb2 hbx hb1
              go_wp2_with (first | (go_at_call 32; refine (kind_any _ _ (by omega) (by omega)).mono ?_; rintro e w' ⟨rfl, rfl⟩))
              refine (of_broken _ _ _ _ (by omega) (by omega)).mono ?_
              rintro e w3 ⟨rfl, hb3⟩
              have it3 : w3.heap[w.heap.size]? = some (.stringIter s (pos + 1)) := some_lt (((Below.heap_setCell _ _ _ _ (by show w.heap.size ≠ wr.heap.size; omega)).trans (Below.heap_setCell _ _ _ _ (by show w.heap.size ≠ wr.heap.size; omega))).trans it2) hb3
              have hb3' : Below w.heap.size w w3 := ((hb2'.setCell (p := ⟨wr.heap.size, 0, none⟩) (by show w.heap.size ≤ wr.heap.size; omega) _).setCell (p := ⟨wr.heap.size, 1, none⟩) (by show w.heap.size ≤ wr.heap.size; omega) _).trans (hb3.mono (by have := hb2'.size; simp [World.setCell]; omega))
              clear c0 c1 c2 c3 f0 f1 hb3 hb2'
              go_wp2_with fail
              go_roundw
              case rel => exact ⟨pos + 1, by go_num, hle, hb3', it3⟩
              case measure => rw [hpw.out, iterPos_at it3]; omega
            · have hd3 : decide ((s.size : Int) - pos < 3) = false := decide_eq_false h3
              have h3' : (pos : Int) + 3 ≤ s.size := by omega
              clear h3
              go_wp2_with fail
              refine (of_broken _ _ _ _ (by omega) (by omega)).mono ?_
              rintro e w2 ⟨rfl, hb2⟩
              have hbx : w2.heap[wr.heap.size]? = some (.cells #[.int .i64 pos, .int .i64 (↑pos + 1 - ↑pos), .int .i32 65533, .bool true] 51 (0, 0)) := by rw [← hsz]; exact some_lt (World.alloc_heap_new W1 _) hb2
              have c0 := cell_at hbx (j := 0) rfl
              have c1 := cell_at hbx (j := 1) rfl
              have c2 := cell_at hbx (j := 2) rfl
              have c3 := cell_at hbx (j := 3) rfl
              have f0 := frozen_at hbx 0
              have f1 := frozen_at hbx 1
              have it2 : w2.heap[w.heap.size]? = some (.stringIter s (pos + 1)) := some_lt ((Below.heap_alloc W1 _ _ hitlt).trans hit1) hb2
              have hlt2 := lt_of_some hbx
              have hb2' : Below w.heap.size w w2 := (hb1.alloc hb1.size _).trans (hb2.mono (by have := hb1.size; simp; omega))
              clear hb2 hbx hb1
              go_wp2_with (first | (go_at_call 32; refine (kind_any _ _ (by omega) (by omega)).mono ?_; rintro e w' ⟨rfl, rfl⟩))
              refine (of_broken _ _ _ _ (by omega) (by omega)).mono ?_
              rintro e w3 ⟨rfl, hb3⟩
              have it3 : w3.heap[w.heap.size]? = some (.stringIter s (pos + 1)) := some_lt (((Below.heap_setCell _ _ _ _ (by show w.heap.size ≠ wr.heap.size; omega)).trans (Below.heap_setCell _ _ _ _ (by show w.heap.size ≠ wr.heap.size; omega))).trans it2) hb3
              have hb3' : Below w.heap.size w w3 := ((hb2'.setCell (p := ⟨wr.heap.size, 0, none⟩) (by show w.heap.size ≤ wr.heap.size; omega) _).setCell (p := ⟨wr.heap.size, 1, none⟩) (by show w.heap.size ≤ wr.heap.size; omega) _).trans (hb3.mono (by have := hb2'.size; simp [World.setCell]; omega))
              clear c0 c1 c2 c3 f0 f1 hb3 hb2'
              go_wp2_with fail
              go_roundw
              case rel => exact ⟨pos + 1, by go_num, hle, hb3', it3⟩
              case measure => rw [hpw.out, iterPos_at it3]; omega
          · obtain ⟨hl3, rfl⟩ := hlo h2
            have e1 : ((s.extract pos (pos + 3)).toList == [239, 191, 189]) = true := by rw [beq_iff_eq, hex]; exact hl3
            have hd3 : decide ((s.size : Int) - pos < 3) = false := decide_eq_false (by omega)
            have h3' : (pos : Int) + 3 ≤ s.size := by omega
            clear hlo hlb hex h2 hl3
            go_wp2_with fail
            refine (of_plain _ _ _ _ (by omega) (by omega)).mono ?_
            rintro e w2 ⟨rfl, hb2⟩
            have hbx : w2.heap[wr.heap.size]? = some (.cells #[.int .i64 pos, .int .i64 (↑pos + 3 - ↑pos), .int .i32 65533, .bool false] 51 (0, 0)) := by rw [← hsz]; exact some_lt (World.alloc_heap_new W1 _) hb2
            have c0 := cell_at hbx (j := 0) rfl
            have c1 := cell_at hbx (j := 1) rfl
            have c2 := cell_at hbx (j := 2) rfl
            have c3 := cell_at hbx (j := 3) rfl
            have f0 := frozen_at hbx 0
            have f1 := frozen_at hbx 1
            have it2 : w2.heap[w.heap.size]? = some (.stringIter s (pos + 3)) := some_lt ((Below.heap_alloc W1 _ _ hitlt).trans hit1) hb2
            have hlt2 := lt_of_some hbx
            have hb2' : Below w.heap.size w w2 := (hb1.alloc hb1.size _).trans (hb2.mono (by have := hb1.size; simp; omega))
            clear hb2 hbx hb1
            go_wp2_with (first | (go_at_call 32; refine (kind_any _ _ (by omega) (by omega)).mono ?_; rintro e w' ⟨rfl, rfl⟩))
            refine (of_plain _ _ _ _ (by omega) (by omega)).mono ?_
            rintro e w3 ⟨rfl, hb3⟩
            have it3 : w3.heap[w.heap.size]? = some (.stringIter s (pos + 3)) := some_lt (((Below.heap_setCell _ _ _ _ (by show w.heap.size ≠ wr.heap.size; omega)).trans (Below.heap_setCell _ _ _ _ (by show w.heap.size ≠ wr.heap.size; omega))).trans it2) hb3
            have hb3' : Below w.heap.size w w3 := ((hb2'.setCell (p := ⟨wr.heap.size, 0, none⟩) (by show w.heap.size ≤ wr.heap.size; omega) _).setCell (p := ⟨wr.heap.size, 1, none⟩) (by show w.heap.size ≤ wr.heap.size; omega) _).trans (hb3.mono (by have := hb2'.size; simp [World.setCell]; omega))
            clear c0 c1 c2 c3 f0 f1 hb3 hb2'
            go_wp2_with fail
            go_roundw
            case rel => exact ⟨pos + 3, by go_num, hle, hb3', it3⟩
            case measure => rw [hpw.out, iterPos_at it3]; omega
        · have hr' : ((r : Int) == 65533) = false := by simp; omega
          have hw2 : (Utf8.encode (r : Int)).size = wd := by rw [encode_size]; exact hok.width (fun h => hr h.1)
          have hk : (kind (r : Int) == 11) = false := by simp [kind_ne11]
          clear hok hr hdb
          go_wp2_with fail
          refine (of_plain _ _ _ _ (by omega) (by omega)).mono ?_
          rintro e w2 ⟨rfl, hb2⟩
          have hbx : w2.heap[wr.heap.size]? = some (.cells #[.int .i64 pos, .int .i64 (↑pos + ↑wd - ↑pos), .int .i32 r, .bool false] 51 (0, 0)) := by rw [← hsz]; exact some_lt (World.alloc_heap_new W1 _) hb2
          have c0 := cell_at hbx (j := 0) rfl
          have c1 := cell_at hbx (j := 1) rfl
          have c2 := cell_at hbx (j := 2) rfl
          have c3 := cell_at hbx (j := 3) rfl
          have f0 := frozen_at hbx 0
          have f1 := frozen_at hbx 1
          have it2 : w2.heap[w.heap.size]? = some (.stringIter s (pos + wd)) := some_lt ((Below.heap_alloc W1 _ _ hitlt).trans hit1) hb2
          have hlt2 := lt_of_some hbx
          have hb2' : Below w.heap.size w w2 := (hb1.alloc hb1.size _).trans (hb2.mono (by have := hb1.size; simp; omega))
          clear hb2 hbx hb1
          go_wp2_with (first | (go_at_call 32; refine (kind_any _ _ (by omega) (by omega)).mono ?_; rintro e w' ⟨rfl, rfl⟩))
          refine (of_plain _ _ _ _ (by omega) (by omega)).mono ?_
          rintro e w3 ⟨rfl, hb3⟩
          have it3 : w3.heap[w.heap.size]? = some (.stringIter s (pos + wd)) := some_lt (((Below.heap_setCell _ _ _ _ (by show w.heap.size ≠ wr.heap.size; omega)).trans (Below.heap_setCell _ _ _ _ (by show w.heap.size ≠ wr.heap.size; omega))).trans it2) hb3
          have hb3' : Below w.heap.size w w3 := ((hb2'.setCell (p := ⟨wr.heap.size, 0, none⟩) (by show w.heap.size ≤ wr.heap.size; omega) _).setCell (p := ⟨wr.heap.size, 1, none⟩) (by show w.heap.size ≤ wr.heap.size; omega) _).trans (hb3.mono (by have := hb2'.size; simp [World.setCell]; omega))
          clear c0 c1 c2 c3 f0 f1 hb3 hb2'
          go_wp2_with fail
          go_roundw
          case rel => exact ⟨pos + wd, by go_num, hle, hb3', it3⟩
          case measure => rw [hpw.out, iterPos_at it3]; omega
      · obtain ⟨hn, hp⟩ := next_none Try.prog wr w.heap.size s pos hit hlt
        have he : ((pos : Int) == (s.size : Int)) = true := by simp; omega
        clear hp
        go_wp2
        go_ret
        exact ⟨rfl, hb⟩

end Go.Proofs.Ytekjfmjeemjcjaa
