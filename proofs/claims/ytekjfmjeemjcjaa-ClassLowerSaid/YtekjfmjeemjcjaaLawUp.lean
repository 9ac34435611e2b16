/-
  The law ClassUpper, walked. Nothing is assumed.
-/
import Derived.Test.YtekjfmjeemjcjaaLawHead
namespace Go.Proofs.Ytekjfmjeemjcjaa
open Go.RowKit Go.Lib Go.Shelf
attribute [local go_sem] Oper.semAt_some
set_option linter.unusedVariables false
set_option linter.unusedSimpArgs false

/-- Is there an I with a dot among the first pieces? -/
def dots (pre : List Pc) : Bool := pre.any (fun p => p.r == 304)
theorem dots_snoc (pre : List Pc) (p : Pc) : dots (pre ++ [p]) = (dots pre || p.r == 304) := by simp [dots]
theorem dots_toks (s : ByteArray) (h : dots (pcs s.data.toList) = false) : ∀ t ∈ toks s.data.toList, t.r ≠ 0x130 := by
  have key : ∀ (ts : List Tok) (i : Nat), dots (place i ts) = false → ∀ t ∈ ts, t.r ≠ 0x130 := by
    intro ts
    induction ts with
    | nil => intro i _ t ht; simp at ht
    | cons t ts ih =>
      intro i h q hq
      simp only [place, dots, List.any_cons, Bool.or_eq_false_iff] at h
      rcases List.mem_cons.1 hq with rfl | hq
      · simpa using h.1
      · exact ih _ h.2 q hq
  exact key _ 0 (by rw [← pcs_place]; exact h)

set_option maxRecDepth 100000 in
set_option maxHeartbeats 4000000 in
theorem classUpper_any (s : ByteArray) (w : World) (hs : s.size ≤ 140737488351232) :
    Calls Try.prog 10 #[.string s] w fun e w' => e = .returned (.bool true) ∧ Below w.heap.size w w' := by
  by_cases hbig : 2147483647 < 2 * s.size
  · have hdb : decide ((2147483647 : Int) < 2 * (s.size : Int)) = true := by simp; omega
    go_enter Try.func10, Try.ntmps10
    go_wp2_with (first | (go_at_call 15; refine (beyond_any _ _).mono ?_; rintro e w' ⟨rfl, rfl⟩) | (go_at_call 12; refine (live_any _).mono ?_; rintro e w' ⟨rfl, rfl⟩))
    go_ret
    exact ⟨rfl, Below.refl _ _⟩
  · have hdb : decide ((2147483647 : Int) < 2 * (s.size : Int)) = false := by simp; omega
    have hus := up_size s
    have hls := low_size s
    go_enter Try.func10, Try.ntmps10
    go_wp2_with (first | (go_at_call 15; refine (beyond_any _ _).mono ?_; rintro e w' ⟨rfl, rfl⟩) | (go_at_call 12; refine (live_any _).mono ?_; rintro e w' ⟨rfl, rfl⟩))
    refine (upText_any _ _ (by omega)).mono ?_
    rintro e w1 ⟨rfl, hb⟩
    go_wp2_with fail
    refine (rup_any _ _ (by omega)).mono ?_
    rintro e w2 ⟨rfl, hc⟩
    replace hb := hb.trans (hc.mono hb.size)
    clear hc
    go_wp2_with fail
    refine (upText_any _ _ (by omega)).mono ?_
    rintro e w3 ⟨rfl, hc⟩
    replace hb := hb.trans (hc.mono hb.size)
    clear hc
    rw [up_up]
    have Hb := Lib.hid hb
    clear hb
    go_wp2
    go_loopw [4] (fun dot wr => ∃ (pos : Nat) (pre : List Pc), Hid (pcs s.data.toList = pre ++ pcsFrom pos (s.data.toList.drop pos)) ∧ pos ≤ s.size ∧ dot = .bool (dots pre) ∧ wr.heap[w3.heap.size]? = some (.stringIter s pos) ∧ Hid (Below w3.heap.size w3 wr)) (fun _ wr => s.size - wr.iterPos w3.heap.size)
    case atStart => exact ⟨0, [], rfl, Nat.zero_le _, rfl, World.iter_heap w3 s 0, (Below.refl _ _).alloc (Nat.le_refl _) _⟩
    case round =>
      obtain ⟨pos, pre, hx, hpos, rfl, hit, hbb⟩ := hrel
      have hpw : Hid (wr.iterPos w3.heap.size = pos) := iterPos_at hit
      by_cases hlt : pos < s.size
      · obtain ⟨r, wd, W1, hn, hf, hit1, hsz, hok, hp, hle, hwd⟩ := next_some Try.prog wr w3.heap.size s pos hit hlt
        have hd := dots_snoc pre ⟨pos, wd, r⟩
        have hx1 : Hid (pcs s.data.toList = (pre ++ [⟨pos, wd, r⟩]) ++ pcsFrom (pos + wd) (s.data.toList.drop (pos + wd))) := by show _ = _; rw [hx.out, hp]; simp
        have hbb1 : Hid (Below w3.heap.size w3 W1) := hbb.out.trans (hf.toBelow hbb.out.size (fun k hk h => by have h' : k = w3.heap.size := h; omega))
        have Hd := Lib.hid hd
        clear hd hp hok hf hsz
        rcases hdp : dots pre with _ | _
        · have Hdp := Lib.hid hdp
          clear hdp
          go_wp2
          go_roundw
          case rel => exact ⟨pos + wd, _, hx1, hle, by rw [Hd.out, Hdp.out, Bool.false_or]; congr 1; show ((r : Int) == 304) = (r == 304); rw [Bool.eq_iff_iff, beq_iff_eq, beq_iff_eq]; omega, hit1, hbb1⟩
          case measure => rw [hpw.out, iterPos_at hit1]; omega
        · have Hdp := Lib.hid hdp
          clear hdp
          go_wp2
          go_roundw
          case rel => exact ⟨pos + wd, _, hx1, hle, by rw [Hd.out, Hdp.out, Bool.true_or], hit1, hbb1⟩
          case measure => rw [hpw.out, iterPos_at hit1]; omega
      · obtain ⟨hn, hp⟩ := next_none Try.prog wr w3.heap.size s pos hit hlt
        have hx0 : Hid (pcs s.data.toList = pre) := by show _ = _; rw [hx.out, hp, List.append_nil]
        have Hx := Lib.hid hx
        clear hp hx
        rcases hdp : dots pre with _ | _
        · have hd0 := dots_toks s (by rw [hx0.out]; exact hdp)
          have hul := up_low s hd0
          have Hul := Lib.hid hul
          clear hul hd0 hdp
          go_wp2_with fail
          refine (lowText_any _ _ (by omega)).mono ?_
          rintro e w4 ⟨rfl, hc⟩
          have Hc := Lib.hid hc
          clear hc
          go_wp2_with fail
          refine (upText_any _ _ (by omega)).mono ?_
          rintro e w5 ⟨rfl, hd⟩
          rw [Hul.out]
          have Hd := Lib.hid hd
          clear hd
          go_wp2
          go_ret
          exact ⟨rfl, Hb.out.trans ((hbb.out.trans ((Hc.out.mono hbb.out.size).trans (Hd.out.mono (Nat.le_trans hbb.out.size Hc.out.size)))).mono Hb.out.size)⟩
        · clear hdp
          go_wp2
          go_ret
          exact ⟨rfl, Hb.out.trans (hbb.out.mono Hb.out.size)⟩

end Go.Proofs.Ytekjfmjeemjcjaa
