/-
  Walks: vowels, as package class says them. Nothing is assumed.
-/
import Derived.Test.YtekjfmjeemjcjaaClsW2
namespace Go.Proofs.Ytekjfmjeemjcjaa
open Go.RowKit Go.Lib Go.Shelf
set_option linter.unusedVariables false
set_option linter.unusedSimpArgs false

def vowelRunes : List Int := [0x101, 0x103, 0x105, 0x113, 0x115, 0x117, 0x119, 0x11b, 0x129, 0x12b, 0x12d, 0x12f, 0x131, 0x14d, 0x14f, 0x151, 0x153, 0x169, 0x16b, 0x16d, 0x16f, 0x171, 0x173, 0x177,
  0x390, 0x3ac, 0x3ad, 0x3ae, 0x3af, 0x3b0, 0x3b1, 0x3b5, 0x3b7, 0x3b9, 0x3bf, 0x3c5, 0x3c9, 0x3ca, 0x3cb, 0x3cc, 0x3cd, 0x3ce,
  0x430, 0x435, 0x438, 0x43e, 0x443, 0x44b, 0x44d, 0x44e, 0x44f, 0x450, 0x451, 0x454, 0x456, 0x457, 0x45d]
/-- Of a small letter. -/
def vowelL (r : Int) : Bool :=
  if r < 0x80 then decide (r = 97 ∨ r = 101 ∨ r = 105 ∨ r = 111 ∨ r = 117 ∨ r = 121)
  else if r < 0x100 then small r && decide (r ≠ 0xDF ∧ r ≠ 0xE7 ∧ r ≠ 0xF0 ∧ r ≠ 0xF1 ∧ r ≠ 0xFE)
  else vowelRunes.contains r
def vowel (r : Int) : Bool := vowelL (lower r)

def vowelS : ByteArray := ⟨#[196, 129, 196, 131, 196, 133, 196, 147, 196, 149, 196, 151, 196, 153, 196, 155, 196, 169, 196, 171, 196, 173, 196, 175, 196, 177, 197, 141, 197, 143, 197, 145, 197, 147, 197, 169, 197, 171, 197, 173, 197, 175, 197, 177, 197, 179, 197, 183, 206, 144, 206, 172, 206, 173, 206, 174, 206, 175, 206, 176, 206, 177, 206, 181, 206, 183, 206, 185, 206, 191, 207, 133, 207, 137, 207, 138, 207, 139, 207, 140, 207, 141, 207, 142, 208, 176, 208, 181, 208, 184, 208, 190, 209, 131, 209, 139, 209, 141, 209, 142, 209, 143, 209, 144, 209, 145, 209, 148, 209, 150, 209, 151, 209, 157]⟩
theorem vowelS_runes : (pcs vowelS.data.toList).map (fun p => (p.r : Int)) = vowelRunes := by decide +kernel
theorem vowelS_size : vowelS.size = 114 := by decide

theorem vow_low : ∀ n : Nat, n < 128 → 0 < n → ((0 ≤ indexByte [97, 101, 105, 111, 117, 121] (UInt8.ofNat n)) ↔ (n = 97 ∨ n = 101 ∨ n = 105 ∨ n = 111 ∨ n = 117 ∨ n = 121)) := by decide +kernel

theorem vow_lowA (x : Int) (hl : x < 128) (h : 0 ≤ indexByte [97, 101, 105, 111, 117, 121] (UInt8.ofNat (x % 256).toNat)) : decide (0 < x) = vowelL x := by
  unfold vowelL
  rw [if_pos (by omega)]
  by_cases h0 : 0 < x
  · have := (vow_low x.toNat (by omega) (by omega)).1 (by rw [show x.toNat = (x % 256).toNat from by omega]; exact h)
    rw [decide_eq_true h0, eq_comm, decide_eq_true_eq]; omega
  · rw [decide_eq_false h0, eq_comm, decide_eq_false_iff_not]; omega
theorem vow_lowB (x : Int) (hl : x < 128) (h : indexByte [97, 101, 105, 111, 117, 121] (UInt8.ofNat (x % 256).toNat) < 0) : false = vowelL x := by
  unfold vowelL
  rw [if_pos (by omega), eq_comm, decide_eq_false_iff_not]
  intro hc
  have := (vow_low x.toNat (by omega) (by omega)).2 (by omega)
  rw [show x.toNat = (x % 256).toNat from by omega] at this
  omega

/-- A range over vowelS that looks for a rune: at a round's head. -/
def VowRel (w : World) (x : Int) (wr : World) : Prop :=
  ∃ pre pos, pcs vowelS.data.toList = pre ++ pcsFrom pos (vowelS.data.toList.drop pos) ∧ pos ≤ vowelS.size ∧ (∀ p ∈ pre, (Pc.r p : Int) ≠ x) ∧ Below w.heap.size w wr ∧ wr.heap[w.heap.size]? = some (.stringIter vowelS pos)
theorem VowRel.start (w : World) (x : Int) : VowRel w x (w.iter vowelS 0) :=
  ⟨[], 0, rfl, Nat.zero_le _, by simp, (Below.refl _ _).alloc (Nat.le_refl _) _, World.iter_heap w vowelS 0⟩
theorem VowRel.round {P : Program} {w wr : World} {x : Int} (h : VowRel w x wr) :
    (∃ (pos r : Nat) (W1 : World), (∀ ty, (Instr.next (.pointer (some ⟨w.heap.size, 0, none⟩)) true ty).run P wr = .ok (.tuple #[.bool true, .int .i64 pos, .int .i32 r]) W1) ∧ Below w.heap.size w W1 ∧
      (((r : Int) = x ∧ vowelRunes.contains x = true) ∨ ((r : Int) ≠ x ∧ VowRel w x W1 ∧ vowelS.size - W1.iterPos w.heap.size < vowelS.size - wr.iterPos w.heap.size))) ∨
    ((∀ ty, (Instr.next (.pointer (some ⟨w.heap.size, 0, none⟩)) true ty).run P wr = .ok (.tuple #[.bool false]) wr) ∧ Below w.heap.size w wr ∧ vowelRunes.contains x = false) := by
  obtain ⟨pre, pos, hx, hpos, hpre, hb, hit⟩ := h
  by_cases hlt : pos < vowelS.size
  · obtain ⟨r, wd, W1, hn, hf, hit1, hsz, hok, hp, hle, h1⟩ := next_some P wr w.heap.size vowelS pos hit hlt
    have hb1 : Below w.heap.size w W1 := hb.trans (hf.toBelow hb.size (by intro k hk; omega))
    refine .inl ⟨pos, r, W1, hn, hb1, ?_⟩
    rw [hp] at hx
    by_cases he : (r : Int) = x
    · refine .inl ⟨he, ?_⟩
      rw [← vowelS_runes, hx, List.contains_iff_mem, List.mem_map]
      exact ⟨⟨pos, wd, r⟩, by simp, he⟩
    · refine .inr ⟨he, ⟨pre ++ [⟨pos, wd, r⟩], pos + wd, by rw [hx]; simp, hle, ?_, hb1, hit1⟩, ?_⟩
      · intro p hp
        rcases List.mem_append.1 hp with h | h
        · exact hpre p h
        · simp at h; subst h; exact he
      · rw [iterPos_at hit, iterPos_at hit1]; omega
  · obtain ⟨hn, hp⟩ := next_none P wr w.heap.size vowelS pos hit hlt
    refine .inr ⟨hn, hb, ?_⟩
    rw [hp, List.append_nil] at hx
    rw [← vowelS_runes, hx, ← Bool.not_eq_true, List.contains_iff_mem, List.mem_map]
    rintro ⟨p, hm, he⟩
    exact hpre p hm he

set_option maxHeartbeats 1000000 in
theorem vowel_any (r : Int) (w : World) (h0 : -2147483648 ≤ r) (h1 : r ≤ 2147483647) :
    Calls Try.prog 44 #[.int .i32 r] w fun e w' => e = .returned (.bool (vowel r)) ∧ Below w.heap.size w w' := by
  have hb := lower_bd r h0 h1
  have hb1 := hb.1; have hb2 := hb.2; clear hb
  unfold vowel
  by_cases hs : 0x100 ≤ lower r
  · have hv : vowelL (lower r) = vowelRunes.contains (lower r) := by
      unfold vowelL; rw [if_neg (by omega), if_neg (by omega)]
    have Hv := Lib.hid hv; clear hv
    go_enter Try.func44, Try.ntmps44
    go_wp2_with (go_at_call 33; refine (lower_any _ _ (by omega) (by omega)).mono ?_; rintro e w' ⟨rfl, rfl⟩)
    go_loopw [] (fun wr => VowRel w (lower r) wr) (fun wr => vowelS.size - wr.iterPos w.heap.size)
    case atStart => exact VowRel.start w _
    case round =>
      rcases VowRel.round (P := Try.prog) hrel with ⟨pos, x, W1, hn, hb, ⟨he, hc⟩ | ⟨he, hr, hm⟩⟩ | ⟨hn, hb, hc⟩
      · clear hrel
        have he' : ((x : Int) == lower r) = true := by simp [he]
        have Hc := Lib.hid hc; clear hc he
        go_wp2
        go_ret
        exact ⟨ret_bool (by rw [Hv.out, Hc.out]), hb⟩
      · clear hrel
        have he' : ((x : Int) == lower r) = false := by simp [he]
        have Hr := Lib.hid hr; have Hm := Lib.hid hm; clear he hr hm
        go_wp2
        go_roundw
        case rel => exact Hr.out
        case measure => exact Hm.out
      · clear hrel
        have Hc := Lib.hid hc; clear hc
        go_wp2
        go_ret
        exact ⟨ret_bool (by rw [Hv.out, Hc.out]), hb⟩
  · by_cases hl : lower r < 128
    · go_enter Try.func44, Try.ntmps44
      go_wp2_with (first | (go_at_call 33; refine (lower_any _ _ (by omega) (by omega)).mono ?_; rintro e w' ⟨rfl, rfl⟩) | (go_at_call 66; refine (indexByte_any _ _ _).mono ?_; rintro e w' ⟨rfl, rfl⟩))
      all_goals
        go_ret
        refine ⟨ret_bool ?_, Below.refl _ _⟩
        go_light
        first | exact vow_lowA _ hl ‹_› | exact vow_lowB _ hl ‹_›
    · have hl2 : 128 ≤ lower r := by omega
      go_enter Try.func44, Try.ntmps44
      go_wp2_with (first | (go_at_call 33; refine (lower_any _ _ (by omega) (by omega)).mono ?_; rintro e w' ⟨rfl, rfl⟩) | (go_at_call 42; refine (small_any _ _ (by omega) (by omega)).mono ?_; rintro e w' ⟨rfl, rfl⟩))
      all_goals
        go_ret
        refine ⟨ret_bool ?_, Below.refl _ _⟩
        go_light
        grind [vowelL]

end Go.Proofs.Ytekjfmjeemjcjaa
