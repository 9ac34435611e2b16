/-
  The reference's HeadText. Nothing is assumed.
-/
import Derived.Test.YtekjfmjeemjcjaaRefLow
namespace Go.Proofs.Ytekjfmjeemjcjaa
open Go.RowKit Go.Lib Go.Shelf
attribute [local go_sem] Oper.semAt_some
set_option linter.unusedVariables false
set_option linter.unusedSimpArgs false

/-- The k-th piece in a text whose words begin with great letters. -/
def headOne (s : ByteArray) (l : List Pc) (k : Nat) (p : Pc) : ByteArray :=
  if pk p = 1 ∧ aft (l.take k).reverse = false then Utf8.encode (upper p.r) else lowOne s l k p
def headText (s : ByteArray) : ByteArray := cat (fun k x => headOne s (pcs s.data.toList) k x) (pcs s.data.toList) (pcs s.data.toList).length
theorem headOne_size (s : ByteArray) (l : List Pc) (k : Nat) (x : Pc) (hw : x.w ≤ 4) : (headOne s l k x).size ≤ 4 := by
  unfold headOne
  split
  · rw [encode_size]; exact (encodeRune_len _).2
  · exact lowOne_size s l k x hw

set_option maxRecDepth 100000 in
set_option maxHeartbeats 4000000 in
theorem rhead_any (s : ByteArray) (w : World) (hs : s.size ≤ 2147483647) :
    Calls Try.prog 27 #[.string s] w fun e w' => e = .returned (.string (headText s)) ∧ Below w.heap.size w w' := by
  have hll := pcs_len s
  have hval := pcs_valid s.data.toList
  have hend : ∀ x ∈ pcs s.data.toList, x.i + x.w ≤ s.size := fun x hx => by simpa using (pcs_pos _ x hx).2.1
  have hw4 := pcs_w4 s.data.toList
  unfold headText
  generalize hl : pcs s.data.toList = l at *
  have hlen : l.length ≤ 2147483647 := by omega
  have hcs := cat_size (fun k x => headOne s l k x) l (fun k x hx => headOne_size s l k x (hw4 x (List.mem_of_getElem? hx)))
  have Hcs := Lib.hid hcs; have Hval := Lib.hid hval; have Hend := Lib.hid hend
  clear hcs hval hend hw4
  obtain ⟨ip, hpi, hpz, hps, hpb⟩ := info_parts binfo
  go_enter Try.func27, Try.ntmps27
  go_wp2_with fail
  refine (rpieces_any _ _ (by omega)).mono ?_
  rintro e w1 ⟨v, rfl, hrw, hb⟩
  rw [hl] at hrw
  have hlm : (l.map fun p => (p, p.broken)).length = l.length := by simp
  have hsh := hrw.shape
  rw [hlm] at hsh
  have hvl : Hid (v = .slice none 0 0 ∧ l = [] ∨ ∃ g cap, v = .slice (some ⟨g, 0, none⟩) l.length cap) := by
    rcases hsh with ⟨h1, h2⟩ | ⟨g, cap, h1, _⟩
    · exact .inl ⟨h1, by simpa using h2⟩
    · exact .inr ⟨g, cap, h1⟩
  have Hrw := Lib.hid hrw; have Hb := Lib.hid hb
  clear hsh hrw hb hl hlm hll
  obtain ⟨n, cap, a, rfl, hn⟩ : ∃ (n cap : Nat) (a : Option Addr), v = .slice a n cap ∧ n = l.length := by
    rcases hvl.out with ⟨h1, h2⟩ | ⟨g, cap, h1⟩
    · exact ⟨0, 0, none, h1, by rw [h2]; rfl⟩
    · exact ⟨l.length, cap, some ⟨g, 0, none⟩, h1, rfl⟩
  subst hn
  go_wp2
  go_loopw [5, 4] (fun i o w' => ∃ k : Nat, i = .int .i64 k ∧ k ≤ l.length ∧ Hid (Br w' w1.heap.size 5 o (cat (fun k x => headOne s l k x) l k)) ∧ Hid (Below w1.heap.size w1 w')) (fun i _ _ => l.length - (intOf i).toNat)
  case atStart => exact ⟨0, rfl, Nat.zero_le _, Br.nil _ _ _, Below.refl _ _⟩
  case round =>
    obtain ⟨k, rfl, hk, hr, hbb⟩ := hrel
    by_cases hkm : k < l.length
    · obtain ⟨x, hx⟩ : ∃ x, l[k]? = some x := ⟨_, List.getElem?_eq_getElem hkm⟩
      have Hx := Lib.hid hx
      clear hx
      have hv : x.r ≤ 1114111 := Hval.out x (List.mem_of_getElem? Hx.out)
      have hv1 : (-2147483648 : Int) ≤ (x.r : Int) := by omega
      have hv2 : (x.r : Int) ≤ 2147483647 := by omega
      obtain ⟨g, rfl⟩ : ∃ g, a = some ⟨g, 0, none⟩ := by
        rcases hvl.out with ⟨_, h⟩ | ⟨g, c', h⟩
        · rw [h] at hkm; simp at hkm
        · simp at h; exact ⟨g, h.1⟩
      have hLk : (l.map fun p => (p, p.broken))[k]? = some (x, x.broken) := by rw [List.getElem?_map, Hx.out]; rfl
      have hlen' : (l.map fun p => (p, p.broken)).length = l.length := by simp
      have hr' := Hrw.out.below hbb.out
      have Hrk := Lib.hid hr'
      rw [← hlen'] at hr'
      have c0 : wr.cell? ⟨g, k * 4, none⟩ = some (.int .i64 x.i) := hr'.cell enc4_len hLk (j := 0) (by omega) rfl
      have c1 : wr.cell? ⟨g, k * 4 + 1, none⟩ = some (.int .i64 x.w) := hr'.cell enc4_len hLk (j := 1) (by omega) rfl
      have c2 : wr.cell? ⟨g, k * 4 + 2, none⟩ = some (.int .i32 x.r) := hr'.cell enc4_len hLk (j := 2) (by omega) rfl
      have c3 : wr.cell? ⟨g, k * 4 + 3, none⟩ = some (.bool x.broken) := hr'.cell enc4_len hLk (j := 3) (by omega) rfl
      have HLk := Lib.hid hLk; have Hlen := Lib.hid hlen'
      clear hr' hLk hlen' hv
      go_wp2_with fail
      refine (rof_any _ _ _ _ _ (by omega) (by omega)).mono ?_
      rintro e w2 ⟨rfl, hb2⟩
      have hr2 := hr.out.below hb2
      have hb3 := hbb.out.trans (hb2.mono hbb.out.size)
      have Hr2 := Lib.hid hr2; have Hb3 := Lib.hid hb3
      clear hr2 hb2 hb3 c0 c1 c2 c3 hr hbb Hrk
      have hpk : kindOf x.broken (x.r : Int) = pk x := rfl
      rw [hpk]
      clear hpk
      by_cases hp : pk x = 1
      · have e1 : (pk x == 1) = true := by simp [hp]
        have Hp := Lib.hid hp
        clear hp
        go_wp2_with fail
        refine (led_any l _ k w.heap.size _ hlen (by omega) Hval.out (Hrw.out.below Hb3.out)).mono ?_
        rintro e w3 ⟨rfl, hb4⟩
        have Hr2 := Lib.hid (Hr2.out.below hb4)
        have Hb3 := Lib.hid (Hb3.out.trans (hb4.mono Hb3.out.size))
        clear hb4
        cases hl : aft (l.take k).reverse
        · have Hl := Lib.hid hl
          have hr5 := Hrw.out.below Hb3.out
          rw [← Hlen.out] at hr5
          have d2 : w3.cell? ⟨g, k * 4 + 2, none⟩ = some (.int .i32 x.r) := hr5.cell enc4_len HLk.out (j := 2) (by omega) rfl
          clear hl hr5
          have hs4 := Hcs.out (k + 1)
          rw [cat_succ _ l k x Hx.out, ByteArray.size_append] at hs4
          have Hr2 := Lib.hid Hr2.out; have Hb3 := Lib.hid Hb3.out; have Hs4 := Lib.hid hs4
          have hone : Hid (headOne s l k x = Utf8.encode (upper x.r)) := by show _ = _; unfold headOne; rw [if_pos ⟨Hp.out, Hl.out⟩]
          clear hs4
          go_wp2_with (first | (go_at_call 50; refine (rupper_any _ _ (by omega) (by omega)).mono ?_; rintro e w' ⟨rfl, rfl⟩) | (refine wpList_append_bytes _ rfl _ _ _ _ rfl w1.heap.size 5 _ (by kernel_rfl) (by kernel_rfl) hpi hpz hps hpb _ _ rfl Hr2.out _ rfl (by have := Hs4.out; rw [hone.out] at this; omega) Hb3.out.size ?_))
          rintro v' w3 hr3 hg3
          have HbN := Lib.hid ((Fr.of_below Hb3.out).grown hg3 (fun r hr => Or.inl (Hr2.out.lt r hr).1))
          have Hr3 := Lib.hid hr3
          clear hr3 hg3
          go_wp2
          go_roundw
          case rel => exact ⟨k + 1, rfl, by omega, by show Br _ _ _ _ _; rw [cat_succ _ l k x Hx.out, hone.out]; exact Hr3.out, HbN.out.toBelow (Nat.le_refl _) (fun q hq h => by have h' : w1.heap.size ≤ q := h; omega)⟩
          case measure => show l.length - (k + 1 : Int).toNat < l.length - (k : Int).toNat; omega
        · have Hl := Lib.hid hl
          clear hl
          go_wp2_with fail
          refine (lowered_any s l _ k w.heap.size x _ hs hlen Hx.out Hval.out (Hend.out x (List.mem_of_getElem? Hx.out)) (Hrw.out.below Hb3.out)).mono ?_
          rintro e w9 ⟨rfl, hb9⟩
          have Hr2 := Lib.hid (Hr2.out.below hb9)
          have Hb3 := Lib.hid (Hb3.out.trans (hb9.mono Hb3.out.size))
          clear hb9
          have hs4 := Hcs.out (k + 1)
          rw [cat_succ _ l k x Hx.out, ByteArray.size_append] at hs4
          have Hr2 := Lib.hid Hr2.out; have Hb3 := Lib.hid Hb3.out; have Hs4 := Lib.hid hs4
          have hone : Hid (headOne s l k x = lowOne s l k x) := by show _ = _; unfold headOne; rw [if_neg (by simp [Hl.out])]
          clear hs4
          go_wp2_with ((refine wpList_append_bytes _ rfl _ _ _ _ rfl w1.heap.size 5 _ (by kernel_rfl) (by kernel_rfl) hpi hpz hps hpb _ _ rfl Hr2.out _ rfl (by have := Hs4.out; rw [hone.out] at this; omega) Hb3.out.size ?_))
          rintro v' w3 hr3 hg3
          have HbN := Lib.hid ((Fr.of_below Hb3.out).grown hg3 (fun r hr => Or.inl (Hr2.out.lt r hr).1))
          have Hr3 := Lib.hid hr3
          clear hr3 hg3
          go_wp2
          go_roundw
          case rel => exact ⟨k + 1, rfl, by omega, by show Br _ _ _ _ _; rw [cat_succ _ l k x Hx.out, hone.out]; exact Hr3.out, HbN.out.toBelow (Nat.le_refl _) (fun q hq h => by have h' : w1.heap.size ≤ q := h; omega)⟩
          case measure => show l.length - (k + 1 : Int).toNat < l.length - (k : Int).toNat; omega
      · have e1 : (pk x == 1) = false := by simp [hp]
        have Hp := Lib.hid hp
        clear hp
        go_wp2_with fail
        refine (lowered_any s l _ k w.heap.size x _ hs hlen Hx.out Hval.out (Hend.out x (List.mem_of_getElem? Hx.out)) (Hrw.out.below Hb3.out)).mono ?_
        rintro e w9 ⟨rfl, hb9⟩
        have Hr2 := Lib.hid (Hr2.out.below hb9)
        have Hb3 := Lib.hid (Hb3.out.trans (hb9.mono Hb3.out.size))
        clear hb9
        have hs4 := Hcs.out (k + 1)
        rw [cat_succ _ l k x Hx.out, ByteArray.size_append] at hs4
        have Hr2 := Lib.hid Hr2.out; have Hb3 := Lib.hid Hb3.out; have Hs4 := Lib.hid hs4
        have hone : Hid (headOne s l k x = lowOne s l k x) := by show _ = _; unfold headOne; rw [if_neg (by simp [Hp.out])]
        clear hs4
        go_wp2_with ((refine wpList_append_bytes _ rfl _ _ _ _ rfl w1.heap.size 5 _ (by kernel_rfl) (by kernel_rfl) hpi hpz hps hpb _ _ rfl Hr2.out _ rfl (by have := Hs4.out; rw [hone.out] at this; omega) Hb3.out.size ?_))
        rintro v' w3 hr3 hg3
        have HbN := Lib.hid ((Fr.of_below Hb3.out).grown hg3 (fun r hr => Or.inl (Hr2.out.lt r hr).1))
        have Hr3 := Lib.hid hr3
        clear hr3 hg3
        go_wp2
        go_roundw
        case rel => exact ⟨k + 1, rfl, by omega, by show Br _ _ _ _ _; rw [cat_succ _ l k x Hx.out, hone.out]; exact Hr3.out, HbN.out.toBelow (Nat.le_refl _) (fun q hq h => by have h' : w1.heap.size ≤ q := h; omega)⟩
        case measure => show l.length - (k + 1 : Int).toNat < l.length - (k : Int).toNat; omega
    · have hkk : k = l.length := by omega
      subst hkk
      have hcv := hr.out.conv (P := Try.prog) 67 9 5 (by kernel_rfl) (by kernel_rfl) (by kernel_rfl)
      go_wp2
      go_ret
      exact ⟨rfl, Hb.out.trans (hbb.out.mono Hb.out.size)⟩

end Go.Proofs.Ytekjfmjeemjcjaa
