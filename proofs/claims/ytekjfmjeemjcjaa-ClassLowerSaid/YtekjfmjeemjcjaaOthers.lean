/-
  The law's others: what is no letter, how many pieces, how many sharp ones. Nothing is assumed.
-/
import Derived.Test.YtekjfmjeemjcjaaLawUp
import Derived.StillTailTactics
import Derived.IntWalk
import Derived.Outline
namespace Go.Proofs.Ytekjfmjeemjcjaa
open Go.RowKit Go.Lib Go.Shelf
attribute [local go_sem] Oper.semAt_some
set_option linter.unusedVariables false
set_option linter.unusedSimpArgs false

def othOne (s : ByteArray) (p : Pc) : ByteArray := if pk p ≠ 1 then s.extract p.i (p.i + p.w) ++ ⟨#[32]⟩ else ⟨#[]⟩
def sharpN (l : List Pc) : Nat := (l.filter (fun p => pk p == 1 && p.r == 223)).length
def othText (s : ByteArray) : ByteArray := cat (fun _ x => othOne s x) (pcs s.data.toList) (pcs s.data.toList).length
theorem app_nil (b : ByteArray) : b ++ (⟨#[]⟩ : ByteArray) = b := by apply ba_ext; simp
theorem sharp_snoc (l : List Pc) (p : Pc) : sharpN (l ++ [p]) = sharpN l + (if pk p == 1 && p.r == 223 then 1 else 0) := by
  unfold sharpN; rw [List.filter_append, List.length_append]
  cases h : (pk p == 1 && p.r == 223) <;> simp [List.filter_cons, h]
theorem sharp_le (l : List Pc) : sharpN l ≤ l.length := List.length_filter_le _ _
theorem oth_size (s : ByteArray) (l : List Pc) (h4 : ∀ x ∈ l, x.w ≤ 4) : ∀ k, (cat (fun _ x => othOne s x) l k).size ≤ 5 * k
  | 0 => Nat.le_refl 0
  | k + 1 => by
    unfold cat
    have := oth_size s l h4 k
    rw [ByteArray.size_append]
    rcases h : l[k]? with _ | x
    · show _ + (⟨#[]⟩ : ByteArray).size ≤ _
      have h0 : (⟨#[]⟩ : ByteArray).size = 0 := rfl
      omega
    · have hw := h4 x (List.mem_of_getElem? h)
      have h1 : (othOne s x).size ≤ 5 := by
        unfold othOne; split
        · rw [ByteArray.size_append]; have : (⟨#[32]⟩ : ByteArray).size = 1 := rfl; simp; omega
        · exact Nat.zero_le _
      show _ + (othOne s x).size ≤ _
      omega

set_option maxRecDepth 100000 in
set_option maxHeartbeats 4000000 in
theorem others_any (s : ByteArray) (w : World) (hs : s.size ≤ 2147483647) :
    Calls Try.prog 58 #[.string s] w fun e w' => e = .returned (.tuple #[.string (othText s), .int .i64 (pcs s.data.toList).length, .int .i64 (sharpN (pcs s.data.toList))]) ∧ Below w.heap.size w w' := by
  have hll := pcs_len s
  have hval := pcs_valid s.data.toList
  have hend : ∀ x ∈ pcs s.data.toList, x.i + x.w ≤ s.size := fun x hx => by simpa using (pcs_pos _ x hx).2.1
  have hw4 := pcs_w4 s.data.toList
  unfold othText
  generalize hl : pcs s.data.toList = l at *
  have hlen : l.length ≤ 2147483647 := by omega
  have Hcs := Lib.hid (oth_size s l hw4); have Hval := Lib.hid hval; have Hend := Lib.hid hend; have Hw4 := Lib.hid hw4
  clear hval hend hw4
  obtain ⟨ip, hpi, hpz, hps, hpb⟩ := info_parts binfo
  go_enter Try.func58, Try.ntmps58
  go_wp2_with fail
  refine (rpieces_any _ _ (by omega)).mono ?_
  rintro e w1 ⟨v, rfl, hrw, hb⟩
  rw [hl] at hrw
  have hlm : (l.map fun p => (p, p.broken)).length = l.length := by simp
  have hsh := hrw.shape
  rw [hlm] at hsh
  have hvl : Hid (v = .slice none 0 0 ∧ l = [] ∨ ∃ g cap, v = .slice (some ⟨g, 0, none⟩) l.length cap) := by
    rcases hsh with ⟨h1, h2⟩ | ⟨g, cap, h1, _⟩
    · exact .inl ⟨h1, by simpa using h2⟩
    · exact .inr ⟨g, cap, h1⟩
  have Hrw := Lib.hid hrw; have Hb := Lib.hid hb
  clear hsh hrw hb hl hlm hll
  obtain ⟨n, cap, a, rfl, hn⟩ : ∃ (n cap : Nat) (a : Option Addr), v = .slice a n cap ∧ n = l.length := by
    rcases hvl.out with ⟨h1, h2⟩ | ⟨g, cap, h1⟩
    · exact ⟨0, 0, none, h1, by rw [h2]; rfl⟩
    · exact ⟨l.length, cap, some ⟨g, 0, none⟩, h1, rfl⟩
  subst hn
  go_wp2
  go_loopw [5, 7, 8] (fun o sh i w' => ∃ (k m : Nat) (C : Nat → Prop), i = .int .i64 k ∧ k ≤ l.length ∧ sh = .int .i64 m ∧ m ≤ k ∧ Hid (m = sharpN (l.take k)) ∧ Hid (Byt 5 o (cat (fun _ x => othOne s x) l k) C w') ∧ Hid (Ext (fun _ => False) C w1 w')) (fun _ _ i _ => l.length - (intOf i).toNat)
  case atStart => exact ⟨0, 0, _, rfl, Nat.zero_le _, rfl, Nat.le_refl _, rfl, Byt.nil, Ext.refl _ _⟩
  case round =>
    obtain ⟨k, m, C, rfl, hk, rfl, hmk, hm, hr, hbb⟩ := hrel
    by_cases hkm : k < l.length
    · obtain ⟨x, hx⟩ : ∃ x, l[k]? = some x := ⟨_, List.getElem?_eq_getElem hkm⟩
      have Hx := Lib.hid hx
      clear hx
      have hv : x.r ≤ 1114111 := Hval.out x (List.mem_of_getElem? Hx.out)
      have hv1 : (-2147483648 : Int) ≤ (x.r : Int) := by omega
      have hv2 : (x.r : Int) ≤ 2147483647 := by omega
      obtain ⟨g, rfl⟩ : ∃ g, a = some ⟨g, 0, none⟩ := by
        rcases hvl.out with ⟨_, h⟩ | ⟨g, c', h⟩
        · rw [h] at hkm; simp at hkm
        · simp at h; exact ⟨g, h.1⟩
      have hLk : (l.map fun p => (p, p.broken))[k]? = some (x, x.broken) := by rw [List.getElem?_map, Hx.out]; rfl
      have hlen' : (l.map fun p => (p, p.broken)).length = l.length := by simp
      have hB1 : Below w1.heap.size w1 wr := hbb.out.toBelow (Nat.le_refl _) (fun _ _ h => h)
      have hr' := Hrw.out.below hB1
      rw [← hlen'] at hr'
      have c0 : wr.cell? ⟨g, k * 4, none⟩ = some (.int .i64 x.i) := hr'.cell enc4_len hLk (j := 0) (by omega) rfl
      have c1 : wr.cell? ⟨g, k * 4 + 1, none⟩ = some (.int .i64 x.w) := hr'.cell enc4_len hLk (j := 1) (by omega) rfl
      have c2 : wr.cell? ⟨g, k * 4 + 2, none⟩ = some (.int .i32 x.r) := hr'.cell enc4_len hLk (j := 2) (by omega) rfl
      have c3 : wr.cell? ⟨g, k * 4 + 3, none⟩ = some (.bool x.broken) := hr'.cell enc4_len hLk (j := 3) (by omega) rfl
      have hsn := sharp_snoc (l.take k) x
      rw [← take_snoc l k x Hx.out] at hsn
      have hcat := cat_succ (fun _ x => othOne s x) l k x Hx.out
      have hs4 := Hcs.out k
      have Hsn := Lib.hid hsn; have Hcat := Lib.hid hcat; have HB1 := Lib.hid hB1; have HLk := Lib.hid hLk; have Hlen := Lib.hid hlen'; have Hr' := Lib.hid hr'
      clear hr' hLk hlen' hv hsn hcat hB1
      go_wp2_with fail
      refine (rof_any _ _ _ _ _ (by omega) (by omega)).mono ?_
      rintro e w2 ⟨rfl, hb2⟩
      have hpk : kindOf x.broken (x.r : Int) = pk x := rfl
      rw [hpk]
      clear hpk
      have hx2 : Ext (fun _ => False) C w1 w2 := hbb.out.trans (Ext.below hb2)
      have hby2 : Byt 5 _ _ C w2 := hr.out.below hb2
      have hgl : g < wr.heap.size := by rcases Hr'.out.shape with h | ⟨g', cap', h, _, h', _⟩
                                        · simp at h
                                        · simp at h; omega
      have d0 : w2.cell? ⟨g, k * 4, none⟩ = some (.int .i64 x.i) := (hb2.cell (p := ⟨g, k * 4, none⟩) hgl).trans c0
      have d1 : w2.cell? ⟨g, k * 4 + 1, none⟩ = some (.int .i64 x.w) := (hb2.cell (p := ⟨g, k * 4 + 1, none⟩) hgl).trans c1
      have d2 : w2.cell? ⟨g, k * 4 + 2, none⟩ = some (.int .i32 x.r) := (hb2.cell (p := ⟨g, k * 4 + 2, none⟩) hgl).trans c2
      have Hx2 := Lib.hid hx2; have Hby2 := Lib.hid hby2
      clear hx2 hby2 hb2 c0 c1 c2 c3 hr hbb
      by_cases hp : pk x = 1
      · have e1 : (pk x != 1) = false := by simp [hp]
        have hone : Hid (othOne s x = ⟨#[]⟩) := by show _ = _; unfold othOne; rw [if_neg (by simp [hp])]
        by_cases h223 : x.r = 223
        · have e2 : ((x.r : Int) == 223) = true := by simp; omega
          have hm1 : Hid (sharpN (l.take (k + 1)) = m + 1) := by show _ = _; rw [Hsn.out, hm.out]; simp [hp, h223]
          clear hp h223
          go_wp2
          go_roundw
          case rel => exact ⟨k + 1, m + 1, C, by go_num, by omega, by go_num, by omega, hm1.out.symm, by show Byt _ _ _ _ _; rw [Hcat.out, hone.out, app_nil]; exact Hby2.out, Hx2.out⟩
          case measure => simp [intOf]; omega
        · have e2 : ((x.r : Int) == 223) = false := by simp; omega
          have hm1 : Hid (sharpN (l.take (k + 1)) = m) := by show _ = _; rw [Hsn.out, hm.out]; simp [hp, h223]
          clear hp h223
          go_wp2
          go_roundw
          case rel => exact ⟨k + 1, m, C, by go_num, by omega, rfl, by omega, hm1.out.symm, by show Byt _ _ _ _ _; rw [Hcat.out, hone.out, app_nil]; exact Hby2.out, Hx2.out⟩
          case measure => simp [intOf]; omega
      · have e1 : (pk x != 1) = true := by simp [bne, hp]
        have hone : Hid (othOne s x = s.extract x.i (x.i + x.w) ++ ⟨#[32]⟩) := by show _ = _; unfold othOne; rw [if_pos hp]
        have hm1 : Hid (sharpN (l.take (k + 1)) = m) := by show _ = _; rw [Hsn.out, hm.out]; simp [hp]
        have hxe := Hend.out x (List.mem_of_getElem? Hx.out)
        have hs5 := Hcs.out k
        have hso : (othOne s x).size ≤ 5 := by
          rw [hone.out, ByteArray.size_append]; have : (⟨#[32]⟩ : ByteArray).size = 1 := rfl
          have := Hw4.out x (List.mem_of_getElem? Hx.out); simp; omega
        have hso1 : (s.extract x.i (x.i + x.w)).size ≤ 4 := by have := Hw4.out x (List.mem_of_getElem? Hx.out); simp; omega
        have hn1 : (cat (fun _ x => othOne s x) l k).size + (s.extract x.i (x.i + x.w)).size ≤ 140737488355328 := by omega
        have hn2 : (cat (fun _ x => othOne s x) l k ++ s.extract x.i (x.i + x.w)).size + (⟨#[32]⟩ : ByteArray).size ≤ 140737488355328 := by
          rw [ByteArray.size_append]; have : (⟨#[32]⟩ : ByteArray).size = 1 := rfl; omega
        have g1 : (0 : Int) ≤ (x.i : Int) + x.w := by omega
        have g2 : (x.i : Int) + x.w ≤ s.size := by omega
        have g3 : (x.i : Int) ≤ (x.i : Int) + x.w := by omega
        have g4 : ((x.i : Int) + x.w).toNat = x.i + x.w := by omega
        have e3 : IntKind.i64.wrap ((x.i : Int) + (x.w : Int)) = (x.i : Int) + x.w := IntWalk.i64_in _ (by omega)
        have Hhs5 := Lib.hid hs5; have Hso := Lib.hid hso; have Hso1 := Lib.hid hso1; have Hn1 := Lib.hid hn1; have Hn2 := Lib.hid hn2
        clear hs5 hso hso1 hn1 hn2
        clear hp
        go_wp2
        go_still_tail 19, (by kernel_rfl)
        have hbyd : Byt 5 _ _ C w2.drew := Hby2.out
        refine wpList_append_byt _ rfl _ _ _ _ rfl 5 _ (by kernel_rfl) (by kernel_rfl) hpi hpz hps hpb _ _ C rfl hbyd _ rfl Hn1.out ?_
        intro v' w3 C3 hr3 hx3
        have Hr3 := Lib.hid hr3; have Hx3 := Lib.hid hx3
        clear hr3 hx3 hbyd
        go_wp2_with (refine wpList_append_byts _ rfl _ _ _ rfl 5 _ (by kernel_rfl) hpi hpz hps hpb _ _ C3 rfl (Hr3.out.alloc _) ⟨#[32]⟩ w3.heap.size 1 1 rfl rfl 5 (0, 0) (World.alloc_heap_new w3 _) Hn2.out ?_)
        intro v4 w4 C4 hr4 hx4
        have hx5 : Ext (fun _ => False) C4 w1 w4 := ((Hx2.out.drew.trans Hx3.out).alloc _).trans hx4
        have Hr4 := Lib.hid hr4; have Hx5 := Lib.hid hx5
        clear hr4 hx4 hx5
        go_wp2
        go_roundw
        case rel => exact ⟨k + 1, m, C4, by go_num, by omega, rfl, by omega, hm1.out.symm, by show Byt _ _ _ _ _; rw [Hcat.out, hone.out, ← ByteArray.append_assoc]; exact Hr4.out, Hx5.out⟩
        case measure => simp [intOf]; omega
    · have hkk : k = l.length := by omega
      subst hkk
      have hcv := hr.out.conv (P := Try.prog) 67 9 (by kernel_rfl) (by kernel_rfl) (by kernel_rfl)
      have hmm : Hid (m = sharpN l) := by show _ = _; rw [hm.out, List.take_length]
      go_wp2
      go_ret3
      refine ⟨?_, Hb.out.trans ((hbb.out.toBelow (Nat.le_refl _) (fun _ _ h => h)).mono Hb.out.size)⟩
      rw [hmm.out]
      rfl

end Go.Proofs.Ytekjfmjeemjcjaa
