/-
  How a text's letters are written: the reference, and the law ClassCase. Nothing is assumed.
-/
import Derived.Test.YtekjfmjeemjcjaaCaseW
import Derived.Test.YtekjfmjeemjcjaaLawPcs
namespace Go.Proofs.Ytekjfmjeemjcjaa
open Go.RowKit Go.Lib Go.Shelf
attribute [local go_sem] Oper.semAt_some
set_option linter.unusedVariables false
set_option linter.unusedSimpArgs false

theorem take_snoc {α : Type} (L : List α) (k : Nat) (x : α) (h : L[k]? = some x) : L.take (k + 1) = L.take k ++ [x] := by
  obtain ⟨hk, rfl⟩ := List.getElem?_eq_some_iff.1 h
  simp
theorem pcs_len (s : ByteArray) : (pcs s.data.toList).length ≤ s.size := by
  rcases List.eq_nil_or_concat (pcs s.data.toList) with h0 | ⟨D, p, h0⟩
  · rw [h0]; simp
  · rw [List.concat_eq_append] at h0
    have h1 := pcs_count _ _ D p [] (Nat.le_refl _) h0
    have h2 := pcs_pos s.data.toList p (by rw [h0]; simp)
    have h3 : p.i + p.w ≤ s.size := by simpa using h2.2.1
    rw [h0, List.length_append]; simp; omega

/-- Of the first k pieces: the letters. -/
def letK (l : List Pc) (k : Nat) : List Pc := (l.take k).filter isLet
theorem letK_snoc (l : List Pc) (k : Nat) (x : Pc) (h : l[k]? = some x) : letK l (k + 1) = if isLet x then letK l k ++ [x] else letK l k := by
  unfold letK; rw [take_snoc l k x h, List.filter_append]; cases hl : isLet x <;> simp [hl]
theorem letK_len (l : List Pc) (k : Nat) : (letK l k).length ≤ l.length := by
  unfold letK
  exact Nat.le_trans (List.length_filter_le _ _) (by simp; omega)

set_option maxRecDepth 100000 in
set_option maxHeartbeats 4000000 in
theorem rcase_any (s : ByteArray) (w : World) (hs : s.size ≤ 2147483647) :
    Calls Try.prog 19 #[.string s] w fun e w' => e = .returned (.int .i64 (caseOf (lets s.data.toList))) ∧ Below w.heap.size w w' := by
  have hll := pcs_len s
  have hlets : lets s.data.toList = letK (pcs s.data.toList) (pcs s.data.toList).length := by unfold letK lets; rw [List.take_length]
  have hval := pcs_valid s.data.toList
  rw [hlets]
  clear hlets
  generalize hl : pcs s.data.toList = l at *
  have Hval := Lib.hid hval
  clear hval
  go_enter Try.func19, Try.ntmps19
  go_wp2_with fail
  refine (rpieces_any _ _ (by omega)).mono ?_
  rintro e w1 ⟨v, rfl, hrw, hb⟩
  rw [hl] at hrw
  clear hl
  have hlen : (l.map fun p => (p, p.broken)).length = l.length := by simp
  have hll' : l.length ≤ 2147483647 := by omega
  rcases hrw.shape with ⟨rfl, hL⟩ | ⟨g, cap, rfl, hbg, hglt, _⟩
  · have hl0 : l = [] := by simpa using hL
    subst hl0
    have Hb := Lib.hid hb
    clear hrw hL hlen hb
    go_wp2
    go_loopw [7, 4, 5, 6] (fun i a b c w' => i = .int .i64 0 ∧ a = .int .i64 0 ∧ b = .int .i64 0 ∧ w' = w1) (fun _ _ _ _ _ => 0)
    case atStart => exact ⟨rfl, rfl, rfl, rfl⟩
    case round =>
      obtain ⟨rfl, rfl, rfl, rfl⟩ := hrel
      go_wp2
      go_ret
      exact ⟨rfl, Hb.out⟩
  · rw [hlen] at hrw
    rw [hlen]
    have Hb := Lib.hid hb
    have hrw0 := hrw
    clear hrw hb hll hbg hglt
    go_wp2
    go_loopw [7, 4, 5, 6] (fun i a b c w' => ∃ (k gr sm : Nat) (f : Bool), i = .int .i64 k ∧ a = .int .i64 gr ∧ b = .int .i64 sm ∧ c = .bool f ∧ k ≤ l.length ∧ Hid (gr = grs (letK l k)) ∧ Hid (gr + sm = (letK l k).length) ∧ Hid (f = frs (letK l k)) ∧ gr + sm ≤ k ∧
      Rw enc4 w' w.heap.size 47 4 (.slice (some ⟨g, 0, none⟩) l.length cap) (l.map fun p => (p, p.broken)) ∧ Below w.heap.size w w') (fun i _ _ _ _ => l.length - (intOf i).toNat)
    case atStart => exact ⟨0, 0, 0, false, rfl, rfl, rfl, rfl, Nat.zero_le _, rfl, rfl, rfl, by omega, hrw0, Hb.out⟩
    case round =>
      obtain ⟨k, gr, sm, f, rfl, rfl, rfl, rfl, hk, hgr, hsm, hf, hgs, hrw, hb1⟩ := hrel
      clear hrw0 Hb
      have hk' : k ≤ 2147483647 := by omega
      by_cases hkm : k < l.length
      · obtain ⟨x, hx⟩ : ∃ x, l[k]? = some x := ⟨_, List.getElem?_eq_getElem hkm⟩
        have hLk : (l.map fun p => (p, p.broken))[k]? = some (x, x.broken) := by rw [List.getElem?_map, hx]; rfl
        have hv : x.r ≤ 1114111 := Hval.out x (List.mem_of_getElem? hx)
        have hv1 : (-2147483648 : Int) ≤ (x.r : Int) := by omega
        have hv2 : (x.r : Int) ≤ 2147483647 := by omega
        have hsnoc := letK_snoc l k x hx
        have hrw' := hrw
        rw [← hlen] at hrw
        have c0 : wr.cell? ⟨g, k * 4, none⟩ = some (.int .i64 x.i) := hrw.cell enc4_len hLk (j := 0) (by omega) rfl
        have c1 : wr.cell? ⟨g, k * 4 + 1, none⟩ = some (.int .i64 x.w) := hrw.cell enc4_len hLk (j := 1) (by omega) rfl
        have c2 : wr.cell? ⟨g, k * 4 + 2, none⟩ = some (.int .i32 x.r) := hrw.cell enc4_len hLk (j := 2) (by omega) rfl
        have c3 : wr.cell? ⟨g, k * 4 + 3, none⟩ = some (.bool x.broken) := hrw.cell enc4_len hLk (j := 3) (by omega) rfl
        have Hx := Lib.hid hx; have Hrw := Lib.hid hrw'; have Hb1 := Lib.hid hb1; have Hsnoc := Lib.hid hsnoc; have HLk := Lib.hid hLk; have Hlen := Lib.hid hlen
        clear hx hrw hrw' hb1 hLk hsnoc hlen hv
        go_wp2_with fail
        refine (rof_any _ _ _ _ _ (by omega) (by omega)).mono ?_
        rintro e w2 ⟨rfl, hb2⟩
        have hrw2 := Hrw.out.below hb2
        have d2 : w2.cell? ⟨g, k * 4 + 2, none⟩ = some (.int .i32 x.r) := by
          have h1 := hrw2; rw [← Hlen.out] at h1; exact h1.cell enc4_len HLk.out (j := 2) (by omega) rfl
        have hb3 := Hb1.out.trans (hb2.mono Hb1.out.size)
        have Hrw2 := Lib.hid hrw2; have Hb3 := Lib.hid hb3
        clear hrw2 hb2 hb3 Hrw Hb1 c0 c1 c2 c3
        cases hlet : isLet x
        · have e1 : (kindOf x.broken x.r != 1) = true := by unfold isLet at hlet; simp [bne, hlet]
          have hs2 := Hsnoc.out
          rw [hlet] at hs2
          simp only [Bool.false_eq_true, if_false] at hs2
          have Hs2 := Lib.hid hs2
          clear hlet hs2
          go_wp2
          go_roundw
          case rel => exact ⟨k + 1, gr, sm, f, rfl, rfl, rfl, rfl, by omega, by show gr = grs _; rw [Hs2.out]; exact hgr.out, by show gr + sm = _; rw [Hs2.out]; exact hsm.out, by show f = frs _; rw [Hs2.out]; exact hf.out, by omega, Hrw2.out, Hb3.out⟩
          case measure => show l.length - (k + 1 : Int).toNat < l.length - ((k : Int)).toNat; omega
        · have e1 : (kindOf x.broken x.r != 1) = false := by unfold isLet at hlet; simp [bne, hlet]
          have hs2 := Hsnoc.out
          rw [hlet] at hs2
          simp only [if_true] at hs2
          have Hs2 := Lib.hid hs2
          have hcl : ∀ w, Calls Try.prog 40 #[.int .i32 x.r] w fun e w' => e = .returned (.bool (great x.r)) ∧ w = w' := fun w => rgreat_any _ _ (by omega) (by omega)
          clear hlet hs2
          generalize hgb : great (x.r : Int) = gb at hcl
          have hG : Hid (great (x.r : Int) = gb) := hgb
          clear hgb
          rcases Nat.eq_zero_or_pos (gr + sm) with hn0 | hn0 <;> cases gb
          · obtain ⟨rfl, rfl⟩ : gr = 0 ∧ sm = 0 := by omega
            go_wp2_with (first | (go_at_call 40; refine (hcl _).mono ?_; rintro e w' ⟨rfl, rfl⟩))
            go_roundw
            case rel => exact ⟨k + 1, 0, 0 + 1, false, rfl, rfl, rfl, rfl, by omega, by show _ = grs _; rw [Hs2.out, grs_snoc, hG.out, ← hgr.out]; rfl, by show _ = List.length _; rw [Hs2.out, List.length_append, ← hsm.out]; simp <;> omega, by show _ = frs _; rw [Hs2.out, frs_snoc, hG.out, ← hsm.out, ← hf.out]; simp <;> omega, by omega, Hrw2.out, Hb3.out⟩
            case measure => show l.length - (k + 1 : Int).toNat < l.length - ((k : Int)).toNat; omega
          · obtain ⟨rfl, rfl⟩ : gr = 0 ∧ sm = 0 := by omega
            go_wp2_with (first | (go_at_call 40; refine (hcl _).mono ?_; rintro e w' ⟨rfl, rfl⟩))
            go_roundw
            case rel => exact ⟨k + 1, 0 + 1, 0, true, rfl, rfl, rfl, rfl, by omega, by show _ = grs _; rw [Hs2.out, grs_snoc, hG.out, ← hgr.out]; rfl, by show _ = List.length _; rw [Hs2.out, List.length_append, ← hsm.out]; simp <;> omega, by show _ = frs _; rw [Hs2.out, frs_snoc, hG.out, ← hsm.out, ← hf.out]; simp <;> omega, by omega, Hrw2.out, Hb3.out⟩
            case measure => show l.length - (k + 1 : Int).toNat < l.length - ((k : Int)).toNat; omega
          · have e2 : ((gr : Int) + (sm : Int) == 0) = false := by simp; omega
            go_wp2_with (first | (go_at_call 40; refine (hcl _).mono ?_; rintro e w' ⟨rfl, rfl⟩))
            go_roundw
            case rel => exact ⟨k + 1, gr, sm + 1, f, rfl, rfl, rfl, rfl, by omega, by show _ = grs _; rw [Hs2.out, grs_snoc, hG.out, ← hgr.out]; rfl, by show _ = List.length _; rw [Hs2.out, List.length_append, ← hsm.out]; simp <;> omega, by show _ = frs _; rw [Hs2.out, frs_snoc, hG.out, ← hsm.out, ← hf.out]; simp <;> omega, by omega, Hrw2.out, Hb3.out⟩
            case measure => show l.length - (k + 1 : Int).toNat < l.length - ((k : Int)).toNat; omega
          · have e2 : ((gr : Int) + (sm : Int) == 0) = false := by simp; omega
            go_wp2_with (first | (go_at_call 40; refine (hcl _).mono ?_; rintro e w' ⟨rfl, rfl⟩))
            go_roundw
            case rel => exact ⟨k + 1, gr + 1, sm, f, rfl, rfl, rfl, rfl, by omega, by show _ = grs _; rw [Hs2.out, grs_snoc, hG.out, ← hgr.out]; rfl, by show _ = List.length _; rw [Hs2.out, List.length_append, ← hsm.out]; simp <;> omega, by show _ = frs _; rw [Hs2.out, frs_snoc, hG.out, ← hsm.out, ← hf.out]; simp <;> omega, by omega, Hrw2.out, Hb3.out⟩
            case measure => show l.length - (k + 1 : Int).toNat < l.length - ((k : Int)).toNat; omega
      · have hkk : k = l.length := by omega
        subst hkk
        have Hrw := Lib.hid hrw; have Hb1 := Lib.hid hb1
        have Hcase : Hid (caseOf (letK l l.length) = if gr + sm = 0 then 0 else if gr = 0 then 1 else if gr = gr + sm then 2 else if gr = 1 ∧ f = true then 3 else 4) := by
          show _ = _
          unfold caseOf; rw [← hgr.out, ← hsm.out, ← hf.out]
        clear hrw hb1 hgr hsm hf
        go_wp2
        all_goals go_ret
        all_goals (refine ⟨ret_int ?_, Hb1.out⟩; rw [Hcase.out]; grind)

theorem classCase_any (s : ByteArray) (w : World) (hs : s.size ≤ 9223372036854775807) :
    Calls Try.prog 5 #[.string s] w fun e w' => e = .returned (.bool true) ∧ Below w.heap.size w w' := by
  by_cases hbig : 2147483647 < s.size
  · have hdb : decide ((2147483647 : Int) < (s.size : Int)) = true := by simp; omega
    go_enter Try.func5, Try.ntmps5
    go_wp2_with (first | (go_at_call 15; refine (beyond_any _ _).mono ?_; rintro e w' ⟨rfl, rfl⟩) | (go_at_call 12; refine (live_any _).mono ?_; rintro e w' ⟨rfl, rfl⟩))
    go_ret
    exact ⟨rfl, Below.refl _ _⟩
  · have hdb : decide ((2147483647 : Int) < (s.size : Int)) = false := by simp; omega
    go_enter Try.func5, Try.ntmps5
    go_wp2_with (first | (go_at_call 15; refine (beyond_any _ _).mono ?_; rintro e w' ⟨rfl, rfl⟩) | (go_at_call 12; refine (live_any _).mono ?_; rintro e w' ⟨rfl, rfl⟩))
    refine (ccase_any _ _ (by omega)).mono ?_
    rintro e w1 ⟨rfl, hb⟩
    go_wp2_with fail
    refine (rcase_any _ _ (by omega)).mono ?_
    rintro e w2 ⟨rfl, hc⟩
    replace hb := hb.trans (hc.mono hb.size)
    clear hc
    go_wp2_with fail
    go_ret
    exact ⟨rfl, hb⟩

end Go.Proofs.Ytekjfmjeemjcjaa
