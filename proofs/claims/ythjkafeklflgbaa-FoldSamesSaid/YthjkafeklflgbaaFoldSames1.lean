/-
  Texts laid together: Qw, LfFoldSames, PlFoldSames. Nothing is assumed.
-/
import Derived.Test.YthjkafeklflgbaaFb5
namespace Go.Proofs.Ythjkafeklflgbaa
open Go.RowKit Go.Lib
set_option linter.unusedVariables false
set_option linter.unusedSimpArgs false
set_option maxRecDepth 100000 in
theorem wake1 : foldS ⟨#[83, 116, 114, 97, 195, 159, 101, 204, 129]⟩ = ⟨#[115, 116, 114, 97, 115, 115, 101]⟩ := by decide +kernel
set_option maxRecDepth 100000 in
theorem wake2 : foldS ⟨#[195, 137]⟩ = foldS ⟨#[101]⟩ := by decide +kernel
theorem wakes_v : law04_wakes_v = some true :=
  thenI ((fold_v _ (by decide)).trans (congrArg some wake1)) (condTI (decide_eq_true rfl) (thenI (same_v _ _ (by decide) (by decide)) (congrArg some (decide_eq_true wake2))))
theorem cut_le (s : ByteArray) (n : Nat) : (cutB s 0 (min (s.size : Int) n)).size ≤ n := by
  unfold cutB; rw [ByteArray.size_extract]; omega
theorem cut_le' (s : ByteArray) (n : Nat) : (cutB s 0 (n : Int)).size ≤ n := by
  unfold cutB; rw [ByteArray.size_extract]; omega
end Go.Proofs.Ythjkafeklflgbaa
namespace Go.Proofs.Ythjkafeklflgbaa
open Go.RowKit Go.Lib
set_option linter.unusedVariables false
set_option linter.unusedSimpArgs false
def law04_FoldSames_v (a1 : ByteArray) (b1 : ByteArray) : Option Bool := andThen (law04_wakes_v) fun (r1 : Bool) => bcond (!r1) ( some false
) ( joinK (fun (j1 : ByteArray → ByteArray → Option Bool) => bcond (decide ((16384 : Int) < (a1.size : Int))) ( grd (0 ≤ (0 : Int) ∧ (0 : Int) ≤ (min (a1.size : Int) 16384) ∧ (min (a1.size : Int) 16384 : Int) ≤ (a1.size : Int)) <| grd (0 ≤ (0 : Int) ∧ (0 : Int) ≤ (min (b1.size : Int) 16384) ∧ (min (b1.size : Int) 16384 : Int) ≤ (b1.size : Int)) <| j1 (cutB a1 0 (min (a1.size : Int) 16384)) (cutB b1 0 (min (b1.size : Int) 16384))
) ( bcond (decide ((16384 : Int) < (b1.size : Int))) ( grd (0 ≤ (0 : Int) ∧ (0 : Int) ≤ (min (a1.size : Int) 16384) ∧ (min (a1.size : Int) 16384 : Int) ≤ (a1.size : Int)) <| grd (0 ≤ (0 : Int) ∧ (0 : Int) ≤ (min (b1.size : Int) 16384) ∧ (min (b1.size : Int) 16384 : Int) ≤ (b1.size : Int)) <| j1 (cutB a1 0 (min (a1.size : Int) 16384)) (cutB b1 0 (min (b1.size : Int) 16384))
) ( j1 a1 b1
)
)
) (fun (a2 : ByteArray) (b2 : ByteArray) => andThen (fold_Same_v a2 b2) fun (r2 : Bool) => andThen (ref04_Fold_v a2) fun (r3 : ByteArray) => andThen (ref04_Fold_v b2) fun (r4 : ByteArray) => bcond (r2 == (decide (r3 = r4))) ( andThen (fold_Same_v a2 a2) fun (r5 : Bool) => bcond (r5) ( andThen (law04_wakes_v) fun (r6 : Bool) => some r6
) ( some false
)
) ( some false
)
)
)
set_option maxRecDepth 100000 in
set_option maxHeartbeats 4000000 in
theorem law04_FoldSames_fn {a1 : ByteArray} {b1 : ByteArray} {r : Bool} (h : law04_FoldSames_v a1 b1 = some r) : FnP Try.prog 3 [.string a1, .string b1] (.bool r) := by
 unfold law04_FoldSames_v at h
 refine FnP.intro Try.func3 rfl Try.ntmps3 (by simp) ?_
 intro w0 K
 refine TC.seq (TC.region (TO.assign rfl dc rfl (TO.nil (TX.next (TC.seq (TC.seq (TC.region ?_)))))))
 obtain ⟨r1, hq1, h⟩ := andE h
 refine TO.callP (v := .bool r1) (vs := []) rfl dc rfl rfl rfl en_12 (law04_wakes_fn hq1) (TO.un rfl dc rfl un_not (TO.nil (TX.next ?_)))
 refine TC.condB rfl (fun hb1 => ?_) (fun hb1 => ?_)
 ·
  have h := condT hb1 h
  refine TC.seq (TC.region (TO.assign rfl dc rfl (TO.nil (TX.next (TC.ret (TX.thenRet ?_))))))
  cases h
  exact TX.fin (rs := [.tmp 4]) () (.inl rfl) Try.results3 (.cons (.tmp rfl) .nil) rfl Splits.nil
 ·
  have h := condF hb1 h
  refine TC.skip (TX.next ?_)
  obtain ⟨j1, hj1, h⟩ := joinE h
  refine TC.cutN (β := ByteArray × ByteArray) 0 rfl (fun b => j1 b.1 b.2 = some r) (fun b => []) (fun b => [(0, .string b.1), (1, .string b.2)]) (fun b => []) (fun cut => ?_) ?_
  ·
   refine cut (TC.seq (TC.region (TO.move rfl dc rfl (TO.lenStr rfl dc rfl Try.underlying9 (TO.bin rfl dc rfl rfl bin_gtr (TO.move rfl dc rfl ?_))))))
   refine TO.split (s := 10) rfl (fun hb2 => ?_) (fun hb2 => ?_)
   ·
    have h := condT hb2 h
    refine TO.skip rfl dc (TO.skip rfl dc (TO.skip rfl dc (TO.pick (b := true) rfl dc rfl rfl (TO.nil (TX.next (TC.condT rfl ?_))))))
    obtain ⟨hg1, h⟩ := grdE h
    obtain ⟨hg2, h⟩ := grdE h
    refine TC.drawN 11 [(0, 15, .string a1), (1, 16, .string a1), (2, 17, .int .i64 (a1.size : Int)), (3, 18, .int .i64 (min (a1.size : Int) 16384)), (4, 19, .string (cutB a1 0 (min (a1.size : Int) 16384))), (5, 20, .string b1), (6, 21, .string b1), (7, 22, .int .i64 (b1.size : Int)), (8, 23, .int .i64 (min (b1.size : Int) 16384)), (9, 24, .string (cutB b1 0 (min (b1.size : Int) 16384))), (10, 0, .string (cutB a1 0 (min (a1.size : Int) 16384)))] mixed kr kr dc (by rfl) kr kr (DrawPre.cons ?_ (DrawPre.cons ?_ (DrawPre.cons ?_ (DrawPre.cons ?_ (DrawPre.cons ?_ (DrawPre.cons ?_ (DrawPre.cons ?_ (DrawPre.cons ?_ (DrawPre.cons ?_ (DrawPre.cons ?_ (DrawPre.cons ?_ DrawPre.nil))))))))))) ?_
    ·
     intro D hn hd hcl hu hi
     refine TO.move rfl dc (dl_before (by intro p hp ht hD; simp at hp; rcases hp with rfl | rfl | rfl | rfl | rfl | rfl | rfl | rfl | rfl | rfl | rfl <;> simp at ht <;> exact hn (hcl 10 _ rfl hD 0 dc)) rfl) ?_
     exact TX.quiet 0 hu hi rfl
    ·
     intro D hn hd hcl hu hi
     refine TO.move rfl dc (dl_before (by intro p hp ht hD; simp at hp; rcases hp with rfl | rfl | rfl | rfl | rfl | rfl | rfl | rfl | rfl | rfl | rfl <;> simp at ht <;> exact hn (hcl 10 _ rfl hD 1 dc)) rfl) ?_
     exact TX.quiet 1 hu hi rfl
    ·
     intro D hn hd hcl hu hi
     refine TO.lenStr rfl dc (dl_lookup (m := 1) hu rfl (hd 1 dc)) Try.underlying9 ?_
     exact TX.quiet 2 hu hi rfl
    ·
     intro D hn hd hcl hu hi
     refine TO.min2 rfl dc (dl_lookup (m := 2) hu rfl (hd 2 dc)) rfl ?_
     exact TX.quiet 3 hu hi rfl
    ·
     intro D hn hd hcl hu hi
     refine TO.slice rfl dc (dl_lookup (m := 0) hu rfl (hd 0 dc)) evO.none (evO.some (dl_lookup (m := 3) hu rfl (hd 3 dc))) (slice_stringI (i := 0) (j := min (a1.size : Int) 16384) Try.underlying9 (.inl ⟨rfl, rfl⟩) (.inr rfl) hg1) ?_
     exact TX.quiet 4 hu hi rfl
    ·
     intro D hn hd hcl hu hi
     refine TO.move rfl dc (dl_old (by rfl) rfl) ?_
     exact TX.quiet 5 hu hi rfl
    ·
     intro D hn hd hcl hu hi
     refine TO.move rfl dc (dl_old (by rfl) rfl) ?_
     exact TX.quiet 6 hu hi rfl
    ·
     intro D hn hd hcl hu hi
     refine TO.lenStr rfl dc (dl_lookup (m := 6) hu rfl (hd 6 dc)) Try.underlying9 ?_
     exact TX.quiet 7 hu hi rfl
    ·
     intro D hn hd hcl hu hi
     refine TO.min2 rfl dc (dl_lookup (m := 7) hu rfl (hd 7 dc)) rfl ?_
     exact TX.quiet 8 hu hi rfl
    ·
     intro D hn hd hcl hu hi
     refine TO.slice rfl dc (dl_lookup (m := 5) hu rfl (hd 5 dc)) evO.none (evO.some (dl_lookup (m := 8) hu rfl (hd 8 dc))) (slice_stringI (i := 0) (j := min (b1.size : Int) 16384) Try.underlying9 (.inl ⟨rfl, rfl⟩) (.inr rfl) hg2) ?_
     exact TX.quiet 9 hu hi rfl
    ·
     intro D hn hd hcl hu hi
     refine TO.assign rfl dc (dl_lookup (m := 4) hu rfl (hd 4 dc)) ?_
     exact TX.quiet 10 hu hi rfl
    refine TO.assign rfl dc rfl (TO.nil ?_)
    exact TX.meetD (cutB a1 0 (min (a1.size : Int) 16384), cutB b1 0 (min (b1.size : Int) 16384)) h rfl (Sbs.cons rfl (Sbs.cons rfl (Sbs.nil))) Splits.nil
   ·
    have h := condF hb2 h
    refine TO.move rfl dc rfl (TO.lenStr rfl dc rfl Try.underlying9 (TO.bin rfl dc rfl rfl bin_gtr (TO.pick (b := false) rfl dc rfl rfl (TO.nil (TX.next ?_)))))
    refine TC.condB rfl (fun hb3 => ?_) (fun hb3 => ?_)
    ·
     have h := condT hb3 h
     obtain ⟨hg3, h⟩ := grdE h
     obtain ⟨hg4, h⟩ := grdE h
     refine TC.drawN 11 [(0, 15, .string a1), (1, 16, .string a1), (2, 17, .int .i64 (a1.size : Int)), (3, 18, .int .i64 (min (a1.size : Int) 16384)), (4, 19, .string (cutB a1 0 (min (a1.size : Int) 16384))), (5, 20, .string b1), (6, 21, .string b1), (7, 22, .int .i64 (b1.size : Int)), (8, 23, .int .i64 (min (b1.size : Int) 16384)), (9, 24, .string (cutB b1 0 (min (b1.size : Int) 16384))), (10, 0, .string (cutB a1 0 (min (a1.size : Int) 16384)))] mixed kr kr dc (by rfl) kr kr (DrawPre.cons ?_ (DrawPre.cons ?_ (DrawPre.cons ?_ (DrawPre.cons ?_ (DrawPre.cons ?_ (DrawPre.cons ?_ (DrawPre.cons ?_ (DrawPre.cons ?_ (DrawPre.cons ?_ (DrawPre.cons ?_ (DrawPre.cons ?_ DrawPre.nil))))))))))) ?_
     ·
      intro D hn hd hcl hu hi
      refine TO.move rfl dc (dl_before (by intro p hp ht hD; simp at hp; rcases hp with rfl | rfl | rfl | rfl | rfl | rfl | rfl | rfl | rfl | rfl | rfl <;> simp at ht <;> exact hn (hcl 10 _ rfl hD 0 dc)) rfl) ?_
      exact TX.quiet 0 hu hi rfl
     ·
      intro D hn hd hcl hu hi
      refine TO.move rfl dc (dl_before (by intro p hp ht hD; simp at hp; rcases hp with rfl | rfl | rfl | rfl | rfl | rfl | rfl | rfl | rfl | rfl | rfl <;> simp at ht <;> exact hn (hcl 10 _ rfl hD 1 dc)) rfl) ?_
      exact TX.quiet 1 hu hi rfl
     ·
      intro D hn hd hcl hu hi
      refine TO.lenStr rfl dc (dl_lookup (m := 1) hu rfl (hd 1 dc)) Try.underlying9 ?_
      exact TX.quiet 2 hu hi rfl
     ·
      intro D hn hd hcl hu hi
      refine TO.min2 rfl dc (dl_lookup (m := 2) hu rfl (hd 2 dc)) rfl ?_
      exact TX.quiet 3 hu hi rfl
     ·
      intro D hn hd hcl hu hi
      refine TO.slice rfl dc (dl_lookup (m := 0) hu rfl (hd 0 dc)) evO.none (evO.some (dl_lookup (m := 3) hu rfl (hd 3 dc))) (slice_stringI (i := 0) (j := min (a1.size : Int) 16384) Try.underlying9 (.inl ⟨rfl, rfl⟩) (.inr rfl) hg3) ?_
      exact TX.quiet 4 hu hi rfl
     ·
      intro D hn hd hcl hu hi
      refine TO.move rfl dc (dl_old (by rfl) rfl) ?_
      exact TX.quiet 5 hu hi rfl
     ·
      intro D hn hd hcl hu hi
      refine TO.move rfl dc (dl_old (by rfl) rfl) ?_
      exact TX.quiet 6 hu hi rfl
     ·
      intro D hn hd hcl hu hi
      refine TO.lenStr rfl dc (dl_lookup (m := 6) hu rfl (hd 6 dc)) Try.underlying9 ?_
      exact TX.quiet 7 hu hi rfl
     ·
      intro D hn hd hcl hu hi
      refine TO.min2 rfl dc (dl_lookup (m := 7) hu rfl (hd 7 dc)) rfl ?_
      exact TX.quiet 8 hu hi rfl
     ·
      intro D hn hd hcl hu hi
      refine TO.slice rfl dc (dl_lookup (m := 5) hu rfl (hd 5 dc)) evO.none (evO.some (dl_lookup (m := 8) hu rfl (hd 8 dc))) (slice_stringI (i := 0) (j := min (b1.size : Int) 16384) Try.underlying9 (.inl ⟨rfl, rfl⟩) (.inr rfl) hg4) ?_
      exact TX.quiet 9 hu hi rfl
     ·
      intro D hn hd hcl hu hi
      refine TO.assign rfl dc (dl_lookup (m := 4) hu rfl (hd 4 dc)) ?_
      exact TX.quiet 10 hu hi rfl
     refine TO.assign rfl dc rfl (TO.nil ?_)
     exact TX.meetD (cutB a1 0 (min (a1.size : Int) 16384), cutB b1 0 (min (b1.size : Int) 16384)) h rfl (Sbs.cons rfl (Sbs.cons rfl (Sbs.nil))) Splits.nil
    ·
     have h := condF hb3 h
     refine TC.skip ?_
     exact TX.meetD (a1, b1) h rfl (Sbs.cons rfl (Sbs.cons rfl (Sbs.nil))) Splits.nil
  ·
   rintro ⟨a2, b2⟩ h
   rw [hj1] at h
   show TC _ _ _ _ _ ([]) _ _ [(0, .string a2), (1, .string b2)] []
   refine TC.seq (TC.region (TO.move rfl dc rfl (TO.move rfl dc rfl ?_)))
   obtain ⟨r2, hq2, h⟩ := andE h
   refine TO.callP (v := .bool r2) (vs := [.string a2, .string b2]) rfl dc rfl rfl rfl en_13 (fold_Same_fn hq2) (TO.move rfl dc rfl ?_)
   obtain ⟨r3, hq3, h⟩ := andE h
   refine TO.callP (v := .string r3) (vs := [.string a2]) rfl dc rfl rfl rfl en_14 (ref04_Fold_fn hq3) (TO.move rfl dc rfl ?_)
   obtain ⟨r4, hq4, h⟩ := andE h
   refine TO.callP (v := .string r4) (vs := [.string b2]) rfl dc rfl rfl rfl en_14 (ref04_Fold_fn hq4) (TO.bin rfl dc rfl rfl bin_seql (TO.bin rfl dc rfl rfl (bin_booleql Try.underlying4) (TO.move rfl dc rfl ?_)))
   refine TO.split (s := 34) rfl (fun hb4 => ?_) (fun hb4 => ?_)
   ·
    have h := condT hb4 h
    refine TO.move rfl dc rfl (TO.move rfl dc rfl ?_)
    obtain ⟨r5, hq5, h⟩ := andE h
    refine TO.callP (v := .bool r5) (vs := [.string a2, .string a2]) rfl dc rfl rfl rfl en_13 (fold_Same_fn hq5) (TO.pick (b := true) rfl dc rfl rfl (TO.move rfl dc rfl ?_))
    refine TO.split (s := 39) rfl (fun hb5 => ?_) (fun hb5 => ?_)
    ·
     have h := condT hb5 h
     obtain ⟨r6, hq6, h⟩ := andE h
     refine TO.callP (v := .bool r6) (vs := []) rfl dc rfl rfl rfl en_12 (law04_wakes_fn hq6) (TO.pick (b := true) rfl dc rfl rfl (TO.assign rfl dc rfl (TO.nil (TX.next (TC.ret ?_)))))
     cases h
     exact TX.fin (rs := [.tmp 4]) () (.inl rfl) Try.results3 (.cons (.tmp rfl) .nil) rfl Splits.nil
    ·
     have h := condF hb5 h
     refine TO.skip rfl dc (TO.pick (b := false) rfl dc rfl rfl (TO.assign rfl dc rfl (TO.nil (TX.next (TC.ret ?_)))))
     cases h
     exact TX.fin (rs := [.tmp 4]) () (.inl rfl) Try.results3 (.cons (.tmp rfl) .nil) rfl Splits.nil
   ·
    have h := condF hb4 h
    refine TO.skip rfl dc (TO.skip rfl dc (TO.skip rfl dc (TO.pick (b := false) rfl dc rfl rfl (TO.move rfl dc rfl (TO.skip rfl dc (TO.pick (b := false) rfl dc rfl rfl (TO.assign rfl dc rfl (TO.nil (TX.next (TC.ret ?_))))))))))
    cases h
    exact TX.fin (rs := [.tmp 4]) () (.inl rfl) Try.results3 (.cons (.tmp rfl) .nil) rfl Splits.nil
end Go.Proofs.Ythjkafeklflgbaa
namespace Go.Proofs.Ythjkafeklflgbaa
open Go.RowKit Go.Lib
set_option linter.unusedVariables false
set_option linter.unusedSimpArgs false
theorem foldSames_v (a b : ByteArray) : law04_FoldSames_v a b = some true := by
  unfold law04_FoldSames_v
  refine thenI wakes_v (condFI rfl (joinI ?_))
  have tail : ∀ x y : ByteArray, x.size ≤ 16384 → y.size ≤ 16384 → (andThen (fold_Same_v x y) fun (r2 : Bool) => andThen (ref04_Fold_v x) fun (r3 : ByteArray) => andThen (ref04_Fold_v y) fun (r4 : ByteArray) =>
      bcond (r2 == (decide (r3 = r4))) (andThen (fold_Same_v x x) fun (r5 : Bool) => bcond (r5) (andThen (law04_wakes_v) fun (r6 : Bool) => some r6) (some false)) (some false)) = some true := fun x y hx hy =>
    thenI (same_v x y (by omega) (by omega)) (thenI (rfold_v x (by omega)) (thenI (rfold_v y (by omega)) (condTI (beq_self_eq_true _) (thenI (same_v x x (by omega) (by omega)) (condTI (decide_eq_true rfl) (thenI wakes_v rfl))))))
  by_cases ha : (16384 : Int) < (a.size : Int)
  · refine condTI (decide_eq_true ha) (grdI ⟨by omega, by omega, by omega⟩ (grdI ⟨by omega, by omega, by omega⟩ (tail _ _ (cut_le a 16384) (cut_le b 16384))))
  · refine condFI (decide_eq_false ha) ?_
    by_cases hb : (16384 : Int) < (b.size : Int)
    · exact condTI (decide_eq_true hb) (grdI ⟨by omega, by omega, by omega⟩ (grdI ⟨by omega, by omega, by omega⟩ (tail _ _ (cut_le a 16384) (cut_le b 16384))))
    · exact condFI (decide_eq_false hb) (tail a b (by omega) (by omega))
theorem foldSames_any (a b : ByteArray) (w : World) (ha : a.size ≤ 140737488351232) (hb : b.size ≤ 140737488351232) : Calls Try.prog 3 #[.string a, .string b] w fun e w' => e = .returned (.bool true) ∧ Below w.heap.size w w' :=
  law04_FoldSames_fn (foldSames_v a b) w
end Go.Proofs.Ythjkafeklflgbaa
