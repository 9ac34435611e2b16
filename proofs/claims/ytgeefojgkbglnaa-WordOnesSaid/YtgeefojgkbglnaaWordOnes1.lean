/-
  Texts laid together: LfWordOnes, PlWordOnes. Nothing is assumed.
-/
import Derived.Test.YtgeefojgkbglnaaWb5
namespace Go.Proofs.Ytgeefojgkbglnaa
open Go.RowKit Go.Lib
set_option linter.unusedVariables false
set_option linter.unusedSimpArgs false
def law07_WordOnes_s2 (r2 : ByteArray) (r6 : (List Gapi_Span)) (j3 : (List Gapi_Span) → Option Bool) (ag2 : (List Gapi_Span) → Int → Option Bool) (l4 : List Gapi_Span) (x3 : Int) : Option Bool := bcond (decide ((x3 : Int) < (((ptsG r2).1).length : Int))) ( andThen (getO l4 x3) fun (q1 : Gapi_Span) => andThen (getO r6 x3) fun (q2 : Gapi_Span) => bcond (!(eq_Gapi_Span q1 q2)) ( some false
) ( andThen (getO l4 x3) fun (q3 : Gapi_Span) => grd (I64 (x3 + 1)) <| ag2 (l4.set (x3 : Int).toNat (⟨(-7), 0⟩ : Gapi_Span)) (x3 + 1)
)
) ( j3 l4
)
def law07_WordOnes_s1 (r2 : ByteArray) (j1 : Option Bool) (r6 : (List Gapi_Span)) (ag1 : Int → Option Bool) (round3 : Int) : Option Bool := bcond (decide ((round3 : Int) < 2)) ( joinK (fun (j2 : Option Bool) => grd (r2.size ≤ 1073741824) <| bcond ((((ptsG r2).2) : Int) != 0) ( some false
) ( bcond (((((ptsG r2).1).length : Int) : Int) != (r6.length : Int)) ( some false
) ( joinK (fun (j3 : (List Gapi_Span) → Option Bool) => loopG (fun _ _ => none) (law07_WordOnes_s2 r2 r6 j3) fuel ((ptsG r2).1) 0
) (fun (l1 : List Gapi_Span) => grd (l1.length + 2 ≤ 2147483648) <| bcond (decide ((((l1 ++ [(⟨0, 0⟩ : Gapi_Span), (⟨0, 0⟩ : Gapi_Span)]).length : Int) : Int) < 3)) ( some false
) ( j2
)
)
)
)
) ( grd (I64 (round3 + 1)) <| ag1 (round3 + 1)
)
) ( j1
)
def law07_WordOnes_v (s1 : ByteArray) : Option Bool := andThen (law07_wakes_v) fun (r1 : Bool) => bcond (!r1) ( some false
) ( andThen (law07_short_v s1) fun (r2 : ByteArray) => grd (r2.size ≤ 140737488351232) <| andThen (ref07_Is_v r2) fun (r3 : Bool) => bcond ((isWord (tksOf r2) r2.size) != r3) ( some false
) ( andThen (ref07_Is_v r2) fun (r4 : Bool) => bcond (!r4) ( grd (r2.size ≤ 1073741824) <| bcond ((((ptsG r2).2) : Int) == 2) ( bcond (((((ptsG r2).1).length : Int) : Int) == 0) ( andThen (law07_wakes_v) fun (r5 : Bool) => some r5
) ( some false
)
) ( some false
)
) ( joinK (fun (j1 : Option Bool) => andThen (ref07_Parts_v r2) fun (r6 : (List Gapi_Span)) => loopG (fun _ => none) (law07_WordOnes_s1 r2 j1 r6) fuel 0
) ( andThen (law07_wakes_v) fun (r7 : Bool) => some r7
)
)
)
)
set_option maxRecDepth 100000 in
set_option maxHeartbeats 4000000 in
theorem law07_WordOnes_fn {s1 : ByteArray} {r : Bool} (h : law07_WordOnes_v s1 = some r) : FnP Try.prog 4 [.string s1] (.bool r) := by
 unfold law07_WordOnes_v at h
 refine FnP.intro Try.func4 rfl Try.ntmps4 (by simp) ?_
 intro w0 K
 refine TC.seq (TC.region (TO.assign rfl (by decide) rfl (TO.nil (TX.next (TC.seq (TC.seq (TC.region ?_)))))))
 obtain ⟨r1, hq1, h⟩ := andE h
 refine TO.callP (v := .bool r1) (vs := []) rfl (by decide) rfl rfl rfl en_12 (law07_wakes_fn hq1) (TO.un rfl (by decide) rfl un_not (TO.nil (TX.next ?_)))
 refine TC.condB rfl (fun hb1 => ?_) (fun hb1 => ?_)
 ·
  have h := condT hb1 h
  refine TC.seq (TC.region (TO.assign rfl (by decide) rfl (TO.nil (TX.next (TC.ret (TX.thenRet ?_))))))
  cases h
  exact TX.fin (rs := [.tmp 2]) () (.inl rfl) Try.results4 (.cons (.tmp rfl) .nil) rfl Splits.nil
 ·
  have h := condF hb1 h
  refine TC.skip (TX.next (TC.seq (TC.region (TO.move rfl (by decide) rfl ?_))))
  obtain ⟨r2, hq2, h⟩ := andE h
  refine TO.callP (v := .string r2) (vs := [.string s1]) rfl (by decide) rfl rfl rfl en_18 (law07_short_fn hq2) (TO.assign rfl (by decide) rfl (TO.nil (TX.next (TC.seq (TC.seq (TC.region (TO.move rfl (by decide) rfl ?_)))))))
  obtain ⟨hg1, h⟩ := grdE h
  refine TO.callP (v := .bool (isWord (tksOf r2) r2.size)) (vs := [.string r2]) rfl (by decide) rfl rfl rfl en_19 (wis_c r2 hg1) (TO.move rfl (by decide) rfl ?_)
  obtain ⟨r3, hq3, h⟩ := andE h
  refine TO.callP (v := .bool r3) (vs := [.string r2]) rfl (by decide) rfl rfl rfl en_20 (ref07_Is_fn hq3) (TO.bin rfl (by decide) rfl rfl (bin_boolneq Try.underlying4) (TO.nil (TX.next ?_)))
  refine TC.condB rfl (fun hb2 => ?_) (fun hb2 => ?_)
  ·
   have h := condT hb2 h
   refine TC.seq (TC.region (TO.assign rfl (by decide) rfl (TO.nil (TX.next (TC.ret (TX.thenRet ?_))))))
   cases h
   exact TX.fin (rs := [.tmp 2]) () (.inl rfl) Try.results4 (.cons (.tmp rfl) .nil) rfl Splits.nil
  ·
   have h := condF hb2 h
   refine TC.skip (TX.next (TC.seq (TC.seq (TC.region (TO.move rfl (by decide) rfl ?_)))))
   obtain ⟨r4, hq4, h⟩ := andE h
   refine TO.callP (v := .bool r4) (vs := [.string r2]) rfl (by decide) rfl rfl rfl en_20 (ref07_Is_fn hq4) (TO.un rfl (by decide) rfl un_not (TO.nil (TX.next ?_)))
   refine TC.condB rfl (fun hb3 => ?_) (fun hb3 => ?_)
   ·
    have h := condT hb3 h
    refine TC.seq (TC.region (TO.move rfl (by decide) rfl ?_))
    obtain ⟨hg2, h⟩ := grdE h
    refine TO.call (vs := [.string r2]) rfl (by decide) rfl rfl rfl en_21 (wparts_c r2 hg2) Splits.nil ?_
    rintro v1
    show TO _ _ _ _ _ _ _ _ _ _ [vec enc_Gapi_Span 34 2 v1 ((ptsG r2).1)]
    refine TO.move rfl (by decide) rfl (TO.extract rfl (by decide) rfl rfl (TO.extract rfl (by decide) rfl rfl (TO.assign rfl (by decide) rfl (TO.assign rfl (by decide) rfl (TO.nil (TX.next (TC.seq (TC.region (TO.move rfl (by decide) rfl (TO.bin rfl (by decide) rfl rfl bin_eql (TO.move rfl (by decide) rfl ?_)))))))))))
    refine TO.split (s := 29) rfl (fun hb4 => ?_) (fun hb4 => ?_)
    ·
     have h := condT hb4 h
     refine TO.move rfl (by decide) rfl (TO.lenVec (k := 0) rfl (by decide) rfl rfl Try.underlying25 (TO.bin rfl (by decide) rfl rfl bin_eql (TO.pick (b := true) rfl (by decide) rfl rfl (TO.move rfl (by decide) rfl ?_))))
     refine TO.split (s := 34) rfl (fun hb5 => ?_) (fun hb5 => ?_)
     ·
      have h := condT hb5 h
      obtain ⟨r5, hq5, h⟩ := andE h
      refine TO.callP (v := .bool r5) (vs := []) rfl (by decide) rfl rfl rfl en_12 (law07_wakes_fn hq5) (TO.pick (b := true) rfl (by decide) rfl rfl (TO.assign rfl (by decide) rfl (TO.nil (TX.next (TC.ret (TX.thenRet ?_))))))
      cases h
      exact TX.fin (rs := [.tmp 2]) () (.inl rfl) Try.results4 (.cons (.tmp rfl) .nil) rfl Splits.nil
     ·
      have h := condF hb5 h
      refine TO.skip rfl (by decide) (TO.pick (b := false) rfl (by decide) rfl rfl (TO.assign rfl (by decide) rfl (TO.nil (TX.next (TC.ret (TX.thenRet ?_))))))
      cases h
      exact TX.fin (rs := [.tmp 2]) () (.inl rfl) Try.results4 (.cons (.tmp rfl) .nil) rfl Splits.nil
    ·
     have h := condF hb4 h
     refine TO.skip rfl (by decide) (TO.skip rfl (by decide) (TO.skip rfl (by decide) (TO.pick (b := false) rfl (by decide) rfl rfl (TO.move rfl (by decide) rfl (TO.skip rfl (by decide) (TO.pick (b := false) rfl (by decide) rfl rfl (TO.assign rfl (by decide) rfl (TO.nil (TX.next (TC.ret (TX.thenRet ?_)))))))))))
     cases h
     exact TX.fin (rs := [.tmp 2]) () (.inl rfl) Try.results4 (.cons (.tmp rfl) .nil) rfl Splits.nil
   ·
    have h := condF hb3 h
    refine TC.skip (TX.next ?_)
    obtain ⟨j1, hj1, h⟩ := joinE h
    refine TC.cutN (β := Unit) 1 rfl (fun b => j1 = some r) (fun b => []) (fun b => []) (fun b => []) (fun cut => ?_) ?_
    ·
     refine TC.seq (TC.region (TO.move rfl (by decide) rfl ?_))
     obtain ⟨r6, hq6, h⟩ := andE h
     refine TO.call (vs := [.string r2]) rfl (by decide) rfl rfl rfl en_22 (ref07_Parts_fn hq6) Splits.nil ?_
     rintro v2
     show TO _ _ _ _ _ _ _ _ _ _ [vec enc_Gapi_Span 34 2 v2 r6]
     refine TO.assign rfl (by decide) rfl (TO.nil (TX.next (cut (TC.seq (TC.region (TO.assign rfl (by decide) rfl (TO.nil (TX.next (TC.block ?_)))))))))
     refine TC.loopD (β := Nat × Int) (fun b => loopG (fun _ => none) (law07_WordOnes_s1 r2 j1 r6) b.1 b.2 = some r) (fun b => []) (fun b => [(0, .string r2), (5, v2), (6, .int .i64 b.2)]) (fun b => [vec enc_Gapi_Span 34 2 v2 r6]) (fun b => b.1) (fuel, 0) h rfl (Sbs.cons rfl (Sbs.cons rfl (Sbs.cons rfl (Sbs.nil)))) (Splits.of [0] (by as_aux_lemma => kernel_rfl) rfl) ?_
     rintro ⟨n1, round3⟩ h
     cases n1 with
     | zero => exact noneE h
     | succ n1 =>
      obtain ⟨ag1, hag1⟩ : ∃ ag, ag = loopG (fun _ => none) (law07_WordOnes_s1 r2 j1 r6) n1 := ⟨_, rfl⟩
      have h : law07_WordOnes_s1 r2 j1 r6 ag1 round3 = some r := by rw [hag1]; exact h
      unfold law07_WordOnes_s1 at h
      show TC _ _ _ _ _ ([]) _ _ [(0, .string r2), (5, v2), (6, .int .i64 round3)] [vec enc_Gapi_Span 34 2 v2 r6]
      refine TC.seq (TC.seq (TC.region (TO.move rfl (by decide) rfl (TO.bin rfl (by decide) rfl rfl bin_lss (TO.nil (TX.next ?_))))))
      refine TC.condB rfl (fun hb6 => ?_) (fun hb6 => ?_)
      ·
       have h := condT hb6 h
       refine TC.skip (TX.next ?_)
       obtain ⟨j2, hj2, h⟩ := joinE h
       refine TC.cutN (β := Unit) 0 rfl (fun b => j2 = some r) (fun b => []) (fun b => [(0, .string r2), (5, v2), (6, .int .i64 round3), (52, .int .i64 (((ptsG r2).1).length : Int)), (53, v2), (54, .int .i64 (r6.length : Int)), (55, .bool (((((ptsG r2).1).length : Int) : Int) != (r6.length : Int)))]) (fun b => [vec enc_Gapi_Span 34 2 v2 r6]) (fun cut => ?_) ?_
       ·
        refine cut (TC.block (TC.seq (TC.region (TO.move rfl (by decide) rfl ?_))))
        obtain ⟨hg3, h⟩ := grdE h
        refine TO.call (vs := [.string r2]) rfl (by decide) rfl rfl rfl en_21 (wparts_c r2 hg3) Splits.nil ?_
        rintro v3
        show TO _ _ _ _ _ _ _ _ _ _ [vec enc_Gapi_Span 34 2 v2 r6, vec enc_Gapi_Span 34 2 v3 ((ptsG r2).1)]
        refine TO.move rfl (by decide) rfl (TO.extract rfl (by decide) rfl rfl (TO.extract rfl (by decide) rfl rfl (TO.assign rfl (by decide) rfl (TO.assign rfl (by decide) rfl (TO.nil (TX.next (TC.seq (TC.seq (TC.region (TO.move rfl (by decide) rfl (TO.bin rfl (by decide) rfl rfl bin_neq (TO.move rfl (by decide) rfl ?_))))))))))))
        refine TO.split (s := 50) rfl (fun hb7 => ?_) (fun hb7 => ?_)
        ·
         have h := condT hb7 h
         refine TO.skip rfl (by decide) (TO.skip rfl (by decide) (TO.skip rfl (by decide) (TO.skip rfl (by decide) (TO.skip rfl (by decide) (TO.pick (b := true) rfl (by decide) rfl rfl (TO.nil (TX.next (TC.condT rfl (TC.seq (TC.region (TO.assign rfl (by decide) rfl (TO.nil (TX.next ?_)))))))))))))
         refine TC.ret (TX.thenRet (TX.blockRet (TX.thenRet (TX.thenRet (TX.blockRet (TX.thenRet ?_))))))
         cases h
         exact TX.fin (rs := [.tmp 2]) () (.inl rfl) Try.results4 (.cons (.tmp rfl) .nil) rfl Splits.nil
        ·
         have h := condF hb7 h
         refine TO.move rfl (by decide) rfl (TO.lenVec (k := 1) rfl (by decide) rfl rfl Try.underlying25 (TO.move rfl (by decide) rfl (TO.lenVec (k := 0) rfl (by decide) rfl rfl Try.underlying25 (TO.bin rfl (by decide) rfl rfl bin_neq (TO.pick (b := false) rfl (by decide) rfl rfl (TO.nil (TX.next ?_)))))))
         refine TC.condB rfl (fun hb8 => ?_) (fun hb8 => ?_)
         ·
          have h := condT hb8 h
          refine TC.seq (TC.region (TO.assign rfl (by decide) rfl (TO.nil (TX.next (TC.ret (TX.thenRet (TX.blockRet (TX.thenRet (TX.thenRet (TX.blockRet (TX.thenRet ?_)))))))))))
          cases h
          exact TX.fin (rs := [.tmp 2]) () (.inl rfl) Try.results4 (.cons (.tmp rfl) .nil) rfl Splits.nil
         ·
          have h := condF hb8 h
          refine TC.skip (TX.next ?_)
          obtain ⟨j3, hj3, h⟩ := joinE h
          refine TC.cutN (β := (List Gapi_Span)) 0 rfl (fun b => j3 b = some r) (fun b => []) (fun b => [(0, .string r2), (5, v2), (6, .int .i64 round3), (7, v3), (51, v3), (52, .int .i64 (((ptsG r2).1).length : Int)), (53, v2), (54, .int .i64 (r6.length : Int)), (55, .bool (((((ptsG r2).1).length : Int) : Int) != (r6.length : Int)))]) (fun b => [vec enc_Gapi_Span 34 2 v2 r6, vec enc_Gapi_Span 34 2 v3 b]) (fun cut => ?_) ?_
          ·
           refine cut (TC.seq (TC.region (TO.move rfl (by decide) rfl (TO.lenVec (k := 1) rfl (by decide) rfl rfl Try.underlying25 (TO.move rfl (by decide) rfl (TO.nil (TX.next (TC.block ?_))))))))
           refine TC.loopD (β := Nat × (List Gapi_Span) × Int) (fun b => loopG (fun _ _ => none) (law07_WordOnes_s2 r2 r6 j3) b.1 b.2.1 b.2.2 = some r) (fun b => []) (fun b => [(0, .string r2), (5, v2), (6, .int .i64 round3), (7, v3), (51, v3), (52, .int .i64 (((ptsG r2).1).length : Int)), (53, v2), (54, .int .i64 (r6.length : Int)), (55, .bool (((((ptsG r2).1).length : Int) : Int) != (r6.length : Int))), (58, .int .i64 (((ptsG r2).1).length : Int)), (59, .int .i64 b.2.2)]) (fun b => [vec enc_Gapi_Span 34 2 v2 r6, vec enc_Gapi_Span 34 2 v3 b.2.1]) (fun b => b.1) (fuel, (ptsG r2).1, 0) h rfl (Sbs.cons rfl (Sbs.cons rfl (Sbs.cons rfl (Sbs.cons rfl (Sbs.cons rfl (Sbs.cons rfl (Sbs.cons rfl (Sbs.cons rfl (Sbs.cons rfl (Sbs.cons rfl (Sbs.cons rfl (Sbs.nil)))))))))))) (Splits.of [0, 1] (by as_aux_lemma => kernel_rfl) rfl) ?_
           rintro ⟨n2, l4, x3⟩ h
           cases n2 with
           | zero => exact noneE h
           | succ n2 =>
            obtain ⟨ag2, hag2⟩ : ∃ ag, ag = loopG (fun _ _ => none) (law07_WordOnes_s2 r2 r6 j3) n2 := ⟨_, rfl⟩
            have h : law07_WordOnes_s2 r2 r6 j3 ag2 l4 x3 = some r := by rw [hag2]; exact h
            unfold law07_WordOnes_s2 at h
            show TC _ _ _ _ _ ([]) _ _ [(0, .string r2), (5, v2), (6, .int .i64 round3), (7, v3), (51, v3), (52, .int .i64 (((ptsG r2).1).length : Int)), (53, v2), (54, .int .i64 (r6.length : Int)), (55, .bool (((((ptsG r2).1).length : Int) : Int) != (r6.length : Int))), (58, .int .i64 (((ptsG r2).1).length : Int)), (59, .int .i64 x3)] [vec enc_Gapi_Span 34 2 v2 r6, vec enc_Gapi_Span 34 2 v3 l4]
            refine TC.seq (TC.region (TO.bin rfl (by decide) rfl rfl bin_lss (TO.nil (TX.next (TC.seq ?_)))))
            refine TC.condB rfl (fun hb9 => ?_) (fun hb9 => ?_)
            ·
             have h := condT hb9 h
             refine TC.skip (TX.next (TC.seq (TC.block (TC.seq (TC.region (TO.move rfl (by decide) rfl (TO.assign rfl (by decide) rfl (TO.nil (TX.next (TC.seq (TC.seq ?_)))))))))))
             obtain ⟨q1, hq7, h⟩ := andE h
             obtain ⟨q2, hq8, h⟩ := andE h
             refine TC.drawN 8 [(0, 62, v3), (1, 63, .int .i64 x3), (2, 64, .pointer (some ⟨vblk v3, (x3 : Int).toNat * 2, none⟩)), (3, 65, .agg #[.int .i64 q1.From, .int .i64 q1.To]), (4, 66, v2), (5, 67, .int .i64 x3), (6, 68, .pointer (some ⟨vblk v2, (x3 : Int).toNat * 2, none⟩)), (7, 69, .agg #[.int .i64 q2.From, .int .i64 q2.To])] mixed (by as_aux_lemma => kernel_rfl) (by as_aux_lemma => kernel_rfl) (by decide) (by rfl) (by as_aux_lemma => kernel_rfl) (by as_aux_lemma => kernel_rfl) (DrawPre.cons ?_ (DrawPre.cons ?_ (DrawPre.cons ?_ (DrawPre.cons ?_ (DrawPre.cons ?_ (DrawPre.cons ?_ (DrawPre.cons ?_ (DrawPre.cons ?_ DrawPre.nil)))))))) ?_
             ·
              intro D hn hd hcl hu hi
              refine TO.move rfl (by decide) (dl_old (by rfl) rfl) ?_
              exact TX.quiet 0 hu hi rfl
             ·
              intro D hn hd hcl hu hi
              refine TO.move rfl (by decide) (dl_old (by rfl) rfl) ?_
              exact TX.quiet 1 hu hi rfl
             ·
              intro D hn hd hcl hu hi
              refine TO.indexVecI (k := 1) hq7 Try.underlying25 sz_34 rfl (by decide) (dl_lookup (m := 0) hu rfl (hd 0 (by decide))) (dl_lookup (m := 1) hu rfl (hd 1 (by decide))) rfl rfl ?_
              exact TX.quiet 2 hu hi rfl
             ·
              intro D hn hd hcl hu hi
              refine TO.loadsVec (i := (x3 : Int).toNat) (j := 0) (k := 1) (q := q1) (cs := [.int .i64 q1.From, .int .i64 q1.To]) rw_34 enc_Gapi_Span_len rfl (by decide) (dl_lookup (m := 2) hu rfl (hd 2 (by decide))) rfl (getO_get hq7) rfl rfl rfl ?_
              exact TX.quiet 3 hu hi rfl
             ·
              intro D hn hd hcl hu hi
              refine TO.move rfl (by decide) (dl_old (by rfl) rfl) ?_
              exact TX.quiet 4 hu hi rfl
             ·
              intro D hn hd hcl hu hi
              refine TO.move rfl (by decide) (dl_old (by rfl) rfl) ?_
              exact TX.quiet 5 hu hi rfl
             ·
              intro D hn hd hcl hu hi
              refine TO.indexVecI (k := 0) hq8 Try.underlying25 sz_34 rfl (by decide) (dl_lookup (m := 4) hu rfl (hd 4 (by decide))) (dl_lookup (m := 5) hu rfl (hd 5 (by decide))) rfl rfl ?_
              exact TX.quiet 6 hu hi rfl
             ·
              intro D hn hd hcl hu hi
              refine TO.loadsVec (i := (x3 : Int).toNat) (j := 0) (k := 0) (q := q2) (cs := [.int .i64 q2.From, .int .i64 q2.To]) rw_34 enc_Gapi_Span_len rfl (by decide) (dl_lookup (m := 6) hu rfl (hd 6 (by decide))) rfl (getO_get hq8) rfl rfl rfl ?_
              exact TX.quiet 7 hu hi rfl
             refine TO.bin rfl (by decide) rfl rfl (bin_neq_34 q1 q2) (TO.nil (TX.next ?_))
             refine TC.condB rfl (fun hb10 => ?_) (fun hb10 => ?_)
             ·
              have h := condT hb10 h
              refine TC.seq (TC.region (TO.assign rfl (by decide) rfl (TO.nil (TX.next (TC.ret (TX.thenRet (TX.blockRet (TX.thenRet (TX.thenRet (TX.blockRet (TX.thenRet (TX.blockRet (TX.thenRet ?_)))))))))))))
              refine TX.thenRet (TX.blockRet (TX.thenRet ?_))
              cases h
              exact TX.fin (rs := [.tmp 2]) () (.inl rfl) Try.results4 (.cons (.tmp rfl) .nil) rfl Splits.nil
             ·
              have h := condF hb10 h
              refine TC.skip (TX.next (TC.region (TO.move rfl (by decide) rfl (TO.move rfl (by decide) rfl ?_))))
              refine TO.build (v := .agg #[.int .i64 (-7), .int .i64 0]) (ps := [(0, .const (.int .i64 (-7)))]) rfl (by decide) rfl (fun _ => by kernel_rfl) ?_
              obtain ⟨q3, hq9, h⟩ := andE h
              refine TO.indexVecI (k := 1) hq9 Try.underlying25 sz_34 rfl (by decide) rfl rfl rfl rfl ?_
              refine TO.storesVec (i := (x3 : Int).toNat) (j := 0) (k := 1) (q := q3) (q' := (⟨(-7), 0⟩ : Gapi_Span)) (vs := [.int .i64 (-7), .int .i64 0]) sz_34 enc_Gapi_Span_len rfl rfl rfl rfl (getO_get hq9) rfl (by decide) rfl rfl (fun m => [q3, (⟨(-7), q3.To⟩ : Gapi_Span), (⟨(-7), 0⟩ : Gapi_Span)].getD m q3) rfl rfl (by intro m hm; rcases m with _ | _ | m <;> first | rfl | (exfalso; omega)) ?_
              refine TO.nil (TX.blockNormal (TX.next (TC.region ?_)))
              obtain ⟨hg4, h⟩ := grdE h
              refine TO.bin rfl (by decide) rfl rfl (bin_add (r := x3 + 1) (IntWalk.i64_in _ hg4)) (TO.move rfl (by decide) rfl (TO.nil ?_))
              subst hag2
              exact TX.againD (n2, l4.set (x3 : Int).toNat (⟨(-7), 0⟩ : Gapi_Span), x3 + 1) h (Nat.lt_succ_self _) rfl (Sbs.cons rfl (Sbs.cons rfl (Sbs.cons rfl (Sbs.cons rfl (Sbs.cons rfl (Sbs.cons rfl (Sbs.cons rfl (Sbs.cons rfl (Sbs.cons rfl (Sbs.cons rfl (Sbs.cons rfl (Sbs.nil)))))))))))) (Splits.of [0, 1] (by as_aux_lemma => kernel_rfl) rfl)
            ·
             have h := condF hb9 h
             refine TC.exit (TX.thenExit (TX.thenExit (TX.blockHere ?_)))
             exact TX.meetD l4 h rfl (Sbs.cons rfl (Sbs.cons rfl (Sbs.cons rfl (Sbs.cons rfl (Sbs.cons rfl (Sbs.cons rfl (Sbs.cons rfl (Sbs.cons rfl (Sbs.cons rfl (Sbs.nil)))))))))) (Splits.of [0, 1] (by as_aux_lemma => kernel_rfl) rfl)
          ·
           rintro l1 h
           subst hj3
           show TC _ _ _ _ _ ([]) _ _ [(0, .string r2), (5, v2), (6, .int .i64 round3), (7, v3), (51, v3), (52, .int .i64 (((ptsG r2).1).length : Int)), (53, v2), (54, .int .i64 (r6.length : Int)), (55, .bool (((((ptsG r2).1).length : Int) : Int) != (r6.length : Int)))] [vec enc_Gapi_Span 34 2 v2 r6, vec enc_Gapi_Span 34 2 v3 l1]
           refine TC.seq (TC.region (TO.move rfl (by decide) rfl ?_))
           refine TO.build (v := .agg #[.int .i64 0, .int .i64 0]) (ps := []) rfl (by decide) rfl (fun _ => by kernel_rfl) ?_
           refine TO.build (v := .agg #[.int .i64 0, .int .i64 0]) (ps := []) rfl (by decide) rfl (fun _ => by kernel_rfl) ?_
           refine TO.buildSlice (cs := [.int .i64 0, .int .i64 0, .int .i64 0, .int .i64 0]) (te := 34) (ps := [(0, .tmp 77), (1, .tmp 78)]) rfl (by decide) rfl (fun _ => by kernel_rfl) (fun b1 => ?_)
           obtain ⟨hg5, h⟩ := grdE h
           refine TO.appendVec (k := 1) (k2 := 2) (ys := [(⟨0, 0⟩ : Gapi_Span), (⟨0, 0⟩ : Gapi_Span)]) Try.underlying25 el_34 enc_Gapi_Span_len enc_Gapi_Span_one rfl (by decide) rfl rfl rfl rfl rfl rfl hg5 (fun v4 => ?_)
           show TO _ _ _ _ _ _ _ _ _ _ [vec enc_Gapi_Span 34 2 v2 r6, vec enc_Gapi_Span 34 2 v4 (l1 ++ [(⟨0, 0⟩ : Gapi_Span), (⟨0, 0⟩ : Gapi_Span)]), cells b1 [.int .i64 0, .int .i64 0, .int .i64 0, .int .i64 0] 34]
           refine TO.assign rfl (by decide) rfl (TO.nil (TX.next (TC.seq (TC.region (TO.move rfl (by decide) rfl (TO.lenVec (k := 1) rfl (by decide) rfl rfl Try.underlying25 (TO.bin rfl (by decide) rfl rfl bin_lss (TO.nil (TX.next ?_)))))))))
           refine TC.condB rfl (fun hb11 => ?_) (fun hb11 => ?_)
           ·
            have h := condT hb11 h
            refine TC.seq (TC.region (TO.assign rfl (by decide) rfl (TO.nil (TX.next (TC.ret (TX.blockRet (TX.thenRet (TX.thenRet (TX.blockRet (TX.thenRet ?_))))))))))
            cases h
            exact TX.fin (rs := [.tmp 2]) () (.inl rfl) Try.results4 (.cons (.tmp rfl) .nil) rfl Splits.nil
           ·
            have h := condF hb11 h
            refine TC.skip (TX.blockNormal ?_)
            exact TX.meetD () h rfl (Sbs.cons rfl (Sbs.cons rfl (Sbs.cons rfl (Sbs.cons rfl (Sbs.cons rfl (Sbs.cons rfl (Sbs.cons rfl (Sbs.nil)))))))) (Splits.of [0] (by as_aux_lemma => kernel_rfl) rfl)
       ·
        rintro _ h
        subst hj2
        show TC _ _ _ _ _ ([]) _ _ [(0, .string r2), (5, v2), (6, .int .i64 round3), (52, .int .i64 (((ptsG r2).1).length : Int)), (53, v2), (54, .int .i64 (r6.length : Int)), (55, .bool (((((ptsG r2).1).length : Int) : Int) != (r6.length : Int)))] [vec enc_Gapi_Span 34 2 v2 r6]
        refine TC.region (TO.move rfl (by decide) rfl ?_)
        obtain ⟨hg6, h⟩ := grdE h
        refine TO.bin rfl (by decide) rfl rfl (bin_add (r := round3 + 1) (IntWalk.i64_in _ hg6)) (TO.assign rfl (by decide) rfl (TO.nil ?_))
        subst hag1
        exact TX.againD (n1, round3 + 1) h (Nat.lt_succ_self _) rfl (Sbs.cons rfl (Sbs.cons rfl (Sbs.cons rfl (Sbs.nil)))) (Splits.of [0] (by as_aux_lemma => kernel_rfl) rfl)
      ·
       have h := condF hb6 h
       refine TC.exit (TX.thenExit (TX.thenExit (TX.blockHere ?_)))
       exact TX.meetD () h rfl (Sbs.nil) Splits.nil
    ·
     rintro _ h
     subst hj1
     show TC _ _ _ _ _ ([]) _ _ [] []
     refine TC.seq (TC.region ?_)
     obtain ⟨r7, hq10, h⟩ := andE h
     refine TO.callP (v := .bool r7) (vs := []) rfl (by decide) rfl rfl rfl en_12 (law07_wakes_fn hq10) (TO.assign rfl (by decide) rfl (TO.nil (TX.next (TC.ret ?_))))
     cases h
     exact TX.fin (rs := [.tmp 2]) () (.inl rfl) Try.results4 (.cons (.tmp rfl) .nil) rfl Splits.nil
end Go.Proofs.Ytgeefojgkbglnaa
namespace Go.Proofs.Ytgeefojgkbglnaa
open Go.RowKit Go.Lib
set_option linter.unusedVariables false
set_option linter.unusedSimpArgs false
/-- One more unit, to the reference's parts. -/
def rpst (S : List (Nat × Nat) × Bool) (u : Un) : List (Nat × Nat) × Bool :=
  if u.k = 1 then (if S.2 then (S.1.set (S.1.length - 1) ((S.1.getLast?.getD (0, 0)).1, u.t), true) else (S.1 ++ [(u.f, u.t)], true)) else (S.1, false)
theorem pts_run : ∀ (n : Nat) (us : List Un) (a b : Nat) (L : List (Nat × Nat)), us.length ≤ n → Ch Un.f Un.t a us b → runN 1 JW us = us.length → (us.foldl rpst (L, true)).1 = us.foldl ptstep L
  | _, [], _, _, L, _, _, _ => rfl
  | 0, u :: us, _, _, L, h, _, _ => by simp at h
  | n + 1, u :: us, a, b, L, h, hc, hr => by
    by_cases h1 : u.k = 1
    · have hr' : runN 1 JW us = us.length := by simp [runN, h1] at hr; omega
      have ih := pts_run n us _ _ (L.set (L.length - 1) ((L.getLast?.getD (0, 0)).1, u.t)) (by simpa using h) hc.2.2 hr'
      simp only [List.foldl_cons]
      rw [show rpst (L, true) u = (L.set (L.length - 1) ((L.getLast?.getD (0, 0)).1, u.t), true) by simp [rpst, h1], show ptstep L u = L.set (L.length - 1) ((L.getLast?.getD (0, 0)).1, u.t) by simp [ptstep, h1]]
      exact ih
    · simp only [runN, if_neg h1, List.length_cons] at hr
      split at hr
      · rename_i h2
        rcases us with _ | ⟨v, vs⟩
        · simp [isK] at h2
        · have hv : v.k = 1 := by simpa [isK] using h2.2
          have hr' : runN 1 JW vs = vs.length := by simp [runN, hv] at hr; omega
          have hvf : v.f = u.t := hc.2.2.1
          have ih := pts_run n vs _ _ (L ++ [(u.t, v.t)]) (by simp at h; omega) hc.2.2.2.2 hr'
          simp only [List.foldl_cons]
          rw [show rpst (rpst (L, true) u) v = (L ++ [(u.t, v.t)], true) by simp [rpst, h1, hv, hvf], show ptstep (ptstep L u) v = L ++ [(u.t, v.t)] by simp [ptstep, h1, hv]]
          exact ih
      · omega
theorem word_units (s : ByteArray) (h : isWord (tksOf s) s.size = true) : ∃ u us, usOf s = u :: us ∧ u.k = 1 ∧ u.f = 0 ∧ runN 1 JW us = us.length ∧ Ch Un.f Un.t u.t us s.size := by
  obtain ⟨x, hx, hk⟩ := (isWord_iff s).1 h
  have e : tksOf s = toksR (usOf s) := scan_toksR _ (units_wf s)
  have hch : Ch Un.f Un.t 0 (usOf s) s.size := by
    have h1 := units_ch s.data.toList
    have h2 : s.data.toList.length = s.size := by simp
    rw [h2] at h1; exact h1
  rw [e] at hx
  rcases hu : usOf s with _ | ⟨u, us⟩
  · rw [hu, toksR] at hx; cases hx
  · rw [hu, toksR] at hx
    rw [hu] at hch
    have h1 := List.cons.inj hx
    have hd : us.drop (behind u us) = [] := by
      rcases hd : us.drop (behind u us) with _ | ⟨v, vs⟩
      · rfl
      · have := h1.2; rw [hd, toksR] at this; cases this
    have hkk : (begins u).2 = 1 := by rw [← hk, ← h1.1]
    have hu1 : u.k = 1 := by
      unfold begins at hkk
      repeat' split at hkk
      all_goals first | assumption | (simp at hkk)
    have hb : behind u us = runN 1 JW us := by simp [behind, hu1]
    rw [hb] at hd
    have hle := runN_le 1 JW us
    have : us.length ≤ runN 1 JW us := by simpa using hd
    exact ⟨u, us, rfl, hu1, hch.1, by omega, hch.2.2⟩
def rpts (us : List Un) : List (Nat × Nat) := (us.foldl rpst ([], false)).1
theorem rpts_word (s : ByteArray) (h : isWord (tksOf s) s.size = true) : rpts (usOf s) = partsF (usOf s) := by
  obtain ⟨u, us, h1, h2, h3, h4, h5⟩ := word_units s h
  unfold rpts partsF
  rw [h1]
  simp only [List.foldl_cons]
  rw [show rpst ([], false) u = ([(0, u.t)], true) by simp [rpst, h2, h3], show ptstep [(0, 0)] u = [(0, u.t)] by simp [ptstep, h2]]
  exact pts_run us.length us _ _ _ (Nat.le_refl _) h5 h4
theorem rpst_len : ∀ (us : List Un) (S : List (Nat × Nat) × Bool), (us.foldl rpst S).1.length ≤ S.1.length + us.length
  | [], S => by simp
  | u :: us, S => by
    have h := rpst_len us (rpst S u)
    have h2 : (rpst S u).1.length ≤ S.1.length + 1 := by
      unfold rpst; split
      · split <;> simp
      · simp
    simp only [List.foldl_cons, List.length_cons]; omega
theorem rpst_ne (us : List Un) : ∀ S : List (Nat × Nat) × Bool, (S.2 = true → S.1 ≠ []) → ((us.foldl rpst S).2 = true → (us.foldl rpst S).1 ≠ []) := by
  induction us with
  | nil => intro S h; exact h
  | cons u us ih =>
    intro S h
    refine ih _ ?_
    unfold rpst
    split
    · split
      · rename_i h2; intro _ h3
        have := congrArg List.length h3
        simp at this
        exact h h2 this
      · simp
    · simp
theorem rparts_v (s : ByteArray) (hs : s.size ≤ 1000000000) : ref07_Parts_v s = some ((rpts (usOf s)).map spG) := by
  unfold ref07_Parts_v
  have hl : (usOf s).length ≤ s.size := units_len s
  refine joinI (thenI (units_v s (by omega)) ?_)
  refine loop_to2 (usOf s).length (fun k => (((usOf s).take k).foldl rpst ([], false)).1.map spG) (fun k => (((usOf s).take k).foldl rpst ([], false)).2) ?_ ?_ rfl rfl (by unfold fuel; omega)
  · intro ag k hk
    have hq : (usOf s)[k]? = some (usOf s)[k] := List.getElem?_eq_getElem hk
    have hlen := rpst_len ((usOf s).take k) ([], false)
    have hne := rpst_ne ((usOf s).take k) ([], false) (by simp)
    have hlen2 : ((usOf s).take k).length ≤ 1000000000 := by simp; omega
    unfold ref07_Parts_s1
    have tail : ∀ o b, (grd (I64 ((k : Int) + 1)) <| ag o b ((k : Int) + 1)) = ag o b ((k + 1 : Nat) : Int) := fun o b => grdI ⟨by omega, by omega⟩ rfl
    refine condTI (decide_eq_true (by show (k : Int) < (((usOf s).map unG).length : Int); simp; omega)) (joinI (thenI (getO_map hq) ?_))
    rw [take_snocQ hq, List.foldl_append]
    simp only [List.foldl_cons, List.foldl_nil]
    generalize ((usOf s).take k).foldl rpst ([], false) = S at *
    generalize (usOf s)[k] = u at *
    by_cases h1 : u.k = 1
    · refine condFI (by simp [unG, h1]) ?_
      cases hb : S.2 with
      | true =>
        have hne2 := hne hb
        rcases List.eq_nil_or_concat S.1 with h0 | ⟨D, q, h0⟩
        · exact absurd h0 hne2
        · rw [List.concat_eq_append] at h0
          have hrp : rpst S u = (D ++ [(q.1, u.t)], true) := by simp [rpst, h1, hb, h0]
          rw [hrp, h0]
          have elen : (((D ++ [q]).map spG).length : Int) - 1 = (D.length : Int) := by simp
          rw [elen]
          have hD : D.length < 2147483648 := by rw [h0] at hlen; simp at hlen; omega
          refine condTI rfl (grdI ⟨by omega, by omega⟩ (thenI (a := spG q) (getO_map (by simp)) ((tail _ _).trans ?_)))
          simp [unG, spG]
      | false =>
        have hrp : rpst S u = (S.1 ++ [(u.f, u.t)], true) := by simp [rpst, h1, hb]
        rw [hrp]
        refine condFI rfl (grdI (by simp at hlen ⊢; omega) ((tail _ _).trans ?_))
        simp [unG, spG]
    · refine condTI (by simp [unG, h1]) ((tail _ _).trans ?_)
      rw [show rpst S u = (S.1, false) by simp [rpst, h1]]
  · intro ag
    unfold ref07_Parts_s1
    refine condFI (decide_eq_false (by show ¬ ((usOf s).length : Int) < (((usOf s).map unG).length : Int); simp)) ?_
    rw [List.take_length]; rfl
theorem parts_ne (us : List Un) : 1 ≤ (partsF us).length := (ptfold_len us [(0, 0)]).1
theorem ones_inner (t : ByteArray) (W : List Gapi_Span) (hW : (ptsG t).1 = W) (hl : W.length ≤ 2147480000) (J : List Gapi_Span → Option Bool) (X : Option Bool) (hJ : ∀ l : List Gapi_Span, l.length = W.length → J l = X) :
    loopG (fun _ _ => none) (law07_WordOnes_s2 t W J) fuel W 0 = X := by
  refine loop_to1 W.length (fun k => List.replicate k (⟨-7, 0⟩ : Gapi_Span) ++ W.drop k) ?_ ?_ (by simp) (by unfold fuel; omega)
  · intro ag k hk
    have hq : W[k]? = some W[k] := List.getElem?_eq_getElem hk
    have hg : getO (List.replicate k (⟨-7, 0⟩ : Gapi_Span) ++ W.drop k) (k : Int) = some W[k] := getO_nat (by
      rw [List.getElem?_append_right (by simp)]; simp [hk])
    unfold law07_WordOnes_s2
    rw [hW]
    refine condTI (decide_eq_true (by omega)) (thenI hg (thenI (getO_nat hq) (condFI (eqr_span _) (thenI hg (grdI ⟨by omega, by omega⟩ ?_)))))
    have e : (List.replicate k (⟨-7, 0⟩ : Gapi_Span) ++ W.drop k).set ((k : Int)).toNat ⟨-7, 0⟩ = List.replicate (k + 1) (⟨-7, 0⟩ : Gapi_Span) ++ W.drop (k + 1) := by
      rw [Int.toNat_natCast, List.set_append_right _ _ (by simp), List.length_replicate, Nat.sub_self, List.drop_eq_getElem_cons hk, List.set_cons_zero, List.replicate_succ', List.append_assoc]; rfl
    rw [e]; rfl
  · intro ag
    unfold law07_WordOnes_s2
    rw [hW]
    refine condFI (decide_eq_false (by omega)) (hJ _ (by simp))
theorem ones_law (s : ByteArray) : law07_WordOnes_v s = some true := by
  unfold law07_WordOnes_v
  obtain ⟨t, ht, hs⟩ := short_v s
  refine thenI wakes_v (condFI rfl (thenI ht (grdI (by omega) (thenI (risw_v t (by omega)) (condFI (bne_self _) (thenI (risw_v t (by omega)) ?_))))))
  by_cases h : isWord (tksOf t) t.size = true
  · refine condFI (by rw [h]; rfl) (joinI (thenI (rparts_v t (by omega)) ?_))
    rw [rpts_word t h]
    have hW : (ptsG t).1 = (partsF (usOf t)).map spG := by unfold ptsG; rw [if_pos h]
    have hE : (ptsG t).2 = 0 := by unfold ptsG; rw [if_pos h]
    have hl : (usOf t).length ≤ t.size := units_len t
    have hpl := ptfold_len (usOf t) [(0, 0)]
    have hpl2 : (partsF (usOf t)).length ≤ 1 + (usOf t).length := hpl.2
    have hpl1 := parts_ne (usOf t)
    have hWl : ((partsF (usOf t)).map spG).length ≤ 2147480000 := by simp; omega
    refine loop_to0 2 (fun ag k hk => ?_) (fun ag => ?_) (by unfold fuel; omega)
    · unfold law07_WordOnes_s1
      have tail : (grd (I64 ((k : Int) + 1)) <| ag ((k : Int) + 1)) = ag ((k + 1 : Nat) : Int) := grdI ⟨by omega, by omega⟩ rfl
      refine condTI (decide_eq_true (by omega)) (joinI (grdI (by omega) (condFI (by rw [hE]; rfl) (condFI (bne_same (by rw [hW])) (joinI ?_)))))
      rw [hW]
      refine ones_inner t _ hW hWl _ _ fun l hlen => ?_
      refine grdI (by rw [hlen]; omega) (condFI (decide_eq_false (by simp [hlen]; omega)) tail)
    · unfold law07_WordOnes_s1
      exact condFI rfl wakesK
  · have h' : isWord (tksOf t) t.size = false := by simpa using h
    have hp : ptsG t = ([], 2) := by unfold ptsG; rw [if_neg h]
    refine condTI (by rw [h']; rfl) (grdI (by omega) ?_)
    rw [hp]
    exact condTI rfl (condTI rfl wakesK)
theorem wordOnes_any (s : ByteArray) (w : World) (h0 : s.size ≤ 140737488351232) : Calls Try.prog 4 #[.string s] w fun e w' => e = .returned (.bool true) ∧ Below w.heap.size w w' := law07_WordOnes_fn (ones_law s) w
end Go.Proofs.Ytgeefojgkbglnaa
