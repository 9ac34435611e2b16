/-
  Texts laid together: LfWordNumbers, PlWordNumbers. Nothing is assumed.
-/
import Derived.Test.YtgeefojgkbglnaaWb5
namespace Go.Proofs.Ytgeefojgkbglnaa
open Go.RowKit Go.Lib
set_option linter.unusedVariables false
set_option linter.unusedSimpArgs false
def law07_WordNumbers_s1 (k1 : Int) (with1 : ByteArray) (j1 : Option Bool) (r2 : ByteArray) (r3 : (List Gapi_Span)) (ag1 : Int → Option Bool) (x3 : Int) : Option Bool := bcond (decide ((x3 : Int) < 3)) ( joinK (fun (j2 : Option Bool) => andThen (getO ([k1, IntKind.i64.wrap (Int.tmod (IntKind.u64.wrap k1) (IntKind.u64.wrap ((r3.length : Int) + 1))), (r3.length : Int) - 1] : List Int) x3) fun (q1 : Int) => grd (r2.size ≤ 140737488351232) <| grd (I64 q1) <| grd (r2.size ≤ 140737488351232) <| grd (with1.size ≤ 140737488351232) <| grd (I64 q1) <| bcond (decide ((q1 : Int) < 0)) ( bcond ((nxG (nthW (wsOf r2) q1)).2) ( some false
) ( bcond (!(eq_Gapi_Span ((nxG (nthW (wsOf r2) q1)).1) (⟨0, 0⟩ : Gapi_Span))) ( some false
) ( bcond ((((ptG r2 with1 (nthW (wsOf r2) q1)).2) : Int) != 4) ( some false
) ( bcond (!decide ((ptG r2 with1 (nthW (wsOf r2) q1)).1 = (⟨#[]⟩ : ByteArray))) ( some false
) ( j2
)
)
)
)
) ( bcond (decide (((r3.length : Int) : Int) ≤ q1)) ( bcond ((nxG (nthW (wsOf r2) q1)).2) ( some false
) ( bcond (!(eq_Gapi_Span ((nxG (nthW (wsOf r2) q1)).1) (⟨0, 0⟩ : Gapi_Span))) ( some false
) ( bcond ((((ptG r2 with1 (nthW (wsOf r2) q1)).2) : Int) != 4) ( some false
) ( bcond (!decide ((ptG r2 with1 (nthW (wsOf r2) q1)).1 = (⟨#[]⟩ : ByteArray))) ( some false
) ( j2
)
)
)
)
) ( bcond (!((nxG (nthW (wsOf r2) q1)).2)) ( some false
) ( andThen (getO r3 q1) fun (q2 : Gapi_Span) => bcond (!(eq_Gapi_Span ((nxG (nthW (wsOf r2) q1)).1) q2)) ( some false
) ( bcond ((((ptG r2 with1 (nthW (wsOf r2) q1)).2) : Int) != 0) ( some false
) ( grd (0 ≤ (0 : Int) ∧ (0 : Int) ≤ ((nxG (nthW (wsOf r2) q1)).1.From) ∧ ((nxG (nthW (wsOf r2) q1)).1.From : Int) ≤ (r2.size : Int)) <| grd ((cutB r2 0 ((nxG (nthW (wsOf r2) q1)).1.From)).size + with1.size ≤ 9223372036854775807) <| grd (0 ≤ ((nxG (nthW (wsOf r2) q1)).1.To : Int) ∧ ((nxG (nthW (wsOf r2) q1)).1.To : Int) ≤ (r2.size : Int) ∧ ((r2.size : Int) : Int) ≤ (r2.size : Int)) <| grd (((cutB r2 0 ((nxG (nthW (wsOf r2) q1)).1.From)) ++ with1).size + (cutB r2 ((nxG (nthW (wsOf r2) q1)).1.To) (r2.size : Int)).size ≤ 9223372036854775807) <| bcond (!decide ((ptG r2 with1 (nthW (wsOf r2) q1)).1 = ((cutB r2 0 ((nxG (nthW (wsOf r2) q1)).1.From)) ++ with1) ++ (cutB r2 ((nxG (nthW (wsOf r2) q1)).1.To) (r2.size : Int)))) ( some false
) ( j2
)
)
)
)
)
)
) ( grd (I64 (x3 + 1)) <| ag1 (x3 + 1)
)
) ( j1
)
def law07_WordNumbers_v (s1 : ByteArray) (k1 : Int) (with1 : ByteArray) : Option Bool := andThen (law07_wakes_v) fun (r1 : Bool) => bcond (!r1) ( some false
) ( joinK (fun (j1 : Option Bool) => andThen (law07_short_v s1) fun (r2 : ByteArray) => andThen (ref07_Words_v r2) fun (r3 : (List Gapi_Span)) => grd (I64 ((r3.length : Int) + 1)) <| grd ((IntKind.u64.wrap ((r3.length : Int) + 1)) ≠ 0) <| grd (I64 ((r3.length : Int) - 1)) <| loopG (fun _ => none) (law07_WordNumbers_s1 k1 with1 j1 r2 r3) fuel 0
) ( andThen (law07_wakes_v) fun (r4 : Bool) => some r4
)
)
set_option maxRecDepth 100000 in
set_option maxHeartbeats 4000000 in
theorem law07_WordNumbers_fn {s1 : ByteArray} {k1 : Int} {with1 : ByteArray} {r : Bool} (h : law07_WordNumbers_v s1 k1 with1 = some r) : FnP Try.prog 7 [.string s1, .int .i64 k1, .string with1] (.bool r) := by
 unfold law07_WordNumbers_v at h
 refine FnP.intro Try.func7 rfl Try.ntmps7 (by simp) ?_
 intro w0 K
 refine TC.seq (TC.region (TO.assign rfl (by decide) rfl (TO.nil (TX.next (TC.seq (TC.seq (TC.region ?_)))))))
 obtain ⟨r1, hq1, h⟩ := andE h
 refine TO.callP (v := .bool r1) (vs := []) rfl (by decide) rfl rfl rfl en_12 (law07_wakes_fn hq1) (TO.un rfl (by decide) rfl un_not (TO.nil (TX.next ?_)))
 refine TC.condB rfl (fun hb1 => ?_) (fun hb1 => ?_)
 ·
  have h := condT hb1 h
  refine TC.seq (TC.region (TO.assign rfl (by decide) rfl (TO.nil (TX.next (TC.ret (TX.thenRet ?_))))))
  cases h
  exact TX.fin (rs := [.tmp 6]) () (.inl rfl) Try.results7 (.cons (.tmp rfl) .nil) rfl Splits.nil
 ·
  have h := condF hb1 h
  refine TC.skip (TX.next ?_)
  obtain ⟨j1, hj1, h⟩ := joinE h
  refine TC.cutN (β := Unit) 2 rfl (fun b => j1 = some r) (fun b => []) (fun b => []) (fun b => []) (fun cut => ?_) ?_
  ·
   refine TC.seq (TC.region (TO.move rfl (by decide) rfl ?_))
   obtain ⟨r2, hq2, h⟩ := andE h
   refine TO.callP (v := .string r2) (vs := [.string s1]) rfl (by decide) rfl rfl rfl en_18 (law07_short_fn hq2) (TO.assign rfl (by decide) rfl (TO.nil (TX.next (TC.seq (TC.region (TO.move rfl (by decide) rfl ?_))))))
   obtain ⟨r3, hq3, h⟩ := andE h
   refine TO.call (vs := [.string r2]) rfl (by decide) rfl rfl rfl en_14 (ref07_Words_fn hq3) Splits.nil ?_
   rintro v1
   show TO _ _ _ _ _ _ _ _ _ _ [vec enc_Gapi_Span 34 2 v1 r3]
   refine TO.assign rfl (by decide) rfl (TO.nil (TX.next (cut (TC.seq (TC.region (TO.move rfl (by decide) rfl (TO.move rfl (by decide) rfl (TO.conv rfl (by decide) rfl (conv_wrap Try.underlying3 Try.underlying45) (TO.move rfl (by decide) rfl (TO.lenVec (k := 0) rfl (by decide) rfl rfl Try.underlying25 ?_))))))))))
   obtain ⟨hg1, h⟩ := grdE h
   refine TO.bin rfl (by decide) rfl rfl (bin_add (r := (r3.length : Int) + 1) (IntWalk.i64_in _ hg1)) (TO.conv rfl (by decide) rfl (conv_wrap Try.underlying3 Try.underlying45) ?_)
   obtain ⟨hg2, h⟩ := grdE h
   refine TO.bin rfl (by decide) rfl rfl (bin_rem hg2 rfl) (TO.conv rfl (by decide) rfl (conv_wrap Try.underlying45 Try.underlying3) (TO.move rfl (by decide) rfl (TO.lenVec (k := 0) rfl (by decide) rfl rfl Try.underlying25 ?_)))
   obtain ⟨hg3, h⟩ := grdE h
   refine TO.bin rfl (by decide) rfl rfl (bin_sub (r := (r3.length : Int) - 1) (IntWalk.i64_in _ hg3)) ?_
   refine TO.build (v := .agg #[.int .i64 k1, .int .i64 (IntKind.i64.wrap (Int.tmod (IntKind.u64.wrap k1) (IntKind.u64.wrap ((r3.length : Int) + 1)))), .int .i64 ((r3.length : Int) - 1)]) (ps := [(0, .tmp 20), (1, .tmp 28), (2, .tmp 31)]) rfl (by decide) rfl (fun _ => by kernel_rfl) ?_
   refine TO.move rfl (by decide) rfl (TO.nil (TX.next (TC.block ?_)))
   refine TC.loopD (β := Nat × Int) (fun b => loopG (fun _ => none) (law07_WordNumbers_s1 k1 with1 j1 r2 r3) b.1 b.2 = some r) (fun b => []) (fun b => [(0, .string r2), (2, .string with1), (7, v1), (32, .agg #[.int .i64 k1, .int .i64 (IntKind.i64.wrap (Int.tmod (IntKind.u64.wrap k1) (IntKind.u64.wrap ((r3.length : Int) + 1)))), .int .i64 ((r3.length : Int) - 1)]), (33, .int .i64 b.2)]) (fun b => [vec enc_Gapi_Span 34 2 v1 r3]) (fun b => b.1) (fuel, 0) h rfl (Sbs.cons rfl (Sbs.cons rfl (Sbs.cons rfl (Sbs.cons rfl (Sbs.cons rfl (Sbs.nil)))))) (Splits.of [0] (by as_aux_lemma => kernel_rfl) rfl) ?_
   rintro ⟨n1, x3⟩ h
   cases n1 with
   | zero => exact noneE h
   | succ n1 =>
    obtain ⟨ag1, hag1⟩ : ∃ ag, ag = loopG (fun _ => none) (law07_WordNumbers_s1 k1 with1 j1 r2 r3) n1 := ⟨_, rfl⟩
    have h : law07_WordNumbers_s1 k1 with1 j1 r2 r3 ag1 x3 = some r := by rw [hag1]; exact h
    unfold law07_WordNumbers_s1 at h
    show TC _ _ _ _ _ ([]) _ _ [(0, .string r2), (2, .string with1), (7, v1), (32, .agg #[.int .i64 k1, .int .i64 (IntKind.i64.wrap (Int.tmod (IntKind.u64.wrap k1) (IntKind.u64.wrap ((r3.length : Int) + 1)))), .int .i64 ((r3.length : Int) - 1)]), (33, .int .i64 x3)] [vec enc_Gapi_Span 34 2 v1 r3]
    refine TC.seq (TC.region (TO.bin rfl (by decide) rfl rfl bin_lss (TO.nil (TX.next (TC.seq ?_)))))
    refine TC.condB rfl (fun hb2 => ?_) (fun hb2 => ?_)
    ·
     have h := condT hb2 h
     refine TC.skip (TX.next ?_)
     obtain ⟨j2, hj2, h⟩ := joinE h
     refine TC.cutN (β := Unit) 0 rfl (fun b => j2 = some r) (fun b => []) (fun b => [(0, .string r2), (2, .string with1), (7, v1), (32, .agg #[.int .i64 k1, .int .i64 (IntKind.i64.wrap (Int.tmod (IntKind.u64.wrap k1) (IntKind.u64.wrap ((r3.length : Int) + 1)))), .int .i64 ((r3.length : Int) - 1)]), (33, .int .i64 x3)]) (fun b => [vec enc_Gapi_Span 34 2 v1 r3]) (fun cut => ?_) ?_
     ·
      refine cut (TC.block (TC.seq (TC.region ?_)))
      obtain ⟨q1, hq4, h⟩ := andE h
      refine TO.index (v := .int .i64 q1) rfl (by decide) rfl rfl (index_arr (enc := (encI (.i64))) (xs := ([k1, IntKind.i64.wrap (Int.tmod (IntKind.u64.wrap k1) (IntKind.u64.wrap ((r3.length : Int) + 1))), (r3.length : Int) - 1] : List Int)) (q := q1) Try.underlying48 sz_3 rfl encI_len hq4 (fun _ => part_arr (enc := (encI (.i64))) sc_3 encI_len rfl (getO_get hq4))) ?_
      refine TO.assign rfl (by decide) rfl (TO.nil (TX.next (TC.seq (TC.region (TO.move rfl (by decide) rfl (TO.move rfl (by decide) rfl ?_))))))
      obtain ⟨hg4, h⟩ := grdE h
      obtain ⟨hg5, h⟩ := grdE h
      refine TO.callP (v := .tuple #[.agg #[.int .i64 ((nxG (nthW (wsOf r2) q1)).1.From), .int .i64 ((nxG (nthW (wsOf r2) q1)).1.To)], .bool ((nxG (nthW (wsOf r2) q1)).2)]) (vs := [.string r2, .int .i64 q1]) rfl (by decide) rfl rfl rfl en_28 (wnth_c r2 hg4 q1 hg5) (TO.move rfl (by decide) rfl (TO.extract rfl (by decide) rfl rfl (TO.extract rfl (by decide) rfl rfl ?_)))
      refine TO.alloc zr_34 rfl (by decide) (fun b1 => ?_)
      refine TO.stores (k := 1) (vs := [.int .i64 ((nxG (nthW (wsOf r2) q1)).1.From), .int .i64 ((nxG (nthW (wsOf r2) q1)).1.To)]) (l' := [.int .i64 ((nxG (nthW (wsOf r2) q1)).1.From), .int .i64 ((nxG (nthW (wsOf r2) q1)).1.To)]) sz_34 rfl rfl rfl rfl rfl (show _ ≤ _ by simp) rfl rfl ?_
      show TO _ _ _ _ _ _ _ _ _ _ [vec enc_Gapi_Span 34 2 v1 r3, cells b1 [.int .i64 ((nxG (nthW (wsOf r2) q1)).1.From), .int .i64 ((nxG (nthW (wsOf r2) q1)).1.To)] 34]
      refine TO.assign rfl (by decide) rfl (TO.nil (TX.next (TC.seq (TC.region (TO.move rfl (by decide) rfl (TO.move rfl (by decide) rfl (TO.move rfl (by decide) rfl ?_)))))))
      obtain ⟨hg6, h⟩ := grdE h
      obtain ⟨hg7, h⟩ := grdE h
      obtain ⟨hg8, h⟩ := grdE h
      refine TO.callP (v := .tuple #[.string ((ptG r2 with1 (nthW (wsOf r2) q1)).1), .int .i64 ((ptG r2 with1 (nthW (wsOf r2) q1)).2)]) (vs := [.string r2, .int .i64 q1, .string with1]) rfl (by decide) rfl rfl rfl en_29 (wput_c r2 with1 hg6 hg7 q1 hg8) (TO.move rfl (by decide) rfl (TO.extract rfl (by decide) rfl rfl (TO.extract rfl (by decide) rfl rfl (TO.assign rfl (by decide) rfl (TO.assign rfl (by decide) rfl (TO.nil (TX.next (TC.seq (TC.seq (TC.region (TO.move rfl (by decide) rfl (TO.bin rfl (by decide) rfl rfl bin_lss (TO.move rfl (by decide) rfl ?_)))))))))))))
      refine TO.split (s := 51) rfl (fun hb3 => ?_) (fun hb3 => ?_)
      ·
       have h := condT hb3 h
       refine TO.skip rfl (by decide) (TO.skip rfl (by decide) (TO.skip rfl (by decide) (TO.skip rfl (by decide) (TO.pick (b := true) rfl (by decide) rfl rfl (TO.nil (TX.next (TC.condT rfl (TC.seq (TC.seq (TC.region (TO.move rfl (by decide) rfl (TO.move rfl (by decide) rfl ?_))))))))))))
       refine TO.split (s := 58) rfl (fun hb4 => ?_) (fun hb4 => ?_)
       ·
        have h := condT hb4 h
        refine TO.skip rfl (by decide) (TO.skip rfl (by decide) (TO.skip rfl (by decide) (TO.pick (b := true) rfl (by decide) rfl rfl (TO.move rfl (by decide) rfl (TO.skip rfl (by decide) (TO.skip rfl (by decide) (TO.pick (b := true) rfl (by decide) rfl rfl (TO.move rfl (by decide) rfl (TO.skip rfl (by decide) (TO.skip rfl (by decide) (TO.pick (b := true) rfl (by decide) rfl rfl (TO.nil (TX.next ?_)))))))))))))
        refine TC.condT rfl (TC.seq (TC.region (TO.assign rfl (by decide) rfl (TO.nil (TX.next (TC.ret (TX.thenRet (TX.thenRet (TX.blockRet (TX.thenRet (TX.thenRet (TX.blockRet (TX.thenRet ?_)))))))))))))
        cases h
        exact TX.fin (rs := [.tmp 6]) () (.inl rfl) Try.results7 (.cons (.tmp rfl) .nil) rfl Splits.nil
       ·
        have h := condF hb4 h
        refine TO.loads (k := 1) (cs := [.int .i64 ((nxG (nthW (wsOf r2) q1)).1.From), .int .i64 ((nxG (nthW (wsOf r2) q1)).1.To)]) rw_34 rfl (by decide) rfl rfl rfl rfl ?_
        refine TO.build (v := .agg #[.int .i64 0, .int .i64 0]) (ps := []) rfl (by decide) rfl (fun _ => by kernel_rfl) ?_
        refine TO.bin rfl (by decide) rfl rfl (bin_neq_34 ((nxG (nthW (wsOf r2) q1)).1) (⟨0, 0⟩ : Gapi_Span)) (TO.pick (b := false) rfl (by decide) rfl rfl (TO.move rfl (by decide) rfl ?_))
        refine TO.split (s := 63) rfl (fun hb5 => ?_) (fun hb5 => ?_)
        ·
         have h := condT hb5 h
         refine TO.skip rfl (by decide) (TO.skip rfl (by decide) (TO.pick (b := true) rfl (by decide) rfl rfl (TO.move rfl (by decide) rfl (TO.skip rfl (by decide) (TO.skip rfl (by decide) (TO.pick (b := true) rfl (by decide) rfl rfl (TO.nil (TX.next (TC.condT rfl (TC.seq (TC.region (TO.assign rfl (by decide) rfl (TO.nil ?_)))))))))))))
         refine TX.next (TC.ret (TX.thenRet (TX.thenRet (TX.blockRet (TX.thenRet (TX.thenRet (TX.blockRet (TX.thenRet ?_))))))))
         cases h
         exact TX.fin (rs := [.tmp 6]) () (.inl rfl) Try.results7 (.cons (.tmp rfl) .nil) rfl Splits.nil
        ·
         have h := condF hb5 h
         refine TO.move rfl (by decide) rfl (TO.bin rfl (by decide) rfl rfl bin_neq (TO.pick (b := false) rfl (by decide) rfl rfl (TO.move rfl (by decide) rfl ?_)))
         refine TO.split (s := 67) rfl (fun hb6 => ?_) (fun hb6 => ?_)
         ·
          have h := condT hb6 h
          refine TO.skip rfl (by decide) (TO.skip rfl (by decide) (TO.pick (b := true) rfl (by decide) rfl rfl (TO.nil (TX.next (TC.condT rfl (TC.seq (TC.region (TO.assign rfl (by decide) rfl (TO.nil (TX.next (TC.ret (TX.thenRet (TX.thenRet ?_)))))))))))))
          refine TX.blockRet (TX.thenRet (TX.thenRet (TX.blockRet (TX.thenRet ?_))))
          cases h
          exact TX.fin (rs := [.tmp 6]) () (.inl rfl) Try.results7 (.cons (.tmp rfl) .nil) rfl Splits.nil
         ·
          have h := condF hb6 h
          refine TO.move rfl (by decide) rfl (TO.bin rfl (by decide) rfl rfl bin_sneq (TO.pick (b := false) rfl (by decide) rfl rfl (TO.nil (TX.next ?_))))
          refine TC.condB rfl (fun hb7 => ?_) (fun hb7 => ?_)
          ·
           have h := condT hb7 h
           refine TC.seq (TC.region (TO.assign rfl (by decide) rfl (TO.nil (TX.next (TC.ret (TX.thenRet (TX.thenRet (TX.blockRet (TX.thenRet (TX.thenRet (TX.blockRet (TX.thenRet ?_))))))))))))
           cases h
           exact TX.fin (rs := [.tmp 6]) () (.inl rfl) Try.results7 (.cons (.tmp rfl) .nil) rfl Splits.nil
          ·
           have h := condF hb7 h
           refine TC.skip (TX.next (TC.exit (TX.thenExit (TX.blockHere ?_))))
           exact TX.meetD () h rfl (Sbs.cons rfl (Sbs.cons rfl (Sbs.cons rfl (Sbs.cons rfl (Sbs.cons rfl (Sbs.nil)))))) (Splits.of [0] (by as_aux_lemma => kernel_rfl) rfl)
      ·
       have h := condF hb3 h
       refine TO.move rfl (by decide) rfl (TO.move rfl (by decide) rfl (TO.lenVec (k := 0) rfl (by decide) rfl rfl Try.underlying25 (TO.bin rfl (by decide) rfl rfl bin_geq (TO.pick (b := false) rfl (by decide) rfl rfl (TO.nil (TX.next ?_))))))
       refine TC.condB rfl (fun hb8 => ?_) (fun hb8 => ?_)
       ·
        have h := condT hb8 h
        refine TC.seq (TC.seq (TC.region (TO.move rfl (by decide) rfl (TO.move rfl (by decide) rfl ?_))))
        refine TO.split (s := 58) rfl (fun hb9 => ?_) (fun hb9 => ?_)
        ·
         have h := condT hb9 h
         refine TO.skip rfl (by decide) (TO.skip rfl (by decide) (TO.skip rfl (by decide) (TO.pick (b := true) rfl (by decide) rfl rfl (TO.move rfl (by decide) rfl (TO.skip rfl (by decide) (TO.skip rfl (by decide) (TO.pick (b := true) rfl (by decide) rfl rfl (TO.move rfl (by decide) rfl (TO.skip rfl (by decide) (TO.skip rfl (by decide) (TO.pick (b := true) rfl (by decide) rfl rfl (TO.nil (TX.next ?_)))))))))))))
         refine TC.condT rfl (TC.seq (TC.region (TO.assign rfl (by decide) rfl (TO.nil (TX.next (TC.ret (TX.thenRet (TX.thenRet (TX.blockRet (TX.thenRet (TX.thenRet (TX.blockRet (TX.thenRet ?_)))))))))))))
         cases h
         exact TX.fin (rs := [.tmp 6]) () (.inl rfl) Try.results7 (.cons (.tmp rfl) .nil) rfl Splits.nil
        ·
         have h := condF hb9 h
         refine TO.loads (k := 1) (cs := [.int .i64 ((nxG (nthW (wsOf r2) q1)).1.From), .int .i64 ((nxG (nthW (wsOf r2) q1)).1.To)]) rw_34 rfl (by decide) rfl rfl rfl rfl ?_
         refine TO.build (v := .agg #[.int .i64 0, .int .i64 0]) (ps := []) rfl (by decide) rfl (fun _ => by kernel_rfl) ?_
         refine TO.bin rfl (by decide) rfl rfl (bin_neq_34 ((nxG (nthW (wsOf r2) q1)).1) (⟨0, 0⟩ : Gapi_Span)) (TO.pick (b := false) rfl (by decide) rfl rfl (TO.move rfl (by decide) rfl ?_))
         refine TO.split (s := 63) rfl (fun hb10 => ?_) (fun hb10 => ?_)
         ·
          have h := condT hb10 h
          refine TO.skip rfl (by decide) (TO.skip rfl (by decide) (TO.pick (b := true) rfl (by decide) rfl rfl (TO.move rfl (by decide) rfl (TO.skip rfl (by decide) (TO.skip rfl (by decide) (TO.pick (b := true) rfl (by decide) rfl rfl (TO.nil (TX.next (TC.condT rfl (TC.seq (TC.region (TO.assign rfl (by decide) rfl (TO.nil ?_)))))))))))))
          refine TX.next (TC.ret (TX.thenRet (TX.thenRet (TX.blockRet (TX.thenRet (TX.thenRet (TX.blockRet (TX.thenRet ?_))))))))
          cases h
          exact TX.fin (rs := [.tmp 6]) () (.inl rfl) Try.results7 (.cons (.tmp rfl) .nil) rfl Splits.nil
         ·
          have h := condF hb10 h
          refine TO.move rfl (by decide) rfl (TO.bin rfl (by decide) rfl rfl bin_neq (TO.pick (b := false) rfl (by decide) rfl rfl (TO.move rfl (by decide) rfl ?_)))
          refine TO.split (s := 67) rfl (fun hb11 => ?_) (fun hb11 => ?_)
          ·
           have h := condT hb11 h
           refine TO.skip rfl (by decide) (TO.skip rfl (by decide) (TO.pick (b := true) rfl (by decide) rfl rfl (TO.nil (TX.next (TC.condT rfl (TC.seq (TC.region (TO.assign rfl (by decide) rfl (TO.nil (TX.next (TC.ret (TX.thenRet (TX.thenRet ?_)))))))))))))
           refine TX.blockRet (TX.thenRet (TX.thenRet (TX.blockRet (TX.thenRet ?_))))
           cases h
           exact TX.fin (rs := [.tmp 6]) () (.inl rfl) Try.results7 (.cons (.tmp rfl) .nil) rfl Splits.nil
          ·
           have h := condF hb11 h
           refine TO.move rfl (by decide) rfl (TO.bin rfl (by decide) rfl rfl bin_sneq (TO.pick (b := false) rfl (by decide) rfl rfl (TO.nil (TX.next ?_))))
           refine TC.condB rfl (fun hb12 => ?_) (fun hb12 => ?_)
           ·
            have h := condT hb12 h
            refine TC.seq (TC.region (TO.assign rfl (by decide) rfl (TO.nil (TX.next (TC.ret (TX.thenRet (TX.thenRet (TX.blockRet (TX.thenRet (TX.thenRet (TX.blockRet (TX.thenRet ?_))))))))))))
            cases h
            exact TX.fin (rs := [.tmp 6]) () (.inl rfl) Try.results7 (.cons (.tmp rfl) .nil) rfl Splits.nil
           ·
            have h := condF hb12 h
            refine TC.skip (TX.next (TC.exit (TX.thenExit (TX.blockHere ?_))))
            exact TX.meetD () h rfl (Sbs.cons rfl (Sbs.cons rfl (Sbs.cons rfl (Sbs.cons rfl (Sbs.cons rfl (Sbs.nil)))))) (Splits.of [0] (by as_aux_lemma => kernel_rfl) rfl)
       ·
        have h := condF hb8 h
        refine TC.skip (TX.next (TC.seq ?_))
        refine TC.bySplit (b := !((nxG (nthW (wsOf r2) q1)).2)) (fun hb13 => ?_) (fun hb13 => ?_)
        ·
         have h := condT hb13 h
         refine TC.drawN 27 [(0, 71, .bool ((nxG (nthW (wsOf r2) q1)).2)), (1, 72, .bool true), (2, 73, .bool true), (3, 74, undef), (4, 75, undef), (5, 76, undef), (6, 77, undef), (7, 78, undef), (8, 79, undef), (9, 80, .bool true), (10, 81, .bool true), (11, 82, undef), (12, 83, undef), (13, 84, .bool true), (14, 85, .bool true), (15, 86, undef), (16, 87, undef), (17, 88, undef), (18, 89, undef), (19, 90, undef), (20, 91, undef), (21, 92, undef), (22, 93, undef), (23, 94, undef), (24, 95, undef), (25, 96, undef), (26, 97, undef)] mixed (by as_aux_lemma => kernel_rfl) (by as_aux_lemma => kernel_rfl) (by decide) (by rfl) (by as_aux_lemma => kernel_rfl) (by as_aux_lemma => kernel_rfl) (DrawPre.cons ?_ (DrawPre.cons ?_ (DrawPre.cons ?_ (DrawPre.cons ?_ (DrawPre.cons ?_ (DrawPre.cons ?_ (DrawPre.cons ?_ (DrawPre.cons ?_ (DrawPre.cons ?_ (DrawPre.cons ?_ (DrawPre.cons ?_ (DrawPre.cons ?_ (DrawPre.cons ?_ (DrawPre.cons ?_ (DrawPre.cons ?_ (DrawPre.cons ?_ (DrawPre.cons ?_ (DrawPre.cons ?_ (DrawPre.cons ?_ (DrawPre.cons ?_ (DrawPre.cons ?_ (DrawPre.cons ?_ (DrawPre.cons ?_ (DrawPre.cons ?_ (DrawPre.cons ?_ (DrawPre.cons ?_ (DrawPre.cons ?_ DrawPre.nil))))))))))))))))))))))))))) ?_
         ·
          intro D hn hd hcl hu hi
          refine TO.move rfl (by decide) (dl_old (by rfl) rfl) ?_
          exact TX.quiet 0 hu hi rfl
         ·
          intro D hn hd hcl hu hi
          refine TO.un rfl (by decide) (dl_lookup (m := 0) hu rfl (hd 0 (by decide))) un_not (TO.rewH (show Value.bool (!((nxG (nthW (wsOf r2) q1)).2)) = Value.bool true from congrArg Value.bool hb13) ?_)
          exact TX.quiet 1 hu hi rfl
         ·
          intro D hn hd hcl hu hi
          refine TO.move rfl (by decide) (dl_lookup (m := 1) hu rfl (hd 1 (by decide))) ?_
          exact TX.quiet 2 hu hi rfl
         ·
          intro D hn hd hcl hu hi
          refine TO.skip (gd_F rfl (dl_lookup (m := 2) hu rfl (hd 2 (by decide)))) (by decide) ?_
          exact TX.quiet 3 hu hi rfl
         ·
          intro D hn hd hcl hu hi
          refine TO.skip (gd_F rfl (dl_lookup (m := 2) hu rfl (hd 2 (by decide)))) (by decide) ?_
          exact TX.quiet 4 hu hi rfl
         ·
          intro D hn hd hcl hu hi
          refine TO.skip (gd_F rfl (dl_lookup (m := 2) hu rfl (hd 2 (by decide)))) (by decide) ?_
          exact TX.quiet 5 hu hi rfl
         ·
          intro D hn hd hcl hu hi
          refine TO.skip (gd_F rfl (dl_lookup (m := 2) hu rfl (hd 2 (by decide)))) (by decide) ?_
          exact TX.quiet 6 hu hi rfl
         ·
          intro D hn hd hcl hu hi
          refine TO.skip (gd_F rfl (dl_lookup (m := 2) hu rfl (hd 2 (by decide)))) (by decide) ?_
          exact TX.quiet 7 hu hi rfl
         ·
          intro D hn hd hcl hu hi
          refine TO.skip (gd_F rfl (dl_lookup (m := 2) hu rfl (hd 2 (by decide)))) (by decide) ?_
          exact TX.quiet 8 hu hi rfl
         ·
          intro D hn hd hcl hu hi
          refine TO.pick (b := true) rfl (by decide) (dl_lookup (m := 2) hu rfl (hd 2 (by decide))) rfl ?_
          exact TX.quiet 9 hu hi rfl
         ·
          intro D hn hd hcl hu hi
          refine TO.move rfl (by decide) (dl_lookup (m := 9) hu rfl (hd 9 (by decide))) ?_
          exact TX.quiet 10 hu hi rfl
         ·
          intro D hn hd hcl hu hi
          refine TO.skip (gd_F rfl (dl_lookup (m := 10) hu rfl (hd 10 (by decide)))) (by decide) ?_
          exact TX.quiet 11 hu hi rfl
         ·
          intro D hn hd hcl hu hi
          refine TO.skip (gd_F rfl (dl_lookup (m := 10) hu rfl (hd 10 (by decide)))) (by decide) ?_
          exact TX.quiet 12 hu hi rfl
         ·
          intro D hn hd hcl hu hi
          refine TO.pick (b := true) rfl (by decide) (dl_lookup (m := 10) hu rfl (hd 10 (by decide))) rfl ?_
          exact TX.quiet 13 hu hi rfl
         ·
          intro D hn hd hcl hu hi
          refine TO.move rfl (by decide) (dl_lookup (m := 13) hu rfl (hd 13 (by decide))) ?_
          exact TX.quiet 14 hu hi rfl
         ·
          intro D hn hd hcl hu hi
          refine TO.skip (gd_F rfl (dl_lookup (m := 14) hu rfl (hd 14 (by decide)))) (by decide) ?_
          exact TX.quiet 15 hu hi rfl
         ·
          intro D hn hd hcl hu hi
          refine TO.skip (gd_F rfl (dl_lookup (m := 14) hu rfl (hd 14 (by decide)))) (by decide) ?_
          exact TX.quiet 16 hu hi rfl
         ·
          intro D hn hd hcl hu hi
          refine TO.skip (gd_F rfl (dl_lookup (m := 14) hu rfl (hd 14 (by decide)))) (by decide) ?_
          exact TX.quiet 17 hu hi rfl
         ·
          intro D hn hd hcl hu hi
          refine TO.skip (gd_F rfl (dl_lookup (m := 14) hu rfl (hd 14 (by decide)))) (by decide) ?_
          exact TX.quiet 18 hu hi rfl
         ·
          intro D hn hd hcl hu hi
          refine TO.skip (gd_F rfl (dl_lookup (m := 14) hu rfl (hd 14 (by decide)))) (by decide) ?_
          exact TX.quiet 19 hu hi rfl
         ·
          intro D hn hd hcl hu hi
          refine TO.skip (gd_F rfl (dl_lookup (m := 14) hu rfl (hd 14 (by decide)))) (by decide) ?_
          exact TX.quiet 20 hu hi rfl
         ·
          intro D hn hd hcl hu hi
          refine TO.skip (gd_F rfl (dl_lookup (m := 14) hu rfl (hd 14 (by decide)))) (by decide) ?_
          exact TX.quiet 21 hu hi rfl
         ·
          intro D hn hd hcl hu hi
          refine TO.skip (gd_F rfl (dl_lookup (m := 14) hu rfl (hd 14 (by decide)))) (by decide) ?_
          exact TX.quiet 22 hu hi rfl
         ·
          intro D hn hd hcl hu hi
          refine TO.skip (gd_F rfl (dl_lookup (m := 14) hu rfl (hd 14 (by decide)))) (by decide) ?_
          exact TX.quiet 23 hu hi rfl
         ·
          intro D hn hd hcl hu hi
          refine TO.skip (gd_F rfl (dl_lookup (m := 14) hu rfl (hd 14 (by decide)))) (by decide) ?_
          exact TX.quiet 24 hu hi rfl
         ·
          intro D hn hd hcl hu hi
          refine TO.skip (gd_F rfl (dl_lookup (m := 14) hu rfl (hd 14 (by decide)))) (by decide) ?_
          exact TX.quiet 25 hu hi rfl
         ·
          intro D hn hd hcl hu hi
          refine TO.skip (gd_F rfl (dl_lookup (m := 14) hu rfl (hd 14 (by decide)))) (by decide) ?_
          exact TX.quiet 26 hu hi rfl
         refine TO.skip rfl (by decide) (TO.pick (b := true) rfl (by decide) rfl rfl (TO.nil (TX.next (TC.condT rfl (TC.seq (TC.region (TO.assign rfl (by decide) rfl (TO.nil (TX.next (TC.ret (TX.blockRet (TX.thenRet (TX.thenRet ?_)))))))))))))
         refine TX.blockRet (TX.thenRet ?_)
         cases h
         exact TX.fin (rs := [.tmp 6]) () (.inl rfl) Try.results7 (.cons (.tmp rfl) .nil) rfl Splits.nil
        ·
         have h := condF hb13 h
         obtain ⟨q2, hq5, h⟩ := andE h
         refine TC.bySplit (b := !(eq_Gapi_Span ((nxG (nthW (wsOf r2) q1)).1) q2)) (fun hb14 => ?_) (fun hb14 => ?_)
         ·
          have h := condT hb14 h
          refine TC.drawN 27 [(0, 71, .bool ((nxG (nthW (wsOf r2) q1)).2)), (1, 72, .bool false), (2, 73, .bool false), (3, 74, .agg #[.int .i64 ((nxG (nthW (wsOf r2) q1)).1.From), .int .i64 ((nxG (nthW (wsOf r2) q1)).1.To)]), (4, 75, v1), (5, 76, .int .i64 q1), (6, 77, .pointer (some ⟨vblk v1, (q1 : Int).toNat * 2, none⟩)), (7, 78, .agg #[.int .i64 q2.From, .int .i64 q2.To]), (8, 79, .bool true), (9, 80, .bool true), (10, 81, .bool true), (11, 82, undef), (12, 83, undef), (13, 84, .bool true), (14, 85, .bool true), (15, 86, undef), (16, 87, undef), (17, 88, undef), (18, 89, undef), (19, 90, undef), (20, 91, undef), (21, 92, undef), (22, 93, undef), (23, 94, undef), (24, 95, undef), (25, 96, undef), (26, 97, undef)] mixed (by as_aux_lemma => kernel_rfl) (by as_aux_lemma => kernel_rfl) (by decide) (by rfl) (by as_aux_lemma => kernel_rfl) (by as_aux_lemma => kernel_rfl) (DrawPre.cons ?_ (DrawPre.cons ?_ (DrawPre.cons ?_ (DrawPre.cons ?_ (DrawPre.cons ?_ (DrawPre.cons ?_ (DrawPre.cons ?_ (DrawPre.cons ?_ (DrawPre.cons ?_ (DrawPre.cons ?_ (DrawPre.cons ?_ (DrawPre.cons ?_ (DrawPre.cons ?_ (DrawPre.cons ?_ (DrawPre.cons ?_ (DrawPre.cons ?_ (DrawPre.cons ?_ (DrawPre.cons ?_ (DrawPre.cons ?_ (DrawPre.cons ?_ (DrawPre.cons ?_ (DrawPre.cons ?_ (DrawPre.cons ?_ (DrawPre.cons ?_ (DrawPre.cons ?_ (DrawPre.cons ?_ (DrawPre.cons ?_ DrawPre.nil))))))))))))))))))))))))))) ?_
          ·
           intro D hn hd hcl hu hi
           refine TO.move rfl (by decide) (dl_old (by rfl) rfl) ?_
           exact TX.quiet 0 hu hi rfl
          ·
           intro D hn hd hcl hu hi
           refine TO.un rfl (by decide) (dl_lookup (m := 0) hu rfl (hd 0 (by decide))) un_not (TO.rewH (show Value.bool (!((nxG (nthW (wsOf r2) q1)).2)) = Value.bool false from congrArg Value.bool hb13) ?_)
           exact TX.quiet 1 hu hi rfl
          ·
           intro D hn hd hcl hu hi
           refine TO.move rfl (by decide) (dl_lookup (m := 1) hu rfl (hd 1 (by decide))) ?_
           exact TX.quiet 2 hu hi rfl
          ·
           intro D hn hd hcl hu hi
           refine TO.loads (k := 1) (cs := [.int .i64 ((nxG (nthW (wsOf r2) q1)).1.From), .int .i64 ((nxG (nthW (wsOf r2) q1)).1.To)]) rw_34 (gd_T rfl (dl_lookup (m := 2) hu rfl (hd 2 (by decide)))) (by decide) (dl_old (by rfl) rfl) rfl rfl rfl ?_
           exact TX.quiet 3 hu hi rfl
          ·
           intro D hn hd hcl hu hi
           refine TO.move (gd_T rfl (dl_lookup (m := 2) hu rfl (hd 2 (by decide)))) (by decide) (dl_old (by rfl) rfl) ?_
           exact TX.quiet 4 hu hi rfl
          ·
           intro D hn hd hcl hu hi
           refine TO.move (gd_T rfl (dl_lookup (m := 2) hu rfl (hd 2 (by decide)))) (by decide) (dl_old (by rfl) rfl) ?_
           exact TX.quiet 5 hu hi rfl
          ·
           intro D hn hd hcl hu hi
           refine TO.indexVecI (k := 0) hq5 Try.underlying25 sz_34 (gd_T rfl (dl_lookup (m := 2) hu rfl (hd 2 (by decide)))) (by decide) (dl_lookup (m := 4) hu rfl (hd 4 (by decide))) (dl_lookup (m := 5) hu rfl (hd 5 (by decide))) rfl rfl ?_
           exact TX.quiet 6 hu hi rfl
          ·
           intro D hn hd hcl hu hi
           refine TO.loadsVec (i := (q1 : Int).toNat) (j := 0) (k := 0) (q := q2) (cs := [.int .i64 q2.From, .int .i64 q2.To]) rw_34 enc_Gapi_Span_len (gd_T rfl (dl_lookup (m := 2) hu rfl (hd 2 (by decide)))) (by decide) (dl_lookup (m := 6) hu rfl (hd 6 (by decide))) rfl (getO_get hq5) rfl rfl rfl ?_
           exact TX.quiet 7 hu hi rfl
          ·
           intro D hn hd hcl hu hi
           refine TO.bin (gd_T rfl (dl_lookup (m := 2) hu rfl (hd 2 (by decide)))) (by decide) (dl_lookup (m := 3) hu rfl (hd 3 (by decide))) (dl_lookup (m := 7) hu rfl (hd 7 (by decide))) (bin_neq_34 ((nxG (nthW (wsOf r2) q1)).1) q2) (TO.rewH (show Value.bool (!(eq_Gapi_Span ((nxG (nthW (wsOf r2) q1)).1) q2)) = Value.bool true from congrArg Value.bool hb14) ?_)
           exact TX.quiet 8 hu hi rfl
          ·
           intro D hn hd hcl hu hi
           refine TO.pick (b := false) rfl (by decide) (dl_lookup (m := 2) hu rfl (hd 2 (by decide))) (dl_lookup (m := 8) hu rfl (hd 8 (by decide))) ?_
           exact TX.quiet 9 hu hi rfl
          ·
           intro D hn hd hcl hu hi
           refine TO.move rfl (by decide) (dl_lookup (m := 9) hu rfl (hd 9 (by decide))) ?_
           exact TX.quiet 10 hu hi rfl
          ·
           intro D hn hd hcl hu hi
           refine TO.skip (gd_F rfl (dl_lookup (m := 10) hu rfl (hd 10 (by decide)))) (by decide) ?_
           exact TX.quiet 11 hu hi rfl
          ·
           intro D hn hd hcl hu hi
           refine TO.skip (gd_F rfl (dl_lookup (m := 10) hu rfl (hd 10 (by decide)))) (by decide) ?_
           exact TX.quiet 12 hu hi rfl
          ·
           intro D hn hd hcl hu hi
           refine TO.pick (b := true) rfl (by decide) (dl_lookup (m := 10) hu rfl (hd 10 (by decide))) rfl ?_
           exact TX.quiet 13 hu hi rfl
          ·
           intro D hn hd hcl hu hi
           refine TO.move rfl (by decide) (dl_lookup (m := 13) hu rfl (hd 13 (by decide))) ?_
           exact TX.quiet 14 hu hi rfl
          ·
           intro D hn hd hcl hu hi
           refine TO.skip (gd_F rfl (dl_lookup (m := 14) hu rfl (hd 14 (by decide)))) (by decide) ?_
           exact TX.quiet 15 hu hi rfl
          ·
           intro D hn hd hcl hu hi
           refine TO.skip (gd_F rfl (dl_lookup (m := 14) hu rfl (hd 14 (by decide)))) (by decide) ?_
           exact TX.quiet 16 hu hi rfl
          ·
           intro D hn hd hcl hu hi
           refine TO.skip (gd_F rfl (dl_lookup (m := 14) hu rfl (hd 14 (by decide)))) (by decide) ?_
           exact TX.quiet 17 hu hi rfl
          ·
           intro D hn hd hcl hu hi
           refine TO.skip (gd_F rfl (dl_lookup (m := 14) hu rfl (hd 14 (by decide)))) (by decide) ?_
           exact TX.quiet 18 hu hi rfl
          ·
           intro D hn hd hcl hu hi
           refine TO.skip (gd_F rfl (dl_lookup (m := 14) hu rfl (hd 14 (by decide)))) (by decide) ?_
           exact TX.quiet 19 hu hi rfl
          ·
           intro D hn hd hcl hu hi
           refine TO.skip (gd_F rfl (dl_lookup (m := 14) hu rfl (hd 14 (by decide)))) (by decide) ?_
           exact TX.quiet 20 hu hi rfl
          ·
           intro D hn hd hcl hu hi
           refine TO.skip (gd_F rfl (dl_lookup (m := 14) hu rfl (hd 14 (by decide)))) (by decide) ?_
           exact TX.quiet 21 hu hi rfl
          ·
           intro D hn hd hcl hu hi
           refine TO.skip (gd_F rfl (dl_lookup (m := 14) hu rfl (hd 14 (by decide)))) (by decide) ?_
           exact TX.quiet 22 hu hi rfl
          ·
           intro D hn hd hcl hu hi
           refine TO.skip (gd_F rfl (dl_lookup (m := 14) hu rfl (hd 14 (by decide)))) (by decide) ?_
           exact TX.quiet 23 hu hi rfl
          ·
           intro D hn hd hcl hu hi
           refine TO.skip (gd_F rfl (dl_lookup (m := 14) hu rfl (hd 14 (by decide)))) (by decide) ?_
           exact TX.quiet 24 hu hi rfl
          ·
           intro D hn hd hcl hu hi
           refine TO.skip (gd_F rfl (dl_lookup (m := 14) hu rfl (hd 14 (by decide)))) (by decide) ?_
           exact TX.quiet 25 hu hi rfl
          ·
           intro D hn hd hcl hu hi
           refine TO.skip (gd_F rfl (dl_lookup (m := 14) hu rfl (hd 14 (by decide)))) (by decide) ?_
           exact TX.quiet 26 hu hi rfl
          refine TO.skip rfl (by decide) (TO.pick (b := true) rfl (by decide) rfl rfl (TO.nil (TX.next (TC.condT rfl (TC.seq (TC.region (TO.assign rfl (by decide) rfl (TO.nil (TX.next (TC.ret (TX.blockRet (TX.thenRet (TX.thenRet ?_)))))))))))))
          refine TX.blockRet (TX.thenRet ?_)
          cases h
          exact TX.fin (rs := [.tmp 6]) () (.inl rfl) Try.results7 (.cons (.tmp rfl) .nil) rfl Splits.nil
         ·
          have h := condF hb14 h
          refine TC.bySplit (b := (((ptG r2 with1 (nthW (wsOf r2) q1)).2) : Int) != 0) (fun hb15 => ?_) (fun hb15 => ?_)
          ·
           have h := condT hb15 h
           refine TC.drawN 27 [(0, 71, .bool ((nxG (nthW (wsOf r2) q1)).2)), (1, 72, .bool false), (2, 73, .bool false), (3, 74, .agg #[.int .i64 ((nxG (nthW (wsOf r2) q1)).1.From), .int .i64 ((nxG (nthW (wsOf r2) q1)).1.To)]), (4, 75, v1), (5, 76, .int .i64 q1), (6, 77, .pointer (some ⟨vblk v1, (q1 : Int).toNat * 2, none⟩)), (7, 78, .agg #[.int .i64 q2.From, .int .i64 q2.To]), (8, 79, .bool false), (9, 80, .bool false), (10, 81, .bool false), (11, 82, .int .i64 ((ptG r2 with1 (nthW (wsOf r2) q1)).2)), (12, 83, .bool true), (13, 84, .bool true), (14, 85, .bool true), (15, 86, undef), (16, 87, undef), (17, 88, undef), (18, 89, undef), (19, 90, undef), (20, 91, undef), (21, 92, undef), (22, 93, undef), (23, 94, undef), (24, 95, undef), (25, 96, undef), (26, 97, undef)] mixed (by as_aux_lemma => kernel_rfl) (by as_aux_lemma => kernel_rfl) (by decide) (by rfl) (by as_aux_lemma => kernel_rfl) (by as_aux_lemma => kernel_rfl) (DrawPre.cons ?_ (DrawPre.cons ?_ (DrawPre.cons ?_ (DrawPre.cons ?_ (DrawPre.cons ?_ (DrawPre.cons ?_ (DrawPre.cons ?_ (DrawPre.cons ?_ (DrawPre.cons ?_ (DrawPre.cons ?_ (DrawPre.cons ?_ (DrawPre.cons ?_ (DrawPre.cons ?_ (DrawPre.cons ?_ (DrawPre.cons ?_ (DrawPre.cons ?_ (DrawPre.cons ?_ (DrawPre.cons ?_ (DrawPre.cons ?_ (DrawPre.cons ?_ (DrawPre.cons ?_ (DrawPre.cons ?_ (DrawPre.cons ?_ (DrawPre.cons ?_ (DrawPre.cons ?_ (DrawPre.cons ?_ (DrawPre.cons ?_ DrawPre.nil))))))))))))))))))))))))))) ?_
           ·
            intro D hn hd hcl hu hi
            refine TO.move rfl (by decide) (dl_old (by rfl) rfl) ?_
            exact TX.quiet 0 hu hi rfl
           ·
            intro D hn hd hcl hu hi
            refine TO.un rfl (by decide) (dl_lookup (m := 0) hu rfl (hd 0 (by decide))) un_not (TO.rewH (show Value.bool (!((nxG (nthW (wsOf r2) q1)).2)) = Value.bool false from congrArg Value.bool hb13) ?_)
            exact TX.quiet 1 hu hi rfl
           ·
            intro D hn hd hcl hu hi
            refine TO.move rfl (by decide) (dl_lookup (m := 1) hu rfl (hd 1 (by decide))) ?_
            exact TX.quiet 2 hu hi rfl
           ·
            intro D hn hd hcl hu hi
            refine TO.loads (k := 1) (cs := [.int .i64 ((nxG (nthW (wsOf r2) q1)).1.From), .int .i64 ((nxG (nthW (wsOf r2) q1)).1.To)]) rw_34 (gd_T rfl (dl_lookup (m := 2) hu rfl (hd 2 (by decide)))) (by decide) (dl_old (by rfl) rfl) rfl rfl rfl ?_
            exact TX.quiet 3 hu hi rfl
           ·
            intro D hn hd hcl hu hi
            refine TO.move (gd_T rfl (dl_lookup (m := 2) hu rfl (hd 2 (by decide)))) (by decide) (dl_old (by rfl) rfl) ?_
            exact TX.quiet 4 hu hi rfl
           ·
            intro D hn hd hcl hu hi
            refine TO.move (gd_T rfl (dl_lookup (m := 2) hu rfl (hd 2 (by decide)))) (by decide) (dl_old (by rfl) rfl) ?_
            exact TX.quiet 5 hu hi rfl
           ·
            intro D hn hd hcl hu hi
            refine TO.indexVecI (k := 0) hq5 Try.underlying25 sz_34 (gd_T rfl (dl_lookup (m := 2) hu rfl (hd 2 (by decide)))) (by decide) (dl_lookup (m := 4) hu rfl (hd 4 (by decide))) (dl_lookup (m := 5) hu rfl (hd 5 (by decide))) rfl rfl ?_
            exact TX.quiet 6 hu hi rfl
           ·
            intro D hn hd hcl hu hi
            refine TO.loadsVec (i := (q1 : Int).toNat) (j := 0) (k := 0) (q := q2) (cs := [.int .i64 q2.From, .int .i64 q2.To]) rw_34 enc_Gapi_Span_len (gd_T rfl (dl_lookup (m := 2) hu rfl (hd 2 (by decide)))) (by decide) (dl_lookup (m := 6) hu rfl (hd 6 (by decide))) rfl (getO_get hq5) rfl rfl rfl ?_
            exact TX.quiet 7 hu hi rfl
           ·
            intro D hn hd hcl hu hi
            refine TO.bin (gd_T rfl (dl_lookup (m := 2) hu rfl (hd 2 (by decide)))) (by decide) (dl_lookup (m := 3) hu rfl (hd 3 (by decide))) (dl_lookup (m := 7) hu rfl (hd 7 (by decide))) (bin_neq_34 ((nxG (nthW (wsOf r2) q1)).1) q2) (TO.rewH (show Value.bool (!(eq_Gapi_Span ((nxG (nthW (wsOf r2) q1)).1) q2)) = Value.bool false from congrArg Value.bool hb14) ?_)
            exact TX.quiet 8 hu hi rfl
           ·
            intro D hn hd hcl hu hi
            refine TO.pick (b := false) rfl (by decide) (dl_lookup (m := 2) hu rfl (hd 2 (by decide))) (dl_lookup (m := 8) hu rfl (hd 8 (by decide))) ?_
            exact TX.quiet 9 hu hi rfl
           ·
            intro D hn hd hcl hu hi
            refine TO.move rfl (by decide) (dl_lookup (m := 9) hu rfl (hd 9 (by decide))) ?_
            exact TX.quiet 10 hu hi rfl
           ·
            intro D hn hd hcl hu hi
            refine TO.move (gd_T rfl (dl_lookup (m := 10) hu rfl (hd 10 (by decide)))) (by decide) (dl_old (by rfl) rfl) ?_
            exact TX.quiet 11 hu hi rfl
           ·
            intro D hn hd hcl hu hi
            refine TO.bin (gd_T rfl (dl_lookup (m := 10) hu rfl (hd 10 (by decide)))) (by decide) (dl_lookup (m := 11) hu rfl (hd 11 (by decide))) rfl bin_neq (TO.rewH (show Value.bool ((((ptG r2 with1 (nthW (wsOf r2) q1)).2) : Int) != 0) = Value.bool true from congrArg Value.bool hb15) ?_)
            exact TX.quiet 12 hu hi rfl
           ·
            intro D hn hd hcl hu hi
            refine TO.pick (b := false) rfl (by decide) (dl_lookup (m := 10) hu rfl (hd 10 (by decide))) (dl_lookup (m := 12) hu rfl (hd 12 (by decide))) ?_
            exact TX.quiet 13 hu hi rfl
           ·
            intro D hn hd hcl hu hi
            refine TO.move rfl (by decide) (dl_lookup (m := 13) hu rfl (hd 13 (by decide))) ?_
            exact TX.quiet 14 hu hi rfl
           ·
            intro D hn hd hcl hu hi
            refine TO.skip (gd_F rfl (dl_lookup (m := 14) hu rfl (hd 14 (by decide)))) (by decide) ?_
            exact TX.quiet 15 hu hi rfl
           ·
            intro D hn hd hcl hu hi
            refine TO.skip (gd_F rfl (dl_lookup (m := 14) hu rfl (hd 14 (by decide)))) (by decide) ?_
            exact TX.quiet 16 hu hi rfl
           ·
            intro D hn hd hcl hu hi
            refine TO.skip (gd_F rfl (dl_lookup (m := 14) hu rfl (hd 14 (by decide)))) (by decide) ?_
            exact TX.quiet 17 hu hi rfl
           ·
            intro D hn hd hcl hu hi
            refine TO.skip (gd_F rfl (dl_lookup (m := 14) hu rfl (hd 14 (by decide)))) (by decide) ?_
            exact TX.quiet 18 hu hi rfl
           ·
            intro D hn hd hcl hu hi
            refine TO.skip (gd_F rfl (dl_lookup (m := 14) hu rfl (hd 14 (by decide)))) (by decide) ?_
            exact TX.quiet 19 hu hi rfl
           ·
            intro D hn hd hcl hu hi
            refine TO.skip (gd_F rfl (dl_lookup (m := 14) hu rfl (hd 14 (by decide)))) (by decide) ?_
            exact TX.quiet 20 hu hi rfl
           ·
            intro D hn hd hcl hu hi
            refine TO.skip (gd_F rfl (dl_lookup (m := 14) hu rfl (hd 14 (by decide)))) (by decide) ?_
            exact TX.quiet 21 hu hi rfl
           ·
            intro D hn hd hcl hu hi
            refine TO.skip (gd_F rfl (dl_lookup (m := 14) hu rfl (hd 14 (by decide)))) (by decide) ?_
            exact TX.quiet 22 hu hi rfl
           ·
            intro D hn hd hcl hu hi
            refine TO.skip (gd_F rfl (dl_lookup (m := 14) hu rfl (hd 14 (by decide)))) (by decide) ?_
            exact TX.quiet 23 hu hi rfl
           ·
            intro D hn hd hcl hu hi
            refine TO.skip (gd_F rfl (dl_lookup (m := 14) hu rfl (hd 14 (by decide)))) (by decide) ?_
            exact TX.quiet 24 hu hi rfl
           ·
            intro D hn hd hcl hu hi
            refine TO.skip (gd_F rfl (dl_lookup (m := 14) hu rfl (hd 14 (by decide)))) (by decide) ?_
            exact TX.quiet 25 hu hi rfl
           ·
            intro D hn hd hcl hu hi
            refine TO.skip (gd_F rfl (dl_lookup (m := 14) hu rfl (hd 14 (by decide)))) (by decide) ?_
            exact TX.quiet 26 hu hi rfl
           refine TO.skip rfl (by decide) (TO.pick (b := true) rfl (by decide) rfl rfl (TO.nil (TX.next (TC.condT rfl (TC.seq (TC.region (TO.assign rfl (by decide) rfl (TO.nil (TX.next (TC.ret (TX.blockRet (TX.thenRet (TX.thenRet ?_)))))))))))))
           refine TX.blockRet (TX.thenRet ?_)
           cases h
           exact TX.fin (rs := [.tmp 6]) () (.inl rfl) Try.results7 (.cons (.tmp rfl) .nil) rfl Splits.nil
          ·
           have h := condF hb15 h
           obtain ⟨hg9, h⟩ := grdE h
           obtain ⟨hg10, h⟩ := grdE h
           obtain ⟨hg11, h⟩ := grdE h
           obtain ⟨hg12, h⟩ := grdE h
           refine TC.drawN 27 [(0, 71, .bool ((nxG (nthW (wsOf r2) q1)).2)), (1, 72, .bool false), (2, 73, .bool false), (3, 74, .agg #[.int .i64 ((nxG (nthW (wsOf r2) q1)).1.From), .int .i64 ((nxG (nthW (wsOf r2) q1)).1.To)]), (4, 75, v1), (5, 76, .int .i64 q1), (6, 77, .pointer (some ⟨vblk v1, (q1 : Int).toNat * 2, none⟩)), (7, 78, .agg #[.int .i64 q2.From, .int .i64 q2.To]), (8, 79, .bool false), (9, 80, .bool false), (10, 81, .bool false), (11, 82, .int .i64 ((ptG r2 with1 (nthW (wsOf r2) q1)).2)), (12, 83, .bool false), (13, 84, .bool false), (14, 85, .bool false), (15, 86, .string ((ptG r2 with1 (nthW (wsOf r2) q1)).1)), (16, 87, .string r2), (17, 88, .pointer (some ⟨b1, 0, none⟩)), (18, 89, .int .i64 ((nxG (nthW (wsOf r2) q1)).1.From)), (19, 90, .string (cutB r2 0 ((nxG (nthW (wsOf r2) q1)).1.From))), (20, 91, .string with1), (21, 92, .string ((cutB r2 0 ((nxG (nthW (wsOf r2) q1)).1.From)) ++ with1)), (22, 93, .string r2), (23, 94, .pointer (some ⟨b1, 1, none⟩)), (24, 95, .int .i64 ((nxG (nthW (wsOf r2) q1)).1.To)), (25, 96, .string (cutB r2 ((nxG (nthW (wsOf r2) q1)).1.To) (r2.size : Int))), (26, 97, .string (((cutB r2 0 ((nxG (nthW (wsOf r2) q1)).1.From)) ++ with1) ++ (cutB r2 ((nxG (nthW (wsOf r2) q1)).1.To) (r2.size : Int))))] mixed (by as_aux_lemma => kernel_rfl) (by as_aux_lemma => kernel_rfl) (by decide) (by rfl) (by as_aux_lemma => kernel_rfl) (by as_aux_lemma => kernel_rfl) (DrawPre.cons ?_ (DrawPre.cons ?_ (DrawPre.cons ?_ (DrawPre.cons ?_ (DrawPre.cons ?_ (DrawPre.cons ?_ (DrawPre.cons ?_ (DrawPre.cons ?_ (DrawPre.cons ?_ (DrawPre.cons ?_ (DrawPre.cons ?_ (DrawPre.cons ?_ (DrawPre.cons ?_ (DrawPre.cons ?_ (DrawPre.cons ?_ (DrawPre.cons ?_ (DrawPre.cons ?_ (DrawPre.cons ?_ (DrawPre.cons ?_ (DrawPre.cons ?_ (DrawPre.cons ?_ (DrawPre.cons ?_ (DrawPre.cons ?_ (DrawPre.cons ?_ (DrawPre.cons ?_ (DrawPre.cons ?_ (DrawPre.cons ?_ DrawPre.nil))))))))))))))))))))))))))) ?_
           ·
            intro D hn hd hcl hu hi
            refine TO.move rfl (by decide) (dl_old (by rfl) rfl) ?_
            exact TX.quiet 0 hu hi rfl
           ·
            intro D hn hd hcl hu hi
            refine TO.un rfl (by decide) (dl_lookup (m := 0) hu rfl (hd 0 (by decide))) un_not (TO.rewH (show Value.bool (!((nxG (nthW (wsOf r2) q1)).2)) = Value.bool false from congrArg Value.bool hb13) ?_)
            exact TX.quiet 1 hu hi rfl
           ·
            intro D hn hd hcl hu hi
            refine TO.move rfl (by decide) (dl_lookup (m := 1) hu rfl (hd 1 (by decide))) ?_
            exact TX.quiet 2 hu hi rfl
           ·
            intro D hn hd hcl hu hi
            refine TO.loads (k := 1) (cs := [.int .i64 ((nxG (nthW (wsOf r2) q1)).1.From), .int .i64 ((nxG (nthW (wsOf r2) q1)).1.To)]) rw_34 (gd_T rfl (dl_lookup (m := 2) hu rfl (hd 2 (by decide)))) (by decide) (dl_old (by rfl) rfl) rfl rfl rfl ?_
            exact TX.quiet 3 hu hi rfl
           ·
            intro D hn hd hcl hu hi
            refine TO.move (gd_T rfl (dl_lookup (m := 2) hu rfl (hd 2 (by decide)))) (by decide) (dl_old (by rfl) rfl) ?_
            exact TX.quiet 4 hu hi rfl
           ·
            intro D hn hd hcl hu hi
            refine TO.move (gd_T rfl (dl_lookup (m := 2) hu rfl (hd 2 (by decide)))) (by decide) (dl_old (by rfl) rfl) ?_
            exact TX.quiet 5 hu hi rfl
           ·
            intro D hn hd hcl hu hi
            refine TO.indexVecI (k := 0) hq5 Try.underlying25 sz_34 (gd_T rfl (dl_lookup (m := 2) hu rfl (hd 2 (by decide)))) (by decide) (dl_lookup (m := 4) hu rfl (hd 4 (by decide))) (dl_lookup (m := 5) hu rfl (hd 5 (by decide))) rfl rfl ?_
            exact TX.quiet 6 hu hi rfl
           ·
            intro D hn hd hcl hu hi
            refine TO.loadsVec (i := (q1 : Int).toNat) (j := 0) (k := 0) (q := q2) (cs := [.int .i64 q2.From, .int .i64 q2.To]) rw_34 enc_Gapi_Span_len (gd_T rfl (dl_lookup (m := 2) hu rfl (hd 2 (by decide)))) (by decide) (dl_lookup (m := 6) hu rfl (hd 6 (by decide))) rfl (getO_get hq5) rfl rfl rfl ?_
            exact TX.quiet 7 hu hi rfl
           ·
            intro D hn hd hcl hu hi
            refine TO.bin (gd_T rfl (dl_lookup (m := 2) hu rfl (hd 2 (by decide)))) (by decide) (dl_lookup (m := 3) hu rfl (hd 3 (by decide))) (dl_lookup (m := 7) hu rfl (hd 7 (by decide))) (bin_neq_34 ((nxG (nthW (wsOf r2) q1)).1) q2) (TO.rewH (show Value.bool (!(eq_Gapi_Span ((nxG (nthW (wsOf r2) q1)).1) q2)) = Value.bool false from congrArg Value.bool hb14) ?_)
            exact TX.quiet 8 hu hi rfl
           ·
            intro D hn hd hcl hu hi
            refine TO.pick (b := false) rfl (by decide) (dl_lookup (m := 2) hu rfl (hd 2 (by decide))) (dl_lookup (m := 8) hu rfl (hd 8 (by decide))) ?_
            exact TX.quiet 9 hu hi rfl
           ·
            intro D hn hd hcl hu hi
            refine TO.move rfl (by decide) (dl_lookup (m := 9) hu rfl (hd 9 (by decide))) ?_
            exact TX.quiet 10 hu hi rfl
           ·
            intro D hn hd hcl hu hi
            refine TO.move (gd_T rfl (dl_lookup (m := 10) hu rfl (hd 10 (by decide)))) (by decide) (dl_old (by rfl) rfl) ?_
            exact TX.quiet 11 hu hi rfl
           ·
            intro D hn hd hcl hu hi
            refine TO.bin (gd_T rfl (dl_lookup (m := 10) hu rfl (hd 10 (by decide)))) (by decide) (dl_lookup (m := 11) hu rfl (hd 11 (by decide))) rfl bin_neq (TO.rewH (show Value.bool ((((ptG r2 with1 (nthW (wsOf r2) q1)).2) : Int) != 0) = Value.bool false from congrArg Value.bool hb15) ?_)
            exact TX.quiet 12 hu hi rfl
           ·
            intro D hn hd hcl hu hi
            refine TO.pick (b := false) rfl (by decide) (dl_lookup (m := 10) hu rfl (hd 10 (by decide))) (dl_lookup (m := 12) hu rfl (hd 12 (by decide))) ?_
            exact TX.quiet 13 hu hi rfl
           ·
            intro D hn hd hcl hu hi
            refine TO.move rfl (by decide) (dl_lookup (m := 13) hu rfl (hd 13 (by decide))) ?_
            exact TX.quiet 14 hu hi rfl
           ·
            intro D hn hd hcl hu hi
            refine TO.move (gd_T rfl (dl_lookup (m := 14) hu rfl (hd 14 (by decide)))) (by decide) (dl_old (by rfl) rfl) ?_
            exact TX.quiet 15 hu hi rfl
           ·
            intro D hn hd hcl hu hi
            refine TO.move (gd_T rfl (dl_lookup (m := 14) hu rfl (hd 14 (by decide)))) (by decide) (dl_old (by rfl) rfl) ?_
            exact TX.quiet 16 hu hi rfl
           ·
            intro D hn hd hcl hu hi
            refine TO.fieldAddr fl_34_0 (gd_T rfl (dl_lookup (m := 14) hu rfl (hd 14 (by decide)))) (by decide) (dl_old (by rfl) rfl) (show _ = 0 from rfl) ?_
            exact TX.quiet 17 hu hi rfl
           ·
            intro D hn hd hcl hu hi
            refine TO.load (k := 1) sc_3 (gd_T rfl (dl_lookup (m := 14) hu rfl (hd 14 (by decide)))) (by decide) (dl_lookup (m := 17) hu rfl (hd 17 (by decide))) rfl rfl ?_
            exact TX.quiet 18 hu hi rfl
           ·
            intro D hn hd hcl hu hi
            refine TO.slice (gd_T rfl (dl_lookup (m := 14) hu rfl (hd 14 (by decide)))) (by decide) (dl_lookup (m := 16) hu rfl (hd 16 (by decide))) evO.none (evO.some (dl_lookup (m := 18) hu rfl (hd 18 (by decide)))) (slice_stringI (i := 0) (j := (nxG (nthW (wsOf r2) q1)).1.From) Try.underlying9 (.inl ⟨rfl, rfl⟩) (.inr rfl) hg9) ?_
            exact TX.quiet 19 hu hi rfl
           ·
            intro D hn hd hcl hu hi
            refine TO.move (gd_T rfl (dl_lookup (m := 14) hu rfl (hd 14 (by decide)))) (by decide) (dl_old (by rfl) rfl) ?_
            exact TX.quiet 20 hu hi rfl
           ·
            intro D hn hd hcl hu hi
            refine TO.bin (gd_T rfl (dl_lookup (m := 14) hu rfl (hd 14 (by decide)))) (by decide) (dl_lookup (m := 19) hu rfl (hd 19 (by decide))) (dl_lookup (m := 20) hu rfl (hd 20 (by decide))) (bin_sadd hg10) ?_
            exact TX.quiet 21 hu hi rfl
           ·
            intro D hn hd hcl hu hi
            refine TO.move (gd_T rfl (dl_lookup (m := 14) hu rfl (hd 14 (by decide)))) (by decide) (dl_old (by rfl) rfl) ?_
            exact TX.quiet 22 hu hi rfl
           ·
            intro D hn hd hcl hu hi
            refine TO.fieldAddr fl_34_1 (gd_T rfl (dl_lookup (m := 14) hu rfl (hd 14 (by decide)))) (by decide) (dl_old (by rfl) rfl) (show _ = 1 from rfl) ?_
            exact TX.quiet 23 hu hi rfl
           ·
            intro D hn hd hcl hu hi
            refine TO.load (k := 1) sc_3 (gd_T rfl (dl_lookup (m := 14) hu rfl (hd 14 (by decide)))) (by decide) (dl_lookup (m := 23) hu rfl (hd 23 (by decide))) rfl rfl ?_
            exact TX.quiet 24 hu hi rfl
           ·
            intro D hn hd hcl hu hi
            refine TO.slice (gd_T rfl (dl_lookup (m := 14) hu rfl (hd 14 (by decide)))) (by decide) (dl_lookup (m := 22) hu rfl (hd 22 (by decide))) (evO.some (dl_lookup (m := 24) hu rfl (hd 24 (by decide)))) evO.none (slice_stringI (i := (nxG (nthW (wsOf r2) q1)).1.To) (j := (r2.size : Int)) Try.underlying9 (.inr rfl) (.inl ⟨rfl, rfl⟩) hg11) ?_
            exact TX.quiet 25 hu hi rfl
           ·
            intro D hn hd hcl hu hi
            refine TO.bin (gd_T rfl (dl_lookup (m := 14) hu rfl (hd 14 (by decide)))) (by decide) (dl_lookup (m := 21) hu rfl (hd 21 (by decide))) (dl_lookup (m := 25) hu rfl (hd 25 (by decide))) (bin_sadd hg12) ?_
            exact TX.quiet 26 hu hi rfl
           refine TO.bin rfl (by decide) rfl rfl bin_sneq (TO.pick (b := false) rfl (by decide) rfl rfl (TO.nil (TX.next ?_)))
           refine TC.condB rfl (fun hb16 => ?_) (fun hb16 => ?_)
           ·
            have h := condT hb16 h
            refine TC.seq (TC.region (TO.assign rfl (by decide) rfl (TO.nil (TX.next (TC.ret (TX.blockRet (TX.thenRet (TX.thenRet (TX.blockRet (TX.thenRet ?_))))))))))
            cases h
            exact TX.fin (rs := [.tmp 6]) () (.inl rfl) Try.results7 (.cons (.tmp rfl) .nil) rfl Splits.nil
           ·
            have h := condF hb16 h
            refine TC.skip (TX.blockNormal ?_)
            exact TX.meetD () h rfl (Sbs.cons rfl (Sbs.cons rfl (Sbs.cons rfl (Sbs.cons rfl (Sbs.cons rfl (Sbs.nil)))))) (Splits.of [0] (by as_aux_lemma => kernel_rfl) rfl)
     ·
      rintro _ h
      subst hj2
      show TC _ _ _ _ _ ([]) _ _ [(0, .string r2), (2, .string with1), (7, v1), (32, .agg #[.int .i64 k1, .int .i64 (IntKind.i64.wrap (Int.tmod (IntKind.u64.wrap k1) (IntKind.u64.wrap ((r3.length : Int) + 1)))), .int .i64 ((r3.length : Int) - 1)]), (33, .int .i64 x3)] [vec enc_Gapi_Span 34 2 v1 r3]
      refine TC.region ?_
      obtain ⟨hg13, h⟩ := grdE h
      refine TO.bin rfl (by decide) rfl rfl (bin_add (r := x3 + 1) (IntWalk.i64_in _ hg13)) (TO.move rfl (by decide) rfl (TO.nil ?_))
      subst hag1
      exact TX.againD (n1, x3 + 1) h (Nat.lt_succ_self _) rfl (Sbs.cons rfl (Sbs.cons rfl (Sbs.cons rfl (Sbs.cons rfl (Sbs.cons rfl (Sbs.nil)))))) (Splits.of [0] (by as_aux_lemma => kernel_rfl) rfl)
    ·
     have h := condF hb2 h
     refine TC.exit (TX.thenExit (TX.thenExit (TX.blockHere ?_)))
     exact TX.meetD () h rfl (Sbs.nil) Splits.nil
  ·
   rintro _ h
   subst hj1
   show TC _ _ _ _ _ ([]) _ _ [] []
   refine TC.seq (TC.region ?_)
   obtain ⟨r4, hq6, h⟩ := andE h
   refine TO.callP (v := .bool r4) (vs := []) rfl (by decide) rfl rfl rfl en_12 (law07_wakes_fn hq6) (TO.assign rfl (by decide) rfl (TO.nil (TX.next (TC.ret ?_))))
   cases h
   exact TX.fin (rs := [.tmp 6]) () (.inl rfl) Try.results7 (.cons (.tmp rfl) .nil) rfl Splits.nil
end Go.Proofs.Ytgeefojgkbglnaa
namespace Go.Proofs.Ytgeefojgkbglnaa
open Go.RowKit Go.Lib
set_option linter.unusedVariables false
set_option linter.unusedSimpArgs false
theorem numbers_step (t v : ByteArray) (hs : t.size ≤ 16384) (hv : v.size ≤ 140737488351232) (a : Int) (ha : I64 a) (k : Nat) (hk : k < 3) (J : Option Bool) (ag : Int → Option Bool) : law07_WordNumbers_s1 a v J t ((wsOf t).map spG) ag (k : Int) = ag ((k + 1 : Nat) : Int) := by
  unfold law07_WordNumbers_s1
  have hl := ws_len t
  obtain ⟨q, hq, q0, q1, q2⟩ := get3 (a := a) (b := IntKind.i64.wrap (Int.tmod (IntKind.u64.wrap a) (IntKind.u64.wrap ((((wsOf t).map spG).length : Int) + 1)))) (c := (((wsOf t).map spG).length : Int) - 1) hk
  have hqr : I64 q := by
    obtain h | h | h : k = 0 ∨ k = 1 ∨ k = 2 := by omega
    · rw [q0 h]; exact ha
    · rw [q1 h, IntKind.wrap_i64]; exact ⟨by omega, by omega⟩
    · rw [q2 h]; exact ⟨by simp; omega, by simp; omega⟩
  refine condTI (decide_eq_true (by omega)) (joinI (thenI hq (grdI (by omega) (grdI hqr (grdI (by omega) (grdI hv (grdI hqr ?_)))))))
  have tail : (grd (I64 ((k : Int) + 1)) <| ag ((k : Int) + 1)) = ag ((k + 1 : Nat) : Int) := grdI ⟨by omega, by omega⟩ rfl
  rw [tail]
  have none : nthW (wsOf t) q = Option.none → (bcond ((nxG (nthW (wsOf t) q)).2) (some false) (bcond (!(eq_Gapi_Span ((nxG (nthW (wsOf t) q)).1) (⟨0, 0⟩ : Gapi_Span))) (some false) (bcond ((((ptG t v (nthW (wsOf t) q)).2) : Int) != 4) (some false) (bcond (!decide ((ptG t v (nthW (wsOf t) q)).1 = (⟨#[]⟩ : ByteArray))) (some false) (ag ((k + 1 : Nat) : Int)))))) = ag ((k + 1 : Nat) : Int) := fun h => by
    rw [h]
    exact condFI rfl (condFI (eqr_span _) (condFI rfl (condFI rfl rfl)))
  by_cases h0 : q < 0
  · refine condTI (decide_eq_true h0) (none ?_)
    unfold nthW; rw [if_neg (by omega)]
  · refine condFI (decide_eq_false h0) ?_
    by_cases h1 : (((wsOf t).map spG).length : Int) ≤ q
    · refine condTI (decide_eq_true h1) (none ?_)
      unfold nthW; rw [if_pos (by omega)]
      exact List.getElem?_eq_none (by simp at h1; omega)
    · have h1' : q.toNat < (wsOf t).length := by simp at h1; omega
      have hg : (wsOf t)[q.toNat]? = some (wsOf t)[q.toNat] := List.getElem?_eq_getElem h1'
      have hw := wds_bound t _ (List.mem_of_getElem? hg)
      have hn : nthW (wsOf t) q = some (wsOf t)[q.toNat] := by unfold nthW; rw [if_pos (by omega)]; exact hg
      rw [hn]
      generalize (wsOf t)[q.toNat] = g at *
      have hgo : getO ((wsOf t).map spG) q = some (spG g) := by
        have := getO_map (f := spG) hg
        rwa [show ((q.toNat : Nat) : Int) = q by omega] at this
      refine condFI (decide_eq_false h1) (condFI rfl (thenI hgo (condFI (eqr_span _) (condFI rfl ?_))))
      have e1 : cutB t 0 (nxG (some g)).1.From = t.extract 0 g.1 := by simp [cutB, nxG, spG]
      have e2 : cutB t (nxG (some g)).1.To (t.size : Int) = t.extract g.2 t.size := by simp [cutB, nxG, spG]
      rw [e1, e2]
      refine grdI ⟨by omega, by simp [nxG, spG], by simp only [nxG, spG]; omega⟩ (grdI ?_ (grdI ⟨by simp [nxG, spG], by simp only [nxG, spG]; omega, by omega⟩ (grdI ?_ (condFI ?_ rfl))))
      · rw [ByteArray.size_extract]; omega
      · rw [ByteArray.size_append, ByteArray.size_extract, ByteArray.size_extract]; omega
      · simp [ptG]
theorem numbers_law (s : ByteArray) (a : Int) (v : ByteArray) (ha : I64 a) (hv : v.size ≤ 140737488351232) : law07_WordNumbers_v s a v = some true := by
  unfold law07_WordNumbers_v
  obtain ⟨t, ht, hs⟩ := short_v s
  have hl := ws_len t
  refine thenI wakes_v (condFI rfl (joinI (thenI ht (thenI (words_v t (by omega)) (grdI ⟨by simp; omega, by simp; omega⟩ (grdI (by rw [u64w _ (by simp; omega)]; omega) (grdI ⟨by simp; omega, by simp; omega⟩ ?_)))))))
  refine loop_to0 3 (fun ag k hk => numbers_step t v hs hv a ha k hk _ ag) (fun ag => ?_) (by unfold fuel; omega)
  unfold law07_WordNumbers_s1
  exact condFI rfl wakesK
theorem wordNumbers_any (s : ByteArray) (a : Int) (v : ByteArray) (w : World) (h0 : s.size ≤ 140737488351232) (h1 : -9223372036854775808 ≤ a) (h2 : a ≤ 9223372036854775807) (h3 : v.size ≤ 140737488351232) : Calls Try.prog 7 #[.string s, .int .i64 a, .string v] w fun e w' => e = .returned (.bool true) ∧ Below w.heap.size w w' := law07_WordNumbers_fn (numbers_law s a v ⟨h1, h2⟩ h3) w
end Go.Proofs.Ytgeefojgkbglnaa
