/-
  Texts laid together: LfWordPlaces, PlWordPlaces. Nothing is assumed.
-/
import Derived.Test.YtgeefojgkbglnaaWb5
namespace Go.Proofs.Ytgeefojgkbglnaa
open Go.RowKit Go.Lib
set_option linter.unusedVariables false
set_option linter.unusedSimpArgs false
def law07_WordPlaces_s1 (at1 : Int) (j1 : Option Bool) (r2 : ByteArray) (ag1 : Int → Option Bool) (x3 : Int) : Option Bool := bcond (decide ((x3 : Int) < 3)) ( joinK (fun (j2 : Int → Option Bool) => andThen (getO ([at1, IntKind.i64.wrap (Int.tmod (IntKind.u64.wrap at1) (IntKind.u64.wrap ((r2.size : Int) + 1))), (r2.size : Int)] : List Int) x3) fun (q1 : Int) => grd (r2.size ≤ 140737488351232) <| bcond (decide ((0 : Int) ≤ q1)) ( bcond (decide ((q1 : Int) < (r2.size : Int))) ( bcond ((((atG (tokAt (tksOf r2) q1)).2) : Int) != 0) ( some false
) ( andThen (ref07_At_v r2 q1) fun (r3 : Gapi_Token) => bcond (!(eq_Gapi_Token ((atG (tokAt (tksOf r2) q1)).1) r3)) ( some false
) ( j2 q1
)
)
) ( bcond ((((atG (tokAt (tksOf r2) q1)).2) : Int) != 5) ( some false
) ( bcond (!(eq_Gapi_Token ((atG (tokAt (tksOf r2) q1)).1) (⟨0, 0, 0⟩ : Gapi_Token))) ( some false
) ( j2 q1
)
)
)
) ( bcond ((((atG (tokAt (tksOf r2) q1)).2) : Int) != 5) ( some false
) ( bcond (!(eq_Gapi_Token ((atG (tokAt (tksOf r2) q1)).1) (⟨0, 0, 0⟩ : Gapi_Token))) ( some false
) ( j2 q1
)
)
)
) (fun (x4 : Int) => grd (r2.size ≤ 140737488351232) <| andThen (ref07_Next_v r2 x4) fun (r4 : (Gapi_Span × Bool)) => grd (r2.size ≤ 140737488351232) <| andThen (ref07_Last_v r2 x4) fun (r5 : (Gapi_Span × Bool)) => bcond (!(eq_Gapi_Span ((nxG (nextO r2 x4)).1) r4.1)) ( some false
) ( bcond (((nxG (nextO r2 x4)).2) != r4.2) ( some false
) ( bcond (!(eq_Gapi_Span (⟨((lastOf r2 x4).1 : Int), ((lastOf r2 x4).2 : Int)⟩ : Gapi_Span) r5.1)) ( some false
) ( bcond ((decide ((0 : Int) < ((lastOf r2 x4).2 : Int))) != r5.2) ( some false
) ( grd (r2.size ≤ 140737488351232) <| andThen (ref07_Edge_v r2 x4) fun (r6 : Bool) => bcond ((edge (tksOf r2) x4) != r6) ( some false
) ( grd (I64 (x3 + 1)) <| ag1 (x3 + 1)
)
)
)
)
)
)
) ( j1
)
def law07_WordPlaces_v (s1 : ByteArray) (at1 : Int) : Option Bool := andThen (law07_wakes_v) fun (r1 : Bool) => bcond (!r1) ( some false
) ( joinK (fun (j1 : Option Bool) => andThen (law07_short_v s1) fun (r2 : ByteArray) => grd (I64 ((r2.size : Int) + 1)) <| grd ((IntKind.u64.wrap ((r2.size : Int) + 1)) ≠ 0) <| loopG (fun _ => none) (law07_WordPlaces_s1 at1 j1 r2) fuel 0
) ( andThen (law07_wakes_v) fun (r7 : Bool) => some r7
)
)
set_option maxRecDepth 100000 in
set_option maxHeartbeats 4000000 in
theorem law07_WordPlaces_fn {s1 : ByteArray} {at1 : Int} {r : Bool} (h : law07_WordPlaces_v s1 at1 = some r) : FnP Try.prog 9 [.string s1, .int .i64 at1] (.bool r) := by
 unfold law07_WordPlaces_v at h
 refine FnP.intro Try.func9 rfl Try.ntmps9 (by simp) ?_
 intro w0 K
 refine TC.seq (TC.region (TO.assign rfl (by decide) rfl (TO.nil (TX.next (TC.seq (TC.seq (TC.region ?_)))))))
 obtain ⟨r1, hq1, h⟩ := andE h
 refine TO.callP (v := .bool r1) (vs := []) rfl (by decide) rfl rfl rfl en_12 (law07_wakes_fn hq1) (TO.un rfl (by decide) rfl un_not (TO.nil (TX.next ?_)))
 refine TC.condB rfl (fun hb1 => ?_) (fun hb1 => ?_)
 ·
  have h := condT hb1 h
  refine TC.seq (TC.region (TO.assign rfl (by decide) rfl (TO.nil (TX.next (TC.ret (TX.thenRet ?_))))))
  cases h
  exact TX.fin (rs := [.tmp 4]) () (.inl rfl) Try.results9 (.cons (.tmp rfl) .nil) rfl Splits.nil
 ·
  have h := condF hb1 h
  refine TC.skip (TX.next ?_)
  obtain ⟨j1, hj1, h⟩ := joinE h
  refine TC.cutN (β := Unit) 1 rfl (fun b => j1 = some r) (fun b => []) (fun b => []) (fun b => []) (fun cut => ?_) ?_
  ·
   refine TC.seq (TC.region (TO.move rfl (by decide) rfl ?_))
   obtain ⟨r2, hq2, h⟩ := andE h
   refine TO.callP (v := .string r2) (vs := [.string s1]) rfl (by decide) rfl rfl rfl en_18 (law07_short_fn hq2) (TO.assign rfl (by decide) rfl (TO.nil (TX.next (cut (TC.seq (TC.region (TO.move rfl (by decide) rfl (TO.move rfl (by decide) rfl (TO.conv rfl (by decide) rfl (conv_wrap Try.underlying3 Try.underlying45) (TO.move rfl (by decide) rfl (TO.lenStr rfl (by decide) rfl Try.underlying9 ?_)))))))))))
   obtain ⟨hg1, h⟩ := grdE h
   refine TO.bin rfl (by decide) rfl rfl (bin_add (r := (r2.size : Int) + 1) (IntWalk.i64_in _ hg1)) (TO.conv rfl (by decide) rfl (conv_wrap Try.underlying3 Try.underlying45) ?_)
   obtain ⟨hg2, h⟩ := grdE h
   refine TO.bin rfl (by decide) rfl rfl (bin_rem hg2 rfl) (TO.conv rfl (by decide) rfl (conv_wrap Try.underlying45 Try.underlying3) (TO.move rfl (by decide) rfl (TO.lenStr rfl (by decide) rfl Try.underlying9 ?_)))
   refine TO.build (v := .agg #[.int .i64 at1, .int .i64 (IntKind.i64.wrap (Int.tmod (IntKind.u64.wrap at1) (IntKind.u64.wrap ((r2.size : Int) + 1)))), .int .i64 (r2.size : Int)]) (ps := [(0, .tmp 21), (1, .tmp 29), (2, .tmp 31)]) rfl (by decide) rfl (fun _ => by kernel_rfl) ?_
   refine TO.move rfl (by decide) rfl (TO.nil (TX.next (TC.block ?_)))
   refine TC.loopD (β := Nat × Int) (fun b => loopG (fun _ => none) (law07_WordPlaces_s1 at1 j1 r2) b.1 b.2 = some r) (fun b => []) (fun b => [(0, .string r2), (32, .agg #[.int .i64 at1, .int .i64 (IntKind.i64.wrap (Int.tmod (IntKind.u64.wrap at1) (IntKind.u64.wrap ((r2.size : Int) + 1)))), .int .i64 (r2.size : Int)]), (33, .int .i64 b.2)]) (fun b => []) (fun b => b.1) (fuel, 0) h rfl (Sbs.cons rfl (Sbs.cons rfl (Sbs.cons rfl (Sbs.nil)))) Splits.nil ?_
   rintro ⟨n1, x3⟩ h
   cases n1 with
   | zero => exact noneE h
   | succ n1 =>
    obtain ⟨ag1, hag1⟩ : ∃ ag, ag = loopG (fun _ => none) (law07_WordPlaces_s1 at1 j1 r2) n1 := ⟨_, rfl⟩
    have h : law07_WordPlaces_s1 at1 j1 r2 ag1 x3 = some r := by rw [hag1]; exact h
    unfold law07_WordPlaces_s1 at h
    show TC _ _ _ _ _ ([]) _ _ [(0, .string r2), (32, .agg #[.int .i64 at1, .int .i64 (IntKind.i64.wrap (Int.tmod (IntKind.u64.wrap at1) (IntKind.u64.wrap ((r2.size : Int) + 1)))), .int .i64 (r2.size : Int)]), (33, .int .i64 x3)] []
    refine TC.seq (TC.region (TO.bin rfl (by decide) rfl rfl bin_lss (TO.nil (TX.next (TC.seq ?_)))))
    refine TC.condB rfl (fun hb2 => ?_) (fun hb2 => ?_)
    ·
     have h := condT hb2 h
     refine TC.skip (TX.next (TC.seq (TC.block ?_)))
     obtain ⟨j2, hj2, h⟩ := joinE h
     refine TC.cutN (β := Int) 2 rfl (fun b => j2 b = some r) (fun b => []) (fun b => [(0, .string r2), (6, .int .i64 b), (32, .agg #[.int .i64 at1, .int .i64 (IntKind.i64.wrap (Int.tmod (IntKind.u64.wrap at1) (IntKind.u64.wrap ((r2.size : Int) + 1)))), .int .i64 (r2.size : Int)]), (33, .int .i64 x3)]) (fun b => []) (fun cut => ?_) ?_
     ·
      refine TC.seq (TC.region ?_)
      obtain ⟨q1, hq3, h⟩ := andE h
      refine TO.index (v := .int .i64 q1) rfl (by decide) rfl rfl (index_arr (enc := (encI (.i64))) (xs := ([at1, IntKind.i64.wrap (Int.tmod (IntKind.u64.wrap at1) (IntKind.u64.wrap ((r2.size : Int) + 1))), (r2.size : Int)] : List Int)) (q := q1) Try.underlying48 sz_3 rfl encI_len hq3 (fun _ => part_arr (enc := (encI (.i64))) sc_3 encI_len rfl (getO_get hq3))) ?_
      refine TO.assign rfl (by decide) rfl (TO.nil (TX.next (TC.seq (TC.region (TO.move rfl (by decide) rfl (TO.move rfl (by decide) rfl ?_))))))
      obtain ⟨hg3, h⟩ := grdE h
      refine TO.callP (v := .tuple #[.agg #[.int .i64 ((atG (tokAt (tksOf r2) q1)).1.Kind), .int .i64 ((atG (tokAt (tksOf r2) q1)).1.Span_From), .int .i64 ((atG (tokAt (tksOf r2) q1)).1.Span_To)], .int .i64 ((atG (tokAt (tksOf r2) q1)).2)]) (vs := [.string r2, .int .i64 q1]) rfl (by decide) rfl rfl rfl en_27 (wat_c r2 hg3 q1) (TO.move rfl (by decide) rfl (TO.extract rfl (by decide) rfl rfl (TO.extract rfl (by decide) rfl rfl ?_)))
      refine TO.alloc zr_36 rfl (by decide) (fun b1 => ?_)
      refine TO.stores (k := 0) (vs := [.int .i64 ((atG (tokAt (tksOf r2) q1)).1.Kind), .int .i64 ((atG (tokAt (tksOf r2) q1)).1.Span_From), .int .i64 ((atG (tokAt (tksOf r2) q1)).1.Span_To)]) (l' := [.int .i64 ((atG (tokAt (tksOf r2) q1)).1.Kind), .int .i64 ((atG (tokAt (tksOf r2) q1)).1.Span_From), .int .i64 ((atG (tokAt (tksOf r2) q1)).1.Span_To)]) sz_36 rfl rfl rfl rfl rfl (show _ ≤ _ by simp) rfl rfl ?_
      show TO _ _ _ _ _ _ _ _ _ _ [cells b1 [.int .i64 ((atG (tokAt (tksOf r2) q1)).1.Kind), .int .i64 ((atG (tokAt (tksOf r2) q1)).1.Span_From), .int .i64 ((atG (tokAt (tksOf r2) q1)).1.Span_To)] 36]
      refine TO.assign rfl (by decide) rfl (TO.nil (TX.next (cut (TC.seq (TC.region (TO.move rfl (by decide) rfl (TO.bin rfl (by decide) rfl rfl bin_geq (TO.move rfl (by decide) rfl ?_))))))))
      refine TO.split (s := 44) rfl (fun hb3 => ?_) (fun hb3 => ?_)
      ·
       have h := condT hb3 h
       refine TO.move rfl (by decide) rfl (TO.move rfl (by decide) rfl (TO.lenStr rfl (by decide) rfl Try.underlying9 (TO.bin rfl (by decide) rfl rfl bin_lss (TO.pick (b := true) rfl (by decide) rfl rfl (TO.nil (TX.next ?_))))))
       refine TC.condB rfl (fun hb4 => ?_) (fun hb4 => ?_)
       ·
        have h := condT hb4 h
        refine TC.seq ?_
        refine TC.bySplit (b := (((atG (tokAt (tksOf r2) q1)).2) : Int) != 0) (fun hb5 => ?_) (fun hb5 => ?_)
        ·
         have h := condT hb5 h
         refine TC.drawN 7 [(0, 50, .int .i64 ((atG (tokAt (tksOf r2) q1)).2)), (1, 51, .bool true), (2, 52, .bool true), (3, 53, undef), (4, 54, undef), (5, 55, undef), (6, 56, undef)] mixed (by as_aux_lemma => kernel_rfl) (by as_aux_lemma => kernel_rfl) (by decide) (by rfl) (by as_aux_lemma => kernel_rfl) (by as_aux_lemma => kernel_rfl) (DrawPre.cons ?_ (DrawPre.cons ?_ (DrawPre.cons ?_ (DrawPre.cons ?_ (DrawPre.cons ?_ (DrawPre.cons ?_ (DrawPre.cons ?_ DrawPre.nil))))))) ?_
         ·
          intro D hn hd hcl hu hi
          refine TO.move rfl (by decide) (dl_old (by rfl) rfl) ?_
          exact TX.quiet 0 hu hi rfl
         ·
          intro D hn hd hcl hu hi
          refine TO.bin rfl (by decide) (dl_lookup (m := 0) hu rfl (hd 0 (by decide))) rfl bin_neq (TO.rewH (show Value.bool ((((atG (tokAt (tksOf r2) q1)).2) : Int) != 0) = Value.bool true from congrArg Value.bool hb5) ?_)
          exact TX.quiet 1 hu hi rfl
         ·
          intro D hn hd hcl hu hi
          refine TO.move rfl (by decide) (dl_lookup (m := 1) hu rfl (hd 1 (by decide))) ?_
          exact TX.quiet 2 hu hi rfl
         ·
          intro D hn hd hcl hu hi
          refine TO.skip (gd_F rfl (dl_lookup (m := 2) hu rfl (hd 2 (by decide)))) (by decide) ?_
          exact TX.quiet 3 hu hi rfl
         ·
          intro D hn hd hcl hu hi
          refine TO.skip (gd_F rfl (dl_lookup (m := 2) hu rfl (hd 2 (by decide)))) (by decide) ?_
          exact TX.quiet 4 hu hi rfl
         ·
          intro D hn hd hcl hu hi
          refine TO.skip (gd_F rfl (dl_lookup (m := 2) hu rfl (hd 2 (by decide)))) (by decide) ?_
          exact TX.quiet 5 hu hi rfl
         ·
          intro D hn hd hcl hu hi
          refine TO.skip (gd_F rfl (dl_lookup (m := 2) hu rfl (hd 2 (by decide)))) (by decide) ?_
          exact TX.quiet 6 hu hi rfl
         refine TO.skip rfl (by decide) (TO.pick (b := true) rfl (by decide) rfl rfl (TO.nil (TX.next (TC.condT rfl (TC.seq (TC.region (TO.assign rfl (by decide) rfl (TO.nil (TX.next (TC.ret (TX.thenRet (TX.blockRet (TX.thenRet ?_)))))))))))))
         refine TX.thenRet (TX.blockRet (TX.thenRet ?_))
         cases h
         exact TX.fin (rs := [.tmp 4]) () (.inl rfl) Try.results9 (.cons (.tmp rfl) .nil) rfl Splits.nil
        ·
         have h := condF hb5 h
         obtain ⟨r3, hq4, h⟩ := andE h
         refine TC.drawN 7 [(0, 50, .int .i64 ((atG (tokAt (tksOf r2) q1)).2)), (1, 51, .bool false), (2, 52, .bool false), (3, 53, .agg #[.int .i64 ((atG (tokAt (tksOf r2) q1)).1.Kind), .int .i64 ((atG (tokAt (tksOf r2) q1)).1.Span_From), .int .i64 ((atG (tokAt (tksOf r2) q1)).1.Span_To)]), (4, 54, .string r2), (5, 55, .int .i64 q1), (6, 56, .agg #[.int .i64 r3.Kind, .int .i64 r3.Span_From, .int .i64 r3.Span_To])] mixed (by as_aux_lemma => kernel_rfl) (by as_aux_lemma => kernel_rfl) (by decide) (by rfl) (by as_aux_lemma => kernel_rfl) (by as_aux_lemma => kernel_rfl) (DrawPre.cons ?_ (DrawPre.cons ?_ (DrawPre.cons ?_ (DrawPre.cons ?_ (DrawPre.cons ?_ (DrawPre.cons ?_ (DrawPre.cons ?_ DrawPre.nil))))))) ?_
         ·
          intro D hn hd hcl hu hi
          refine TO.move rfl (by decide) (dl_old (by rfl) rfl) ?_
          exact TX.quiet 0 hu hi rfl
         ·
          intro D hn hd hcl hu hi
          refine TO.bin rfl (by decide) (dl_lookup (m := 0) hu rfl (hd 0 (by decide))) rfl bin_neq (TO.rewH (show Value.bool ((((atG (tokAt (tksOf r2) q1)).2) : Int) != 0) = Value.bool false from congrArg Value.bool hb5) ?_)
          exact TX.quiet 1 hu hi rfl
         ·
          intro D hn hd hcl hu hi
          refine TO.move rfl (by decide) (dl_lookup (m := 1) hu rfl (hd 1 (by decide))) ?_
          exact TX.quiet 2 hu hi rfl
         ·
          intro D hn hd hcl hu hi
          refine TO.loads (k := 0) (cs := [.int .i64 ((atG (tokAt (tksOf r2) q1)).1.Kind), .int .i64 ((atG (tokAt (tksOf r2) q1)).1.Span_From), .int .i64 ((atG (tokAt (tksOf r2) q1)).1.Span_To)]) rw_36 (gd_T rfl (dl_lookup (m := 2) hu rfl (hd 2 (by decide)))) (by decide) (dl_old (by rfl) rfl) rfl rfl rfl ?_
          exact TX.quiet 3 hu hi rfl
         ·
          intro D hn hd hcl hu hi
          refine TO.move (gd_T rfl (dl_lookup (m := 2) hu rfl (hd 2 (by decide)))) (by decide) (dl_old (by rfl) rfl) ?_
          exact TX.quiet 4 hu hi rfl
         ·
          intro D hn hd hcl hu hi
          refine TO.move (gd_T rfl (dl_lookup (m := 2) hu rfl (hd 2 (by decide)))) (by decide) (dl_old (by rfl) rfl) ?_
          exact TX.quiet 5 hu hi rfl
         ·
          intro D hn hd hcl hu hi
          refine TO.callP (v := .agg #[.int .i64 r3.Kind, .int .i64 r3.Span_From, .int .i64 r3.Span_To]) (vs := [.string r2, .int .i64 q1]) (gd_T rfl (dl_lookup (m := 2) hu rfl (hd 2 (by decide)))) (by decide) rfl (evL.cons (dl_lookup (m := 4) hu rfl (hd 4 (by decide))) (evL.cons (dl_lookup (m := 5) hu rfl (hd 5 (by decide))) evL.nil)) rfl en_34 (ref07_At_fn hq4) ?_
          exact TX.quiet 6 hu hi rfl
         refine TO.bin rfl (by decide) rfl rfl (bin_neq_36 ((atG (tokAt (tksOf r2) q1)).1) r3) (TO.pick (b := false) rfl (by decide) rfl rfl (TO.nil (TX.next ?_)))
         refine TC.condB rfl (fun hb6 => ?_) (fun hb6 => ?_)
         ·
          have h := condT hb6 h
          refine TC.seq (TC.region (TO.assign rfl (by decide) rfl (TO.nil (TX.next (TC.ret (TX.thenRet (TX.blockRet (TX.thenRet (TX.thenRet (TX.blockRet (TX.thenRet ?_)))))))))))
          cases h
          exact TX.fin (rs := [.tmp 4]) () (.inl rfl) Try.results9 (.cons (.tmp rfl) .nil) rfl Splits.nil
         ·
          have h := condF hb6 h
          refine TC.skip ?_
          exact TX.meetD q1 h rfl (Sbs.cons rfl (Sbs.cons rfl (Sbs.cons rfl (Sbs.cons rfl (Sbs.nil))))) Splits.nil
       ·
        have h := condF hb4 h
        refine TC.seq (TC.region (TO.move rfl (by decide) rfl (TO.bin rfl (by decide) rfl rfl bin_neq (TO.move rfl (by decide) rfl ?_))))
        refine TO.split (s := 61) rfl (fun hb7 => ?_) (fun hb7 => ?_)
        ·
         have h := condT hb7 h
         refine TO.skip rfl (by decide) (TO.skip rfl (by decide) (TO.skip rfl (by decide) (TO.pick (b := true) rfl (by decide) rfl rfl (TO.nil (TX.next (TC.condT rfl (TC.seq (TC.region (TO.assign rfl (by decide) rfl (TO.nil (TX.next (TC.ret (TX.thenRet ?_)))))))))))))
         refine TX.blockRet (TX.thenRet (TX.thenRet (TX.blockRet (TX.thenRet ?_))))
         cases h
         exact TX.fin (rs := [.tmp 4]) () (.inl rfl) Try.results9 (.cons (.tmp rfl) .nil) rfl Splits.nil
        ·
         have h := condF hb7 h
         refine TO.loads (k := 0) (cs := [.int .i64 ((atG (tokAt (tksOf r2) q1)).1.Kind), .int .i64 ((atG (tokAt (tksOf r2) q1)).1.Span_From), .int .i64 ((atG (tokAt (tksOf r2) q1)).1.Span_To)]) rw_36 rfl (by decide) rfl rfl rfl rfl ?_
         refine TO.build (v := .agg #[.int .i64 0, .int .i64 0, .int .i64 0]) (ps := []) rfl (by decide) rfl (fun _ => by kernel_rfl) ?_
         refine TO.bin rfl (by decide) rfl rfl (bin_neq_36 ((atG (tokAt (tksOf r2) q1)).1) (⟨0, 0, 0⟩ : Gapi_Token)) (TO.pick (b := false) rfl (by decide) rfl rfl (TO.nil (TX.next ?_)))
         refine TC.condB rfl (fun hb8 => ?_) (fun hb8 => ?_)
         ·
          have h := condT hb8 h
          refine TC.seq (TC.region (TO.assign rfl (by decide) rfl (TO.nil (TX.next (TC.ret (TX.thenRet (TX.blockRet (TX.thenRet (TX.thenRet (TX.blockRet (TX.thenRet ?_)))))))))))
          cases h
          exact TX.fin (rs := [.tmp 4]) () (.inl rfl) Try.results9 (.cons (.tmp rfl) .nil) rfl Splits.nil
         ·
          have h := condF hb8 h
          refine TC.skip ?_
          exact TX.meetD q1 h rfl (Sbs.cons rfl (Sbs.cons rfl (Sbs.cons rfl (Sbs.cons rfl (Sbs.nil))))) Splits.nil
      ·
       have h := condF hb3 h
       refine TO.skip rfl (by decide) (TO.skip rfl (by decide) (TO.skip rfl (by decide) (TO.skip rfl (by decide) (TO.pick (b := false) rfl (by decide) rfl rfl (TO.nil (TX.next (TC.condF rfl (TC.seq (TC.region (TO.move rfl (by decide) rfl (TO.bin rfl (by decide) rfl rfl bin_neq (TO.move rfl (by decide) rfl ?_))))))))))))
       refine TO.split (s := 61) rfl (fun hb9 => ?_) (fun hb9 => ?_)
       ·
        have h := condT hb9 h
        refine TO.skip rfl (by decide) (TO.skip rfl (by decide) (TO.skip rfl (by decide) (TO.pick (b := true) rfl (by decide) rfl rfl (TO.nil (TX.next (TC.condT rfl (TC.seq (TC.region (TO.assign rfl (by decide) rfl (TO.nil (TX.next (TC.ret (TX.thenRet ?_)))))))))))))
        refine TX.blockRet (TX.thenRet (TX.thenRet (TX.blockRet (TX.thenRet ?_))))
        cases h
        exact TX.fin (rs := [.tmp 4]) () (.inl rfl) Try.results9 (.cons (.tmp rfl) .nil) rfl Splits.nil
       ·
        have h := condF hb9 h
        refine TO.loads (k := 0) (cs := [.int .i64 ((atG (tokAt (tksOf r2) q1)).1.Kind), .int .i64 ((atG (tokAt (tksOf r2) q1)).1.Span_From), .int .i64 ((atG (tokAt (tksOf r2) q1)).1.Span_To)]) rw_36 rfl (by decide) rfl rfl rfl rfl ?_
        refine TO.build (v := .agg #[.int .i64 0, .int .i64 0, .int .i64 0]) (ps := []) rfl (by decide) rfl (fun _ => by kernel_rfl) ?_
        refine TO.bin rfl (by decide) rfl rfl (bin_neq_36 ((atG (tokAt (tksOf r2) q1)).1) (⟨0, 0, 0⟩ : Gapi_Token)) (TO.pick (b := false) rfl (by decide) rfl rfl (TO.nil (TX.next ?_)))
        refine TC.condB rfl (fun hb10 => ?_) (fun hb10 => ?_)
        ·
         have h := condT hb10 h
         refine TC.seq (TC.region (TO.assign rfl (by decide) rfl (TO.nil (TX.next (TC.ret (TX.thenRet (TX.blockRet (TX.thenRet (TX.thenRet (TX.blockRet (TX.thenRet ?_)))))))))))
         cases h
         exact TX.fin (rs := [.tmp 4]) () (.inl rfl) Try.results9 (.cons (.tmp rfl) .nil) rfl Splits.nil
        ·
         have h := condF hb10 h
         refine TC.skip ?_
         exact TX.meetD q1 h rfl (Sbs.cons rfl (Sbs.cons rfl (Sbs.cons rfl (Sbs.cons rfl (Sbs.nil))))) Splits.nil
     ·
      rintro x4 h
      subst hj2
      show TC _ _ _ _ _ ([]) _ _ [(0, .string r2), (6, .int .i64 x4), (32, .agg #[.int .i64 at1, .int .i64 (IntKind.i64.wrap (Int.tmod (IntKind.u64.wrap at1) (IntKind.u64.wrap ((r2.size : Int) + 1)))), .int .i64 (r2.size : Int)]), (33, .int .i64 x3)] []
      refine TC.seq (TC.region (TO.move rfl (by decide) rfl (TO.move rfl (by decide) rfl ?_)))
      obtain ⟨hg4, h⟩ := grdE h
      refine TO.callP (v := .tuple #[.agg #[.int .i64 ((nxG (nextO r2 x4)).1.From), .int .i64 ((nxG (nextO r2 x4)).1.To)], .bool ((nxG (nextO r2 x4)).2)]) (vs := [.string r2, .int .i64 x4]) rfl (by decide) rfl rfl rfl en_35 (wnext_c r2 hg4 x4) (TO.move rfl (by decide) rfl (TO.extract rfl (by decide) rfl rfl (TO.extract rfl (by decide) rfl rfl ?_)))
      refine TO.alloc zr_34 rfl (by decide) (fun b2 => ?_)
      refine TO.stores (k := 0) (vs := [.int .i64 ((nxG (nextO r2 x4)).1.From), .int .i64 ((nxG (nextO r2 x4)).1.To)]) (l' := [.int .i64 ((nxG (nextO r2 x4)).1.From), .int .i64 ((nxG (nextO r2 x4)).1.To)]) sz_34 rfl rfl rfl rfl rfl (show _ ≤ _ by simp) rfl rfl ?_
      show TO _ _ _ _ _ _ _ _ _ _ [cells b2 [.int .i64 ((nxG (nextO r2 x4)).1.From), .int .i64 ((nxG (nextO r2 x4)).1.To)] 34]
      refine TO.assign rfl (by decide) rfl (TO.nil (TX.next (TC.seq (TC.region (TO.move rfl (by decide) rfl (TO.move rfl (by decide) rfl ?_))))))
      obtain ⟨r4, hq5, h⟩ := andE h
      refine TO.callP (v := .tuple #[.agg #[.int .i64 r4.1.From, .int .i64 r4.1.To], .bool r4.2]) (vs := [.string r2, .int .i64 x4]) rfl (by decide) rfl rfl rfl en_36 (ref07_Next_fn hq5) (TO.move rfl (by decide) rfl (TO.extract rfl (by decide) rfl rfl (TO.extract rfl (by decide) rfl rfl ?_)))
      refine TO.alloc zr_34 rfl (by decide) (fun b3 => ?_)
      refine TO.stores (k := 1) (vs := [.int .i64 r4.1.From, .int .i64 r4.1.To]) (l' := [.int .i64 r4.1.From, .int .i64 r4.1.To]) sz_34 rfl rfl rfl rfl rfl (show _ ≤ _ by simp) rfl rfl ?_
      show TO _ _ _ _ _ _ _ _ _ _ [cells b2 [.int .i64 ((nxG (nextO r2 x4)).1.From), .int .i64 ((nxG (nextO r2 x4)).1.To)] 34, cells b3 [.int .i64 r4.1.From, .int .i64 r4.1.To] 34]
      refine TO.assign rfl (by decide) rfl (TO.nil (TX.next (TC.seq (TC.region (TO.move rfl (by decide) rfl (TO.move rfl (by decide) rfl ?_))))))
      obtain ⟨hg5, h⟩ := grdE h
      refine TO.callP (v := .tuple #[.agg #[.int .i64 ((lastOf r2 x4).1 : Int), .int .i64 ((lastOf r2 x4).2 : Int)], .bool (decide ((0 : Int) < ((lastOf r2 x4).2 : Int)))]) (vs := [.string r2, .int .i64 x4]) rfl (by decide) rfl rfl rfl en_37 (wlast_c r2 hg5 x4) (TO.move rfl (by decide) rfl (TO.extract rfl (by decide) rfl rfl (TO.extract rfl (by decide) rfl rfl ?_)))
      refine TO.alloc zr_34 rfl (by decide) (fun b4 => ?_)
      refine TO.stores (k := 2) (vs := [.int .i64 ((lastOf r2 x4).1 : Int), .int .i64 ((lastOf r2 x4).2 : Int)]) (l' := [.int .i64 ((lastOf r2 x4).1 : Int), .int .i64 ((lastOf r2 x4).2 : Int)]) sz_34 rfl rfl rfl rfl rfl (show _ ≤ _ by simp) rfl rfl ?_
      show TO _ _ _ _ _ _ _ _ _ _ [cells b2 [.int .i64 ((nxG (nextO r2 x4)).1.From), .int .i64 ((nxG (nextO r2 x4)).1.To)] 34, cells b3 [.int .i64 r4.1.From, .int .i64 r4.1.To] 34, cells b4 [.int .i64 ((lastOf r2 x4).1 : Int), .int .i64 ((lastOf r2 x4).2 : Int)] 34]
      refine TO.assign rfl (by decide) rfl (TO.nil (TX.next (TC.seq (TC.region (TO.move rfl (by decide) rfl (TO.move rfl (by decide) rfl ?_))))))
      obtain ⟨r5, hq6, h⟩ := andE h
      refine TO.callP (v := .tuple #[.agg #[.int .i64 r5.1.From, .int .i64 r5.1.To], .bool r5.2]) (vs := [.string r2, .int .i64 x4]) rfl (by decide) rfl rfl rfl en_38 (ref07_Last_fn hq6) (TO.move rfl (by decide) rfl (TO.extract rfl (by decide) rfl rfl (TO.extract rfl (by decide) rfl rfl ?_)))
      refine TO.alloc zr_34 rfl (by decide) (fun b5 => ?_)
      refine TO.stores (k := 3) (vs := [.int .i64 r5.1.From, .int .i64 r5.1.To]) (l' := [.int .i64 r5.1.From, .int .i64 r5.1.To]) sz_34 rfl rfl rfl rfl rfl (show _ ≤ _ by simp) rfl rfl ?_
      show TO _ _ _ _ _ _ _ _ _ _ [cells b2 [.int .i64 ((nxG (nextO r2 x4)).1.From), .int .i64 ((nxG (nextO r2 x4)).1.To)] 34, cells b3 [.int .i64 r4.1.From, .int .i64 r4.1.To] 34, cells b4 [.int .i64 ((lastOf r2 x4).1 : Int), .int .i64 ((lastOf r2 x4).2 : Int)] 34, cells b5 [.int .i64 r5.1.From, .int .i64 r5.1.To] 34]
      refine TO.assign rfl (by decide) rfl (TO.nil (TX.next (TC.seq (TC.region (TO.loads (k := 0) (cs := [.int .i64 ((nxG (nextO r2 x4)).1.From), .int .i64 ((nxG (nextO r2 x4)).1.To)]) rw_34 rfl (by decide) rfl rfl rfl rfl (TO.loads (k := 1) (cs := [.int .i64 r4.1.From, .int .i64 r4.1.To]) rw_34 rfl (by decide) rfl rfl rfl rfl (TO.bin rfl (by decide) rfl rfl (bin_neq_34 ((nxG (nextO r2 x4)).1) r4.1) (TO.move rfl (by decide) rfl ?_))))))))
      refine TO.split (s := 93) rfl (fun hb11 => ?_) (fun hb11 => ?_)
      ·
       have h := condT hb11 h
       refine TO.skip rfl (by decide) (TO.skip rfl (by decide) (TO.skip rfl (by decide) (TO.pick (b := true) rfl (by decide) rfl rfl (TO.move rfl (by decide) rfl (TO.skip rfl (by decide) (TO.skip rfl (by decide) (TO.skip rfl (by decide) (TO.pick (b := true) rfl (by decide) rfl rfl (TO.move rfl (by decide) rfl (TO.skip rfl (by decide) (TO.skip rfl (by decide) (TO.skip rfl (by decide) (TO.pick (b := true) rfl (by decide) rfl rfl ?_)))))))))))))
       refine TO.move rfl (by decide) rfl (TO.skip rfl (by decide) (TO.skip rfl (by decide) (TO.skip rfl (by decide) (TO.skip rfl (by decide) (TO.skip rfl (by decide) (TO.skip rfl (by decide) (TO.skip rfl (by decide) (TO.pick (b := true) rfl (by decide) rfl rfl (TO.nil (TX.next (TC.condT rfl (TC.seq (TC.region ?_)))))))))))))
       refine TO.assign rfl (by decide) rfl (TO.nil (TX.next (TC.ret (TX.blockRet (TX.thenRet (TX.thenRet (TX.blockRet (TX.thenRet ?_))))))))
       cases h
       exact TX.fin (rs := [.tmp 4]) () (.inl rfl) Try.results9 (.cons (.tmp rfl) .nil) rfl Splits.nil
      ·
       have h := condF hb11 h
       refine TO.move rfl (by decide) rfl (TO.move rfl (by decide) rfl (TO.bin rfl (by decide) rfl rfl (bin_boolneq Try.underlying4) (TO.pick (b := false) rfl (by decide) rfl rfl (TO.move rfl (by decide) rfl ?_))))
       refine TO.split (s := 98) rfl (fun hb12 => ?_) (fun hb12 => ?_)
       ·
        have h := condT hb12 h
        refine TO.skip rfl (by decide) (TO.skip rfl (by decide) (TO.skip rfl (by decide) (TO.pick (b := true) rfl (by decide) rfl rfl (TO.move rfl (by decide) rfl (TO.skip rfl (by decide) (TO.skip rfl (by decide) (TO.skip rfl (by decide) (TO.pick (b := true) rfl (by decide) rfl rfl (TO.move rfl (by decide) rfl (TO.skip rfl (by decide) (TO.skip rfl (by decide) (TO.skip rfl (by decide) (TO.skip rfl (by decide) ?_)))))))))))))
        refine TO.skip rfl (by decide) (TO.skip rfl (by decide) (TO.skip rfl (by decide) (TO.pick (b := true) rfl (by decide) rfl rfl (TO.nil (TX.next (TC.condT rfl (TC.seq (TC.region (TO.assign rfl (by decide) rfl (TO.nil (TX.next (TC.ret (TX.blockRet ?_)))))))))))))
        refine TX.thenRet (TX.thenRet (TX.blockRet (TX.thenRet ?_)))
        cases h
        exact TX.fin (rs := [.tmp 4]) () (.inl rfl) Try.results9 (.cons (.tmp rfl) .nil) rfl Splits.nil
       ·
        have h := condF hb12 h
        refine TO.loads (k := 2) (cs := [.int .i64 ((lastOf r2 x4).1 : Int), .int .i64 ((lastOf r2 x4).2 : Int)]) rw_34 rfl (by decide) rfl rfl rfl rfl (TO.loads (k := 3) (cs := [.int .i64 r5.1.From, .int .i64 r5.1.To]) rw_34 rfl (by decide) rfl rfl rfl rfl (TO.bin rfl (by decide) rfl rfl (bin_neq_34 (⟨((lastOf r2 x4).1 : Int), ((lastOf r2 x4).2 : Int)⟩ : Gapi_Span) r5.1) (TO.pick (b := false) rfl (by decide) rfl rfl (TO.move rfl (by decide) rfl ?_))))
        refine TO.split (s := 103) rfl (fun hb13 => ?_) (fun hb13 => ?_)
        ·
         have h := condT hb13 h
         refine TO.skip rfl (by decide) (TO.skip rfl (by decide) (TO.skip rfl (by decide) (TO.pick (b := true) rfl (by decide) rfl rfl (TO.move rfl (by decide) rfl (TO.skip rfl (by decide) (TO.skip rfl (by decide) (TO.skip rfl (by decide) (TO.skip rfl (by decide) (TO.skip rfl (by decide) (TO.skip rfl (by decide) (TO.skip rfl (by decide) (TO.pick (b := true) rfl (by decide) rfl rfl (TO.nil ?_)))))))))))))
         refine TX.next (TC.condT rfl (TC.seq (TC.region (TO.assign rfl (by decide) rfl (TO.nil (TX.next (TC.ret (TX.blockRet (TX.thenRet (TX.thenRet (TX.blockRet (TX.thenRet ?_))))))))))))
         cases h
         exact TX.fin (rs := [.tmp 4]) () (.inl rfl) Try.results9 (.cons (.tmp rfl) .nil) rfl Splits.nil
        ·
         have h := condF hb13 h
         refine TO.move rfl (by decide) rfl (TO.move rfl (by decide) rfl (TO.bin rfl (by decide) rfl rfl (bin_boolneq Try.underlying4) (TO.pick (b := false) rfl (by decide) rfl rfl (TO.move rfl (by decide) rfl ?_))))
         refine TO.split (s := 108) rfl (fun hb14 => ?_) (fun hb14 => ?_)
         ·
          have h := condT hb14 h
          refine TO.skip rfl (by decide) (TO.skip rfl (by decide) (TO.skip rfl (by decide) (TO.skip rfl (by decide) (TO.skip rfl (by decide) (TO.skip rfl (by decide) (TO.skip rfl (by decide) (TO.pick (b := true) rfl (by decide) rfl rfl (TO.nil (TX.next (TC.condT rfl (TC.seq (TC.region (TO.assign rfl (by decide) rfl ?_)))))))))))))
          refine TO.nil (TX.next (TC.ret (TX.blockRet (TX.thenRet (TX.thenRet (TX.blockRet (TX.thenRet ?_)))))))
          cases h
          exact TX.fin (rs := [.tmp 4]) () (.inl rfl) Try.results9 (.cons (.tmp rfl) .nil) rfl Splits.nil
         ·
          have h := condF hb14 h
          refine TO.move rfl (by decide) rfl (TO.move rfl (by decide) rfl ?_)
          obtain ⟨hg6, h⟩ := grdE h
          refine TO.callP (v := .bool (edge (tksOf r2) x4)) (vs := [.string r2, .int .i64 x4]) rfl (by decide) rfl rfl rfl en_26 (wedge_c r2 hg6 x4) (TO.move rfl (by decide) rfl (TO.move rfl (by decide) rfl ?_))
          obtain ⟨r6, hq7, h⟩ := andE h
          refine TO.callP (v := .bool r6) (vs := [.string r2, .int .i64 x4]) rfl (by decide) rfl rfl rfl en_39 (ref07_Edge_fn hq7) (TO.bin rfl (by decide) rfl rfl (bin_boolneq Try.underlying4) (TO.pick (b := false) rfl (by decide) rfl rfl (TO.nil (TX.next ?_))))
          refine TC.condB rfl (fun hb15 => ?_) (fun hb15 => ?_)
          ·
           have h := condT hb15 h
           refine TC.seq (TC.region (TO.assign rfl (by decide) rfl (TO.nil (TX.next (TC.ret (TX.blockRet (TX.thenRet (TX.thenRet (TX.blockRet (TX.thenRet ?_))))))))))
           cases h
           exact TX.fin (rs := [.tmp 4]) () (.inl rfl) Try.results9 (.cons (.tmp rfl) .nil) rfl Splits.nil
          ·
           have h := condF hb15 h
           refine TC.skip (TX.blockNormal (TX.next (TC.region ?_)))
           obtain ⟨hg7, h⟩ := grdE h
           refine TO.bin rfl (by decide) rfl rfl (bin_add (r := x3 + 1) (IntWalk.i64_in _ hg7)) (TO.move rfl (by decide) rfl (TO.nil ?_))
           subst hag1
           exact TX.againD (n1, x3 + 1) h (Nat.lt_succ_self _) rfl (Sbs.cons rfl (Sbs.cons rfl (Sbs.cons rfl (Sbs.nil)))) Splits.nil
    ·
     have h := condF hb2 h
     refine TC.exit (TX.thenExit (TX.thenExit (TX.blockHere ?_)))
     exact TX.meetD () h rfl (Sbs.nil) Splits.nil
  ·
   rintro _ h
   subst hj1
   show TC _ _ _ _ _ ([]) _ _ [] []
   refine TC.seq (TC.region ?_)
   obtain ⟨r7, hq8, h⟩ := andE h
   refine TO.callP (v := .bool r7) (vs := []) rfl (by decide) rfl rfl rfl en_12 (law07_wakes_fn hq8) (TO.assign rfl (by decide) rfl (TO.nil (TX.next (TC.ret ?_))))
   cases h
   exact TX.fin (rs := [.tmp 4]) () (.inl rfl) Try.results9 (.cons (.tmp rfl) .nil) rfl Splits.nil
end Go.Proofs.Ytgeefojgkbglnaa
namespace Go.Proofs.Ytgeefojgkbglnaa
open Go.RowKit Go.Lib
set_option linter.unusedVariables false
set_option linter.unusedSimpArgs false
theorem ch_find {l : List Tk} {a b : Nat} (h : Ch Tk.f Tk.t a l b) {n : Nat} (hn : n < b) (ha : a ≤ n) : ∃ x, l.find? (fun p => decide ((n : Int) < (p.t : Int))) = some x := by
  induction l generalizing a with
  | nil => cases h; omega
  | cons x l ih =>
    rw [List.find?_cons]
    by_cases hx : n < x.t
    · rw [decide_eq_true (by omega)]; exact ⟨x, rfl⟩
    · rw [decide_eq_false (by omega)]; exact ih h.2.2 (by omega)
theorem tokAt_in (s : ByteArray) (n : Int) (h0 : 0 ≤ n) (h1 : n < s.size) : (atG (tokAt (tksOf s) n)).2 = 0 ∧ (atG (tokAt (tksOf s) n)).1 = (match (tksOf s).find? (fun p => decide (n < (p.t : Int))) with | some p => tkG p | none => ⟨0, 0, 0⟩) := by
  obtain ⟨m, rfl⟩ : ∃ m : Nat, n = m := ⟨n.toNat, by omega⟩
  obtain ⟨x, hx⟩ := ch_find (tks_ch s) (n := m) (by omega) (by omega)
  unfold tokAt
  rw [if_neg (by omega), hx]
  exact ⟨rfl, rfl⟩
theorem tokAt_out (s : ByteArray) (n : Int) (h : n < 0 ∨ (s.size : Int) ≤ n) : tokAt (tksOf s) n = none := by
  unfold tokAt
  by_cases h0 : n < 0
  · rw [if_pos h0]
  · rw [if_neg h0, List.find?_eq_none]
    intro x hx
    have := (tks_ch s).mem x hx
    simp; omega
theorem places_step (t : ByteArray) (hs : t.size ≤ 16384) (a : Int) (k : Nat) (hk : k < 3) (J : Option Bool) (ag : Int → Option Bool) : law07_WordPlaces_s1 a J t ag (k : Int) = ag ((k + 1 : Nat) : Int) := by
  unfold law07_WordPlaces_s1
  obtain ⟨q, hq, _⟩ := get3 (a := a) (b := IntKind.i64.wrap (Int.tmod (IntKind.u64.wrap a) (IntKind.u64.wrap ((t.size : Int) + 1)))) (c := (t.size : Int)) hk
  refine condTI (decide_eq_true (by omega)) (joinI (thenI hq (grdI (by omega) ?_)))
  have tail : ∀ x4 : Int, (grd (t.size ≤ 140737488351232) <| andThen (ref07_Next_v t x4) fun (r4 : (Gapi_Span × Bool)) => grd (t.size ≤ 140737488351232) <| andThen (ref07_Last_v t x4) fun (r5 : (Gapi_Span × Bool)) =>
      bcond (!(eq_Gapi_Span ((nxG (nextO t x4)).1) r4.1)) (some false) (bcond (((nxG (nextO t x4)).2) != r4.2) (some false) (bcond (!(eq_Gapi_Span (⟨((lastOf t x4).1 : Int), ((lastOf t x4).2 : Int)⟩ : Gapi_Span) r5.1)) (some false) (bcond ((decide ((0 : Int) < ((lastOf t x4).2 : Int))) != r5.2) (some false) (
      grd (t.size ≤ 140737488351232) <| andThen (ref07_Edge_v t x4) fun (r6 : Bool) => bcond ((edge (tksOf t) x4) != r6) (some false) (grd (I64 ((k : Int) + 1)) <| ag ((k : Int) + 1))))))) = ag ((k + 1 : Nat) : Int) := fun x4 => by
    refine grdI (by omega) (thenI (rnext_v t (by omega) x4) (grdI (by omega) (thenI (rlast_v t (by omega) x4) ?_)))
    refine condFI (eqr_span _) (condFI (bne_self _) (condFI (eqr_span _) (condFI (bne_self _) (grdI (by omega) (thenI (redge_v t (by omega) x4) (condFI (bne_self _) (grdI ⟨by omega, by omega⟩ rfl)))))))
  by_cases h0 : 0 ≤ q
  · refine condTI (decide_eq_true h0) ?_
    by_cases h1 : q < t.size
    · obtain ⟨e1, e2⟩ := tokAt_in t q h0 h1
      refine condTI (decide_eq_true h1) (condFI (by rw [e1]; rfl) (thenI (rat_v t (by omega) q) (condFI (by rw [e2]; exact eqr_tok _) (tail q))))
    · refine condFI (decide_eq_false h1) ?_
      rw [tokAt_out t q (.inr (by omega))]
      exact condFI rfl (condFI (eqr_tok _) (tail q))
  · refine condFI (decide_eq_false h0) ?_
    rw [tokAt_out t q (.inl (by omega))]
    exact condFI rfl (condFI (eqr_tok _) (tail q))
theorem places_law (s : ByteArray) (a : Int) : law07_WordPlaces_v s a = some true := by
  unfold law07_WordPlaces_v
  obtain ⟨t, ht, hs⟩ := short_v s
  refine thenI wakes_v (condFI rfl (joinI (thenI ht (grdI ⟨by omega, by omega⟩ (grdI (by rw [u64w _ (by omega)]; omega) ?_)))))
  refine loop_to0 3 (fun ag k hk => places_step t hs a k hk _ ag) (fun ag => ?_) (by unfold fuel; omega)
  unfold law07_WordPlaces_s1
  exact condFI rfl wakesK
theorem wordPlaces_any (s : ByteArray) (a : Int) (w : World) (h0 : s.size ≤ 140737488351232) (h1 : -9223372036854775808 ≤ a) (h2 : a ≤ 9223372036854775807) : Calls Try.prog 9 #[.string s, .int .i64 a] w fun e w' => e = .returned (.bool true) ∧ Below w.heap.size w w' := law07_WordPlaces_fn (places_law s a) w
end Go.Proofs.Ytgeefojgkbglnaa
