/-
  Texts laid together: LpT, Pb, Pc, Pd, Bytes, Bld, Gr, LpJ. Nothing is assumed.
-/
import Derived.Test.YtnhdnpdbmgeheaaPageTurns2
import Derived.Test.YtnhdnpdbmgeheaaPageTurns1
import Derived.Lib.AppendStr
import Derived.Laws.IdiomStrings
import Derived.Lib.BufferRead
import Derived.Lib.Builder
import Derived.Outline
import Derived.Lib.UnsafeStr
import Derived.Lib.MakeNoZero
namespace Go.Proofs.Ytnhdnpdbmgeheaa
open Go.RowKit Go.Lib
set_option linter.unusedVariables false
set_option linter.unusedSimpArgs false
def page_may_v (l1 : Gapi_Layout) : Option Bool := bcond (decide ((8 : Int) ≤ l1.Width)) ( bcond (decide ((l1.Width : Int) ≤ 256)) ( bcond (decide ((4 : Int) ≤ l1.Height)) ( bcond (decide ((l1.Height : Int) ≤ 200)) ( bcond (decide ((0 : Int) ≤ l1.Turn)) ( bcond (decide ((l1.Turn : Int) ≤ 7)) ( bcond (decide ((0 : Int) ≤ l1.Every)) ( some (decide ((l1.Every : Int) ≤ 512))
) ( some false
)
) ( some false
)
) ( some false
)
) ( some false
)
) ( some false
)
) ( some false
)
) ( some false
)
set_option maxRecDepth 100000 in
set_option maxHeartbeats 4000000 in
theorem page_may_fn {l1 : Gapi_Layout} {r : Bool} (h : page_may_v l1 = some r) : FnP Try.prog 13 [.agg #[.int .i64 l1.Width, .int .i64 l1.Height, .int .i64 l1.Turn, .int .i64 l1.Every]] (.bool r) := by
 unfold page_may_v at h
 refine FnP.intro Try.func13 rfl Try.ntmps13 (by simp) ?_
 intro w0 K
 refine TC.seq (TC.region ?_)
 refine TO.box rfl dc rfl (fun b1 => ?_)
 refine TO.assign rfl dc rfl (TO.nil (TX.next (TC.seq (TC.region (TO.fieldAddr fl_23_0 rfl dc rfl (show _ = 0 from rfl) (TO.load (k := 0) sc_3 rfl dc rfl rfl rfl (TO.bin rfl dc rfl rfl bin_geq (TO.move rfl dc rfl ?_))))))))
 refine TO.split (s := 6) rfl (fun hb1 => ?_) (fun hb1 => ?_)
 ·
  have h := condT hb1 h
  refine TO.fieldAddr fl_23_0 rfl dc rfl (show _ = 0 from rfl) (TO.load (k := 0) sc_3 rfl dc rfl rfl rfl (TO.bin rfl dc rfl rfl bin_leq (TO.pick (b := true) rfl dc rfl rfl (TO.move rfl dc rfl ?_))))
  refine TO.split (s := 11) rfl (fun hb2 => ?_) (fun hb2 => ?_)
  ·
   have h := condT hb2 h
   refine TO.fieldAddr fl_23_1 rfl dc rfl (show _ = 1 from rfl) (TO.load (k := 0) sc_3 rfl dc rfl rfl rfl (TO.bin rfl dc rfl rfl bin_geq (TO.pick (b := true) rfl dc rfl rfl (TO.move rfl dc rfl ?_))))
   refine TO.split (s := 16) rfl (fun hb3 => ?_) (fun hb3 => ?_)
   ·
    have h := condT hb3 h
    refine TO.fieldAddr fl_23_1 rfl dc rfl (show _ = 1 from rfl) (TO.load (k := 0) sc_3 rfl dc rfl rfl rfl (TO.bin rfl dc rfl rfl bin_leq (TO.pick (b := true) rfl dc rfl rfl (TO.move rfl dc rfl ?_))))
    refine TO.split (s := 21) rfl (fun hb4 => ?_) (fun hb4 => ?_)
    ·
     have h := condT hb4 h
     refine TO.fieldAddr fl_23_2 rfl dc rfl (show _ = 2 from rfl) (TO.load (k := 0) sc_3 rfl dc rfl rfl rfl (TO.bin rfl dc rfl rfl bin_geq (TO.pick (b := true) rfl dc rfl rfl (TO.move rfl dc rfl ?_))))
     refine TO.split (s := 26) rfl (fun hb5 => ?_) (fun hb5 => ?_)
     ·
      have h := condT hb5 h
      refine TO.fieldAddr fl_23_2 rfl dc rfl (show _ = 2 from rfl) (TO.load (k := 0) sc_3 rfl dc rfl rfl rfl (TO.bin rfl dc rfl rfl bin_leq (TO.pick (b := true) rfl dc rfl rfl (TO.move rfl dc rfl ?_))))
      refine TO.split (s := 31) rfl (fun hb6 => ?_) (fun hb6 => ?_)
      ·
       have h := condT hb6 h
       refine TO.fieldAddr fl_23_3 rfl dc rfl (show _ = 3 from rfl) (TO.load (k := 0) sc_3 rfl dc rfl rfl rfl (TO.bin rfl dc rfl rfl bin_geq (TO.pick (b := true) rfl dc rfl rfl (TO.move rfl dc rfl ?_))))
       refine TO.split (s := 36) rfl (fun hb7 => ?_) (fun hb7 => ?_)
       ·
        have h := condT hb7 h
        refine TO.fieldAddr fl_23_3 rfl dc rfl (show _ = 3 from rfl) (TO.load (k := 0) sc_3 rfl dc rfl rfl rfl (TO.bin rfl dc rfl rfl bin_leq (TO.pick (b := true) rfl dc rfl rfl (TO.assign rfl dc rfl (TO.nil (TX.next (TC.ret ?_)))))))
        cases h
        exact TX.fin (rs := [.tmp 2]) () (.inl rfl) Try.results13 (.cons (.tmp rfl) .nil) rfl Splits.nil
       ·
        have h := condF hb7 h
        refine TO.skip rfl dc (TO.skip rfl dc (TO.skip rfl dc (TO.pick (b := false) rfl dc rfl rfl (TO.assign rfl dc rfl (TO.nil (TX.next (TC.ret ?_)))))))
        cases h
        exact TX.fin (rs := [.tmp 2]) () (.inl rfl) Try.results13 (.cons (.tmp rfl) .nil) rfl Splits.nil
      ·
       have h := condF hb6 h
       refine TO.skip rfl dc (TO.skip rfl dc (TO.skip rfl dc (TO.pick (b := false) rfl dc rfl rfl (TO.move rfl dc rfl (TO.skip rfl dc (TO.skip rfl dc (TO.skip rfl dc (TO.pick (b := false) rfl dc rfl rfl (TO.assign rfl dc rfl (TO.nil (TX.next (TC.ret ?_))))))))))))
       cases h
       exact TX.fin (rs := [.tmp 2]) () (.inl rfl) Try.results13 (.cons (.tmp rfl) .nil) rfl Splits.nil
     ·
      have h := condF hb5 h
      refine TO.skip rfl dc (TO.skip rfl dc (TO.skip rfl dc (TO.pick (b := false) rfl dc rfl rfl (TO.move rfl dc rfl (TO.skip rfl dc (TO.skip rfl dc (TO.skip rfl dc (TO.pick (b := false) rfl dc rfl rfl (TO.move rfl dc rfl (TO.skip rfl dc (TO.skip rfl dc (TO.skip rfl dc (TO.pick (b := false) rfl dc rfl rfl ?_)))))))))))))
      refine TO.assign rfl dc rfl (TO.nil (TX.next (TC.ret ?_)))
      cases h
      exact TX.fin (rs := [.tmp 2]) () (.inl rfl) Try.results13 (.cons (.tmp rfl) .nil) rfl Splits.nil
    ·
     have h := condF hb4 h
     refine TO.skip rfl dc (TO.skip rfl dc (TO.skip rfl dc (TO.pick (b := false) rfl dc rfl rfl (TO.move rfl dc rfl (TO.skip rfl dc (TO.skip rfl dc (TO.skip rfl dc (TO.pick (b := false) rfl dc rfl rfl (TO.move rfl dc rfl (TO.skip rfl dc (TO.skip rfl dc (TO.skip rfl dc (TO.pick (b := false) rfl dc rfl rfl ?_)))))))))))))
     refine TO.move rfl dc rfl (TO.skip rfl dc (TO.skip rfl dc (TO.skip rfl dc (TO.pick (b := false) rfl dc rfl rfl (TO.assign rfl dc rfl (TO.nil (TX.next (TC.ret ?_))))))))
     cases h
     exact TX.fin (rs := [.tmp 2]) () (.inl rfl) Try.results13 (.cons (.tmp rfl) .nil) rfl Splits.nil
   ·
    have h := condF hb3 h
    refine TO.skip rfl dc (TO.skip rfl dc (TO.skip rfl dc (TO.pick (b := false) rfl dc rfl rfl (TO.move rfl dc rfl (TO.skip rfl dc (TO.skip rfl dc (TO.skip rfl dc (TO.pick (b := false) rfl dc rfl rfl (TO.move rfl dc rfl (TO.skip rfl dc (TO.skip rfl dc (TO.skip rfl dc (TO.pick (b := false) rfl dc rfl rfl ?_)))))))))))))
    refine TO.move rfl dc rfl (TO.skip rfl dc (TO.skip rfl dc (TO.skip rfl dc (TO.pick (b := false) rfl dc rfl rfl (TO.move rfl dc rfl (TO.skip rfl dc (TO.skip rfl dc (TO.skip rfl dc (TO.pick (b := false) rfl dc rfl rfl (TO.assign rfl dc rfl (TO.nil (TX.next (TC.ret ?_)))))))))))))
    cases h
    exact TX.fin (rs := [.tmp 2]) () (.inl rfl) Try.results13 (.cons (.tmp rfl) .nil) rfl Splits.nil
  ·
   have h := condF hb2 h
   refine TO.skip rfl dc (TO.skip rfl dc (TO.skip rfl dc (TO.pick (b := false) rfl dc rfl rfl (TO.move rfl dc rfl (TO.skip rfl dc (TO.skip rfl dc (TO.skip rfl dc (TO.pick (b := false) rfl dc rfl rfl (TO.move rfl dc rfl (TO.skip rfl dc (TO.skip rfl dc (TO.skip rfl dc (TO.pick (b := false) rfl dc rfl rfl ?_)))))))))))))
   refine TO.move rfl dc rfl (TO.skip rfl dc (TO.skip rfl dc (TO.skip rfl dc (TO.pick (b := false) rfl dc rfl rfl (TO.move rfl dc rfl (TO.skip rfl dc (TO.skip rfl dc (TO.skip rfl dc (TO.pick (b := false) rfl dc rfl rfl (TO.move rfl dc rfl (TO.skip rfl dc (TO.skip rfl dc (TO.skip rfl dc ?_)))))))))))))
   refine TO.pick (b := false) rfl dc rfl rfl (TO.assign rfl dc rfl (TO.nil (TX.next (TC.ret ?_))))
   cases h
   exact TX.fin (rs := [.tmp 2]) () (.inl rfl) Try.results13 (.cons (.tmp rfl) .nil) rfl Splits.nil
 ·
  have h := condF hb1 h
  refine TO.skip rfl dc (TO.skip rfl dc (TO.skip rfl dc (TO.pick (b := false) rfl dc rfl rfl (TO.move rfl dc rfl (TO.skip rfl dc (TO.skip rfl dc (TO.skip rfl dc (TO.pick (b := false) rfl dc rfl rfl (TO.move rfl dc rfl (TO.skip rfl dc (TO.skip rfl dc (TO.skip rfl dc (TO.pick (b := false) rfl dc rfl rfl ?_)))))))))))))
  refine TO.move rfl dc rfl (TO.skip rfl dc (TO.skip rfl dc (TO.skip rfl dc (TO.pick (b := false) rfl dc rfl rfl (TO.move rfl dc rfl (TO.skip rfl dc (TO.skip rfl dc (TO.skip rfl dc (TO.pick (b := false) rfl dc rfl rfl (TO.move rfl dc rfl (TO.skip rfl dc (TO.skip rfl dc (TO.skip rfl dc ?_)))))))))))))
  refine TO.pick (b := false) rfl dc rfl rfl (TO.move rfl dc rfl (TO.skip rfl dc (TO.skip rfl dc (TO.skip rfl dc (TO.pick (b := false) rfl dc rfl rfl (TO.assign rfl dc rfl (TO.nil (TX.next (TC.ret ?_)))))))))
  cases h
  exact TX.fin (rs := [.tmp 2]) () (.inl rfl) Try.results13 (.cons (.tmp rfl) .nil) rfl Splits.nil
def page_turner_space_v (t1 : Gpage_turner) (k1 : Int) : Option Bool := andThen (getO t1.cells k1) fun (q1 : Gapi_Cell) => grd (I64 (q1.Span_From + 1)) <| bcond ((q1.Span_To : Int) == (q1.Span_From + 1)) ( andThen (getB t1.s q1.Span_From) fun (c1 : Int) => some ((c1 : Int) == 32)
) ( some false
)
set_option maxRecDepth 100000 in
set_option maxHeartbeats 4000000 in
theorem page_turner_space_fn {bt1 : Nat} {t1 : Gpage_turner} {t1_h0 t1_h1 t1_h2 : Hd} {k1 : Int} {r : Bool} (h : page_turner_space_v t1 k1 = some r) : FnR Try.prog 30 [.pointer (some ⟨bt1, 0, none⟩), .int .i64 k1] [cells bt1 [.string t1.s, t1_h0.v, t1_h1.v, t1_h2.v, .int .i64 t1.first, .int .i64 t1.rest] 57, vec enc_Gapi_Cell 52 3 t1_h0.v t1.cells, vec (encI (.i64)) 3 1 t1_h1.v t1.wide, vec (encI (.i64)) 3 1 t1_h2.v t1.ends] [] (fun _ : Unit => (.bool r)) (fun _ => []) := by
 unfold page_turner_space_v at h
 refine FnR.intro Try.func30 rfl Try.ntmps30 (by simp) ?_
 intro w0 K hrd
 refine TC.seq (TC.region (TO.assign rfl dc rfl (TO.nil (TX.next (TC.seq (TC.region (TO.move rfl dc rfl (TO.nilCheck rfl dc rfl (TO.fieldAddr fl_57_1 rfl dc rfl (show _ = 1 from rfl) (TO.loadRd (i := 0) hrd rfl sc_44 rfl dc rfl rfl (TO.move rfl dc rfl ?_)))))))))))
 obtain ⟨q1, hq1, h⟩ := andE h
 refine TO.indexVw (hrd.vw (i := 1) rfl) hq1 Try.underlying44 sz_52 rfl dc rfl rfl rfl (TO.fieldAddr fl_52_0 rfl dc rfl (show _ = (0 + (k1 : Int).toNat) * 3 from rfl) (TO.loadsVecRd (m := 0 + (k1 : Int).toNat) (j := 0) (i := 1) (q := q1) (cs := [.int .i64 q1.Span_From, .int .i64 q1.Span_To]) hrd rfl rw_50 enc_Gapi_Cell_len rfl dc rfl (Vw.get (hrd.vw (i := 1) rfl) hq1) rfl rfl rfl ?_))
 refine TO.alloc zr_50 rfl dc (fun b1 => ?_)
 refine TO.stores (k := 0) (vs := [.int .i64 q1.Span_From, .int .i64 q1.Span_To]) (l' := [.int .i64 q1.Span_From, .int .i64 q1.Span_To]) sz_50 rfl rfl rfl rfl rfl (show _ ≤ _ by simp) rfl rfl ?_
 show TO _ _ _ _ _ _ _ _ _ _ [cells b1 [.int .i64 q1.Span_From, .int .i64 q1.Span_To] 50]
 refine TO.nil (TX.next (TC.seq ?_))
 obtain ⟨hg1, h⟩ := grdE h
 refine TC.bySplit (b := (q1.Span_To : Int) == (q1.Span_From + 1)) (fun hb1 => ?_) (fun hb1 => ?_)
 ·
  have h := condT hb1 h
  obtain ⟨c1, hq2, h⟩ := andE h
  refine TC.drawN 13 [(0, 14, .pointer (some ⟨b1, 1, none⟩)), (1, 15, .int .i64 q1.Span_To), (2, 16, .pointer (some ⟨b1, 0, none⟩)), (3, 17, .int .i64 q1.Span_From), (4, 18, .int .i64 (q1.Span_From + 1)), (5, 19, .bool true), (6, 20, .bool true), (7, 21, .pointer (some ⟨bt1, 0, none⟩)), (8, 22, .pointer (some ⟨bt1, 0, none⟩)), (9, 23, .pointer (some ⟨bt1, 0, none⟩)), (10, 24, .string t1.s), (11, 25, .pointer (some ⟨b1, 0, none⟩)), (12, 26, .int .i64 q1.Span_From)] mixed kr kr dc (by rfl) kr kr (DrawPre.cons ?_ (DrawPre.cons ?_ (DrawPre.cons ?_ (DrawPre.cons ?_ (DrawPre.cons ?_ (DrawPre.cons ?_ (DrawPre.cons ?_ (DrawPre.cons ?_ (DrawPre.cons ?_ (DrawPre.cons ?_ (DrawPre.cons ?_ (DrawPre.cons ?_ (DrawPre.cons ?_ DrawPre.nil))))))))))))) ?_
  ·
   intro D hn hd hcl hu hi
   refine TO.fieldAddr fl_50_1 rfl dc (dl_old (by rfl) rfl) (show _ = 1 from rfl) ?_
   exact TX.quiet 0 hu hi rfl
  ·
   intro D hn hd hcl hu hi
   refine TO.load (k := 0) sc_3 rfl dc (dl_lookup (m := 0) hu rfl (hd 0 dc)) rfl rfl ?_
   exact TX.quiet 1 hu hi rfl
  ·
   intro D hn hd hcl hu hi
   refine TO.fieldAddr fl_50_0 rfl dc (dl_old (by rfl) rfl) (show _ = 0 from rfl) ?_
   exact TX.quiet 2 hu hi rfl
  ·
   intro D hn hd hcl hu hi
   refine TO.load (k := 0) sc_3 rfl dc (dl_lookup (m := 2) hu rfl (hd 2 dc)) rfl rfl ?_
   exact TX.quiet 3 hu hi rfl
  ·
   intro D hn hd hcl hu hi
   refine TO.bin rfl dc (dl_lookup (m := 3) hu rfl (hd 3 dc)) rfl (bin_add (r := q1.Span_From + 1) (IntWalk.i64_in _ hg1)) ?_
   exact TX.quiet 4 hu hi rfl
  ·
   intro D hn hd hcl hu hi
   refine TO.bin rfl dc (dl_lookup (m := 1) hu rfl (hd 1 dc)) (dl_lookup (m := 4) hu rfl (hd 4 dc)) bin_eql (TO.rewH (show Value.bool ((q1.Span_To : Int) == (q1.Span_From + 1)) = Value.bool true from congrArg Value.bool hb1) ?_)
   exact TX.quiet 5 hu hi rfl
  ·
   intro D hn hd hcl hu hi
   refine TO.move rfl dc (dl_lookup (m := 5) hu rfl (hd 5 dc)) ?_
   exact TX.quiet 6 hu hi rfl
  ·
   intro D hn hd hcl hu hi
   refine TO.move (gd_T rfl (dl_lookup (m := 6) hu rfl (hd 6 dc))) dc (dl_old (by rfl) rfl) ?_
   exact TX.quiet 7 hu hi rfl
  ·
   intro D hn hd hcl hu hi
   refine TO.nilCheck (gd_T rfl (dl_lookup (m := 6) hu rfl (hd 6 dc))) dc (dl_lookup (m := 7) hu rfl (hd 7 dc)) ?_
   exact TX.quiet 8 hu hi rfl
  ·
   intro D hn hd hcl hu hi
   refine TO.fieldAddr fl_57_0 (gd_T rfl (dl_lookup (m := 6) hu rfl (hd 6 dc))) dc (dl_lookup (m := 8) hu rfl (hd 8 dc)) (show _ = 0 from rfl) ?_
   exact TX.quiet 9 hu hi rfl
  ·
   intro D hn hd hcl hu hi
   refine TO.loadRd (i := 0) hrd rfl sc_9 (gd_T rfl (dl_lookup (m := 6) hu rfl (hd 6 dc))) dc (dl_lookup (m := 9) hu rfl (hd 9 dc)) rfl ?_
   exact TX.quiet 10 hu hi rfl
  ·
   intro D hn hd hcl hu hi
   refine TO.fieldAddr fl_50_0 (gd_T rfl (dl_lookup (m := 6) hu rfl (hd 6 dc))) dc (dl_old (by rfl) rfl) (show _ = 0 from rfl) ?_
   exact TX.quiet 11 hu hi rfl
  ·
   intro D hn hd hcl hu hi
   refine TO.load (k := 0) sc_3 (gd_T rfl (dl_lookup (m := 6) hu rfl (hd 6 dc))) dc (dl_lookup (m := 11) hu rfl (hd 11 dc)) rfl rfl ?_
   exact TX.quiet 12 hu hi rfl
  refine TO.index rfl dc rfl rfl (index_stringI Try.underlying9 hq2) (TO.bin rfl dc rfl rfl bin_eql (TO.pick (b := true) rfl dc rfl rfl (TO.assign rfl dc rfl (TO.nil (TX.next (TC.ret ?_))))))
  cases h
  exact TX.fin (rs := [.tmp 4]) () (.inl rfl) Try.results30 (.cons (.tmp rfl) .nil) rfl Splits.nil
 ·
  have h := condF hb1 h
  refine TC.drawN 13 [(0, 14, .pointer (some ⟨b1, 1, none⟩)), (1, 15, .int .i64 q1.Span_To), (2, 16, .pointer (some ⟨b1, 0, none⟩)), (3, 17, .int .i64 q1.Span_From), (4, 18, .int .i64 (q1.Span_From + 1)), (5, 19, .bool false), (6, 20, .bool false), (7, 21, undef), (8, 22, undef), (9, 23, undef), (10, 24, undef), (11, 25, undef), (12, 26, undef)] mixed kr kr dc (by rfl) kr kr (DrawPre.cons ?_ (DrawPre.cons ?_ (DrawPre.cons ?_ (DrawPre.cons ?_ (DrawPre.cons ?_ (DrawPre.cons ?_ (DrawPre.cons ?_ (DrawPre.cons ?_ (DrawPre.cons ?_ (DrawPre.cons ?_ (DrawPre.cons ?_ (DrawPre.cons ?_ (DrawPre.cons ?_ DrawPre.nil))))))))))))) ?_
  ·
   intro D hn hd hcl hu hi
   refine TO.fieldAddr fl_50_1 rfl dc (dl_old (by rfl) rfl) (show _ = 1 from rfl) ?_
   exact TX.quiet 0 hu hi rfl
  ·
   intro D hn hd hcl hu hi
   refine TO.load (k := 0) sc_3 rfl dc (dl_lookup (m := 0) hu rfl (hd 0 dc)) rfl rfl ?_
   exact TX.quiet 1 hu hi rfl
  ·
   intro D hn hd hcl hu hi
   refine TO.fieldAddr fl_50_0 rfl dc (dl_old (by rfl) rfl) (show _ = 0 from rfl) ?_
   exact TX.quiet 2 hu hi rfl
  ·
   intro D hn hd hcl hu hi
   refine TO.load (k := 0) sc_3 rfl dc (dl_lookup (m := 2) hu rfl (hd 2 dc)) rfl rfl ?_
   exact TX.quiet 3 hu hi rfl
  ·
   intro D hn hd hcl hu hi
   refine TO.bin rfl dc (dl_lookup (m := 3) hu rfl (hd 3 dc)) rfl (bin_add (r := q1.Span_From + 1) (IntWalk.i64_in _ hg1)) ?_
   exact TX.quiet 4 hu hi rfl
  ·
   intro D hn hd hcl hu hi
   refine TO.bin rfl dc (dl_lookup (m := 1) hu rfl (hd 1 dc)) (dl_lookup (m := 4) hu rfl (hd 4 dc)) bin_eql (TO.rewH (show Value.bool ((q1.Span_To : Int) == (q1.Span_From + 1)) = Value.bool false from congrArg Value.bool hb1) ?_)
   exact TX.quiet 5 hu hi rfl
  ·
   intro D hn hd hcl hu hi
   refine TO.move rfl dc (dl_lookup (m := 5) hu rfl (hd 5 dc)) ?_
   exact TX.quiet 6 hu hi rfl
  ·
   intro D hn hd hcl hu hi
   refine TO.skip (gd_F rfl (dl_lookup (m := 6) hu rfl (hd 6 dc))) dc ?_
   exact TX.quiet 7 hu hi rfl
  ·
   intro D hn hd hcl hu hi
   refine TO.skip (gd_F rfl (dl_lookup (m := 6) hu rfl (hd 6 dc))) dc ?_
   exact TX.quiet 8 hu hi rfl
  ·
   intro D hn hd hcl hu hi
   refine TO.skip (gd_F rfl (dl_lookup (m := 6) hu rfl (hd 6 dc))) dc ?_
   exact TX.quiet 9 hu hi rfl
  ·
   intro D hn hd hcl hu hi
   refine TO.skip (gd_F rfl (dl_lookup (m := 6) hu rfl (hd 6 dc))) dc ?_
   exact TX.quiet 10 hu hi rfl
  ·
   intro D hn hd hcl hu hi
   refine TO.skip (gd_F rfl (dl_lookup (m := 6) hu rfl (hd 6 dc))) dc ?_
   exact TX.quiet 11 hu hi rfl
  ·
   intro D hn hd hcl hu hi
   refine TO.skip (gd_F rfl (dl_lookup (m := 6) hu rfl (hd 6 dc))) dc ?_
   exact TX.quiet 12 hu hi rfl
  refine TO.skip rfl dc (TO.skip rfl dc (TO.pick (b := false) rfl dc rfl rfl (TO.assign rfl dc rfl (TO.nil (TX.next (TC.ret ?_))))))
  cases h
  exact TX.fin (rs := [.tmp 4]) () (.inl rfl) Try.results30 (.cons (.tmp rfl) .nil) rfl Splits.nil
def page_turner_columns_v (t1 : Gpage_turner) (from1 : Int) (to1 : Int) : Option Int := andThen (getO t1.ends to1) fun (q1 : Int) => andThen (getO t1.wide (max from1 q1)) fun (q2 : Int) => andThen (getO t1.wide from1) fun (q3 : Int) => grd (I64 (q2 - q3)) <| some (q2 - q3)
set_option maxRecDepth 100000 in
set_option maxHeartbeats 4000000 in
theorem page_turner_columns_fn {bt1 : Nat} {t1 : Gpage_turner} {t1_h0 t1_h1 t1_h2 : Hd} {from1 : Int} {to1 : Int} {r : Int} (h : page_turner_columns_v t1 from1 to1 = some r) : FnR Try.prog 34 [.pointer (some ⟨bt1, 0, none⟩), .int .i64 from1, .int .i64 to1] [cells bt1 [.string t1.s, t1_h0.v, t1_h1.v, t1_h2.v, .int .i64 t1.first, .int .i64 t1.rest] 57, vec enc_Gapi_Cell 52 3 t1_h0.v t1.cells, vec (encI (.i64)) 3 1 t1_h1.v t1.wide, vec (encI (.i64)) 3 1 t1_h2.v t1.ends] [] (fun _ : Unit => (.int .i64 r)) (fun _ => []) := by
 unfold page_turner_columns_v at h
 refine FnR.intro Try.func34 rfl Try.ntmps34 (by simp) ?_
 intro w0 K hrd
 refine TC.seq (TC.region (TO.assign rfl dc rfl (TO.nil (TX.next (TC.seq (TC.region (TO.move rfl dc rfl (TO.move rfl dc rfl (TO.nilCheck rfl dc rfl (TO.fieldAddr fl_57_3 rfl dc rfl (show _ = 3 from rfl) (TO.loadRd (i := 0) hrd rfl sc_39 rfl dc rfl rfl (TO.move rfl dc rfl ?_))))))))))))
 obtain ⟨q1, hq1, h⟩ := andE h
 refine TO.indexVw (hrd.vw (i := 3) rfl) hq1 Try.underlying39 sz_3 rfl dc rfl rfl rfl (TO.loadVecRd (n := 0 + (to1 : Int).toNat) (j := 0) (i := 3) (q := q1) hrd rfl sc_3 encI_len rfl dc rfl (Vw.get (hrd.vw (i := 3) rfl) hq1) rfl dc rfl (TO.max2 rfl dc rfl rfl (TO.assign rfl dc rfl (TO.nil (TX.next (TC.seq ?_))))))
 obtain ⟨q2, hq2, h⟩ := andE h
 obtain ⟨q3, hq3, h⟩ := andE h
 obtain ⟨hg1, h⟩ := grdE h
 refine TC.drawN 14 [(0, 16, .pointer (some ⟨bt1, 0, none⟩)), (1, 17, .pointer (some ⟨bt1, 0, none⟩)), (2, 18, .pointer (some ⟨bt1, 2, none⟩)), (3, 19, t1_h1.v), (4, 20, .int .i64 (max from1 q1)), (5, 21, .pointer (some ⟨vblk t1_h1.v, (0 + (max from1 q1 : Int).toNat) * 1, none⟩)), (6, 22, .int .i64 q2), (7, 23, .pointer (some ⟨bt1, 0, none⟩)), (8, 24, .pointer (some ⟨bt1, 0, none⟩)), (9, 25, .pointer (some ⟨bt1, 2, none⟩)), (10, 26, t1_h1.v), (11, 27, .int .i64 from1), (12, 28, .pointer (some ⟨vblk t1_h1.v, (0 + (from1 : Int).toNat) * 1, none⟩)), (13, 29, .int .i64 q3)] mixed kr kr dc (by rfl) kr kr (DrawPre.cons ?_ (DrawPre.cons ?_ (DrawPre.cons ?_ (DrawPre.cons ?_ (DrawPre.cons ?_ (DrawPre.cons ?_ (DrawPre.cons ?_ (DrawPre.cons ?_ (DrawPre.cons ?_ (DrawPre.cons ?_ (DrawPre.cons ?_ (DrawPre.cons ?_ (DrawPre.cons ?_ (DrawPre.cons ?_ DrawPre.nil)))))))))))))) ?_
 ·
  intro D hn hd hcl hu hi
  refine TO.move rfl dc (dl_old (by rfl) rfl) ?_
  exact TX.quiet 0 hu hi rfl
 ·
  intro D hn hd hcl hu hi
  refine TO.nilCheck rfl dc (dl_lookup (m := 0) hu rfl (hd 0 dc)) ?_
  exact TX.quiet 1 hu hi rfl
 ·
  intro D hn hd hcl hu hi
  refine TO.fieldAddr fl_57_2 rfl dc (dl_lookup (m := 1) hu rfl (hd 1 dc)) (show _ = 2 from rfl) ?_
  exact TX.quiet 2 hu hi rfl
 ·
  intro D hn hd hcl hu hi
  refine TO.loadRd (i := 0) hrd rfl sc_39 rfl dc (dl_lookup (m := 2) hu rfl (hd 2 dc)) rfl ?_
  exact TX.quiet 3 hu hi rfl
 ·
  intro D hn hd hcl hu hi
  refine TO.move rfl dc (dl_old (by rfl) rfl) ?_
  exact TX.quiet 4 hu hi rfl
 ·
  intro D hn hd hcl hu hi
  refine TO.indexVw (hrd.vw (i := 2) rfl) hq2 Try.underlying39 sz_3 rfl dc (dl_lookup (m := 3) hu rfl (hd 3 dc)) (dl_lookup (m := 4) hu rfl (hd 4 dc)) rfl ?_
  exact TX.quiet 5 hu hi rfl
 ·
  intro D hn hd hcl hu hi
  refine TO.loadVecRd (n := 0 + (max from1 q1 : Int).toNat) (j := 0) (i := 2) (q := q2) hrd rfl sc_3 encI_len rfl dc (dl_lookup (m := 5) hu rfl (hd 5 dc)) (Vw.get (hrd.vw (i := 2) rfl) hq2) rfl dc rfl ?_
  exact TX.quiet 6 hu hi rfl
 ·
  intro D hn hd hcl hu hi
  refine TO.move rfl dc (dl_old (by rfl) rfl) ?_
  exact TX.quiet 7 hu hi rfl
 ·
  intro D hn hd hcl hu hi
  refine TO.nilCheck rfl dc (dl_lookup (m := 7) hu rfl (hd 7 dc)) ?_
  exact TX.quiet 8 hu hi rfl
 ·
  intro D hn hd hcl hu hi
  refine TO.fieldAddr fl_57_2 rfl dc (dl_lookup (m := 8) hu rfl (hd 8 dc)) (show _ = 2 from rfl) ?_
  exact TX.quiet 9 hu hi rfl
 ·
  intro D hn hd hcl hu hi
  refine TO.loadRd (i := 0) hrd rfl sc_39 rfl dc (dl_lookup (m := 9) hu rfl (hd 9 dc)) rfl ?_
  exact TX.quiet 10 hu hi rfl
 ·
  intro D hn hd hcl hu hi
  refine TO.move rfl dc (dl_old (by rfl) rfl) ?_
  exact TX.quiet 11 hu hi rfl
 ·
  intro D hn hd hcl hu hi
  refine TO.indexVw (hrd.vw (i := 2) rfl) hq3 Try.underlying39 sz_3 rfl dc (dl_lookup (m := 10) hu rfl (hd 10 dc)) (dl_lookup (m := 11) hu rfl (hd 11 dc)) rfl ?_
  exact TX.quiet 12 hu hi rfl
 ·
  intro D hn hd hcl hu hi
  refine TO.loadVecRd (n := 0 + (from1 : Int).toNat) (j := 0) (i := 2) (q := q3) hrd rfl sc_3 encI_len rfl dc (dl_lookup (m := 12) hu rfl (hd 12 dc)) (Vw.get (hrd.vw (i := 2) rfl) hq3) rfl dc rfl ?_
  exact TX.quiet 13 hu hi rfl
 refine TO.bin rfl dc rfl rfl (bin_sub (r := q2 - q3) (IntWalk.i64_in _ hg1)) (TO.assign rfl dc rfl (TO.nil (TX.next (TC.ret ?_))))
 cases h
 exact TX.fin (rs := [.tmp 6]) () (.inl rfl) Try.results34 (.cons (.tmp rfl) .nil) rfl Splits.nil
def page_turner_room_v (t1 : Gpage_turner) (from1 : Int) : Option Int := bcond ((from1 : Int) == 0) ( some t1.first
) ( some t1.rest
)
set_option maxRecDepth 100000 in
set_option maxHeartbeats 4000000 in
theorem page_turner_room_fn {bt1 : Nat} {t1 : Gpage_turner} {t1_h0 t1_h1 t1_h2 : Hd} {from1 : Int} {r : Int} (h : page_turner_room_v t1 from1 = some r) : FnR Try.prog 35 [.pointer (some ⟨bt1, 0, none⟩), .int .i64 from1] [cells bt1 [.string t1.s, t1_h0.v, t1_h1.v, t1_h2.v, .int .i64 t1.first, .int .i64 t1.rest] 57, vec enc_Gapi_Cell 52 3 t1_h0.v t1.cells, vec (encI (.i64)) 3 1 t1_h1.v t1.wide, vec (encI (.i64)) 3 1 t1_h2.v t1.ends] [] (fun _ : Unit => (.int .i64 r)) (fun _ => []) := by
 unfold page_turner_room_v at h
 refine FnR.intro Try.func35 rfl Try.ntmps35 (by simp) ?_
 intro w0 K hrd
 refine TC.seq (TC.region (TO.assign rfl dc rfl (TO.nil (TX.next (TC.seq (TC.seq (TC.region (TO.move rfl dc rfl (TO.bin rfl dc rfl rfl bin_eql (TO.nil (TX.next ?_)))))))))))
 refine TC.condB rfl (fun hb1 => ?_) (fun hb1 => ?_)
 ·
  have h := condT hb1 h
  refine TC.seq (TC.region (TO.move rfl dc rfl (TO.nilCheck rfl dc rfl (TO.fieldAddr fl_57_4 rfl dc rfl (show _ = 4 from rfl) (TO.loadRd (i := 0) hrd rfl sc_3 rfl dc rfl rfl (TO.assign rfl dc rfl (TO.nil (TX.next (TC.ret (TX.thenRet ?_))))))))))
  cases h
  exact TX.fin (rs := [.tmp 4]) () (.inl rfl) Try.results35 (.cons (.tmp rfl) .nil) rfl Splits.nil
 ·
  have h := condF hb1 h
  refine TC.skip (TX.next (TC.seq (TC.region (TO.move rfl dc rfl (TO.nilCheck rfl dc rfl (TO.fieldAddr fl_57_5 rfl dc rfl (show _ = 5 from rfl) (TO.loadRd (i := 0) hrd rfl sc_3 rfl dc rfl rfl (TO.assign rfl dc rfl (TO.nil (TX.next (TC.ret ?_)))))))))))
  cases h
  exact TX.fin (rs := [.tmp 4]) () (.inl rfl) Try.results35 (.cons (.tmp rfl) .nil) rfl Splits.nil
def page_turner_row_v (t1 : Gpage_turner) (from1 : Int) (to1 : Int) : Option Bool := joinK (fun (j1 : Option Bool) => bcond (decide ((0 : Int) < from1)) ( andThen (page_turner_space_v t1 from1) fun (r1 : Bool) => bcond (r1) ( some false
) ( j1
)
) ( j1
)
) ( andThen (page_turner_columns_v t1 from1 to1) fun (r2 : Int) => andThen (page_turner_room_v t1 from1) fun (r3 : Int) => bcond (decide ((r2 : Int) ≤ r3)) ( some true
) ( andThen (getO t1.ends to1) fun (q1 : Int) => grd (I64 (from1 + 1)) <| some (decide ((q1 : Int) ≤ (from1 + 1)))
)
)
set_option maxRecDepth 100000 in
set_option maxHeartbeats 4000000 in
theorem page_turner_row_fn {bt1 : Nat} {t1 : Gpage_turner} {t1_h0 t1_h1 t1_h2 : Hd} {from1 : Int} {to1 : Int} {r : Bool} (h : page_turner_row_v t1 from1 to1 = some r) : FnR Try.prog 22 [.pointer (some ⟨bt1, 0, none⟩), .int .i64 from1, .int .i64 to1] [cells bt1 [.string t1.s, t1_h0.v, t1_h1.v, t1_h2.v, .int .i64 t1.first, .int .i64 t1.rest] 57, vec enc_Gapi_Cell 52 3 t1_h0.v t1.cells, vec (encI (.i64)) 3 1 t1_h1.v t1.wide, vec (encI (.i64)) 3 1 t1_h2.v t1.ends] [] (fun _ : Unit => (.bool r)) (fun _ => []) := by
 unfold page_turner_row_v at h
 refine FnR.intro Try.func22 rfl Try.ntmps22 (by simp) ?_
 intro w0 K hrd
 obtain ⟨j1, hj1, h⟩ := joinE h
 refine TC.cutN (β := Unit) 1 rfl (fun b => j1 = some r) (fun b => []) (fun b => [(0, .pointer (some ⟨bt1, 0, none⟩)), (1, .int .i64 from1), (2, .int .i64 to1)]) (fun b => []) (fun cut => ?_) ?_
 ·
  refine TC.seq (TC.region (TO.assign rfl dc rfl (TO.nil (TX.next (cut (TC.seq (TC.region (TO.move rfl dc rfl (TO.bin rfl dc rfl rfl bin_gtr (TO.move rfl dc rfl ?_))))))))))
  refine TO.split (s := 9) rfl (fun hb1 => ?_) (fun hb1 => ?_)
  ·
   have h := condT hb1 h
   refine TO.move rfl dc rfl (TO.move rfl dc rfl ?_)
   obtain ⟨r1, hq1, h⟩ := andE h
   refine TO.callPR (v := .bool r1) (vs := [.pointer (some ⟨bt1, 0, none⟩), .int .i64 from1]) hrd rfl dc rfl rfl rfl en_30 (page_turner_space_fn (bt1 := bt1) (t1 := t1) (t1_h0 := t1_h0) (t1_h1 := t1_h1) (t1_h2 := t1_h2) hq1) (.ro 0 rfl (.ro 1 rfl (.ro 2 rfl (.ro 3 rfl .nil)))) (TO.pick (b := true) rfl dc rfl rfl (TO.nil (TX.next ?_)))
   refine TC.condB rfl (fun hb2 => ?_) (fun hb2 => ?_)
   ·
    have h := condT hb2 h
    refine TC.seq (TC.region (TO.assign rfl dc rfl (TO.nil (TX.next (TC.ret (TX.thenRet ?_))))))
    cases h
    exact TX.fin (rs := [.tmp 6]) () (.inl rfl) Try.results22 (.cons (.tmp rfl) .nil) rfl Splits.nil
   ·
    have h := condF hb2 h
    refine TC.skip ?_
    exact TX.meetD () h rfl (Sbs.cons rfl (Sbs.cons rfl (Sbs.cons rfl (Sbs.nil)))) Splits.nil
  ·
   have h := condF hb1 h
   refine TO.skip rfl dc (TO.skip rfl dc (TO.skip rfl dc (TO.pick (b := false) rfl dc rfl rfl (TO.nil (TX.next (TC.condF rfl (TC.skip ?_)))))))
   exact TX.meetD () h rfl (Sbs.cons rfl (Sbs.cons rfl (Sbs.cons rfl (Sbs.nil)))) Splits.nil
 ·
  rintro _ h
  rw [hj1] at h
  show TC _ _ _ _ _ ([]) _ _ [(0, .pointer (some ⟨bt1, 0, none⟩)), (1, .int .i64 from1), (2, .int .i64 to1)] []
  refine TC.seq (TC.region (TO.move rfl dc rfl (TO.move rfl dc rfl (TO.move rfl dc rfl ?_))))
  obtain ⟨r2, hq2, h⟩ := andE h
  refine TO.callPR (v := .int .i64 r2) (vs := [.pointer (some ⟨bt1, 0, none⟩), .int .i64 from1, .int .i64 to1]) hrd rfl dc rfl rfl rfl en_34 (page_turner_columns_fn (bt1 := bt1) (t1 := t1) (t1_h0 := t1_h0) (t1_h1 := t1_h1) (t1_h2 := t1_h2) hq2) (.ro 0 rfl (.ro 1 rfl (.ro 2 rfl (.ro 3 rfl .nil)))) (TO.move rfl dc rfl (TO.move rfl dc rfl ?_))
  obtain ⟨r3, hq3, h⟩ := andE h
  refine TO.callPR (v := .int .i64 r3) (vs := [.pointer (some ⟨bt1, 0, none⟩), .int .i64 from1]) hrd rfl dc rfl rfl rfl en_35 (page_turner_room_fn (bt1 := bt1) (t1 := t1) (t1_h0 := t1_h0) (t1_h1 := t1_h1) (t1_h2 := t1_h2) hq3) (.ro 0 rfl (.ro 1 rfl (.ro 2 rfl (.ro 3 rfl .nil)))) (TO.bin rfl dc rfl rfl bin_leq (TO.move rfl dc rfl ?_))
  refine TO.split (s := 22) rfl (fun hb3 => ?_) (fun hb3 => ?_)
  ·
   have h := condT hb3 h
   refine TO.skip rfl dc (TO.skip rfl dc (TO.skip rfl dc (TO.skip rfl dc (TO.skip rfl dc (TO.skip rfl dc (TO.skip rfl dc (TO.skip rfl dc (TO.skip rfl dc (TO.skip rfl dc (TO.pick (b := true) rfl dc rfl rfl (TO.assign rfl dc rfl (TO.nil (TX.next ?_)))))))))))))
   refine TC.ret ?_
   cases h
   exact TX.fin (rs := [.tmp 6]) () (.inl rfl) Try.results22 (.cons (.tmp rfl) .nil) rfl Splits.nil
  ·
   have h := condF hb3 h
   refine TO.move rfl dc rfl (TO.nilCheck rfl dc rfl (TO.fieldAddr fl_57_3 rfl dc rfl (show _ = 3 from rfl) (TO.loadRd (i := 0) hrd rfl sc_39 rfl dc rfl rfl (TO.move rfl dc rfl ?_))))
   obtain ⟨q1, hq4, h⟩ := andE h
   refine TO.indexVw (hrd.vw (i := 3) rfl) hq4 Try.underlying39 sz_3 rfl dc rfl rfl rfl (TO.loadVecRd (n := 0 + (to1 : Int).toNat) (j := 0) (i := 3) (q := q1) hrd rfl sc_3 encI_len rfl dc rfl (Vw.get (hrd.vw (i := 3) rfl) hq4) rfl dc rfl (TO.move rfl dc rfl ?_))
   obtain ⟨hg1, h⟩ := grdE h
   refine TO.bin rfl dc rfl rfl (bin_add (r := from1 + 1) (IntWalk.i64_in _ hg1)) (TO.bin rfl dc rfl rfl bin_leq (TO.pick (b := false) rfl dc rfl rfl (TO.assign rfl dc rfl (TO.nil (TX.next (TC.ret ?_))))))
   cases h
   exact TX.fin (rs := [.tmp 6]) () (.inl rfl) Try.results22 (.cons (.tmp rfl) .nil) rfl Splits.nil
def page_turner_cost_v (t1 : Gpage_turner) (from1 : Int) (to1 : Int) : Option Int := joinK (fun (j1 : Int → Option Int) => andThen (page_turner_room_v t1 from1) fun (r1 : Int) => andThen (page_turner_columns_v t1 from1 to1) fun (r2 : Int) => grd (I64 (r1 - r2)) <| bcond (decide ((0 : Int) < (r1 - r2))) ( grd (I64 ((r1 - r2) * (r1 - r2))) <| j1 ((r1 - r2) * (r1 - r2))
) ( j1 0
)
) (fun (n1 : Int) => joinK (fun (j2 : Int → Option Int) => grd (I64 (to1 - 1)) <| andThen (page_turner_space_v t1 (to1 - 1)) fun (r3 : Bool) => bcond (!r3) ( grd (I64 (n1 + 1000)) <| j2 (n1 + 1000)
) ( j2 n1
)
) (fun (n2 : Int) => some n2
)
)
set_option maxRecDepth 100000 in
set_option maxHeartbeats 4000000 in
theorem page_turner_cost_fn {bt1 : Nat} {t1 : Gpage_turner} {t1_h0 t1_h1 t1_h2 : Hd} {from1 : Int} {to1 : Int} {r : Int} (h : page_turner_cost_v t1 from1 to1 = some r) : FnR Try.prog 23 [.pointer (some ⟨bt1, 0, none⟩), .int .i64 from1, .int .i64 to1] [cells bt1 [.string t1.s, t1_h0.v, t1_h1.v, t1_h2.v, .int .i64 t1.first, .int .i64 t1.rest] 57, vec enc_Gapi_Cell 52 3 t1_h0.v t1.cells, vec (encI (.i64)) 3 1 t1_h1.v t1.wide, vec (encI (.i64)) 3 1 t1_h2.v t1.ends] [] (fun _ : Unit => (.int .i64 r)) (fun _ => []) := by
 unfold page_turner_cost_v at h
 refine FnR.intro Try.func23 rfl Try.ntmps23 (by simp) ?_
 intro w0 K hrd
 obtain ⟨j1, hj1, h⟩ := joinE h
 refine TC.cutN (β := Int) 2 rfl (fun b => j1 b = some r) (fun b => []) (fun b => [(0, .pointer (some ⟨bt1, 0, none⟩)), (2, .int .i64 to1), (7, .int .i64 b)]) (fun b => []) (fun cut => ?_) ?_
 ·
  refine TC.seq (TC.region (TO.assign rfl dc rfl (TO.nil (TX.next (TC.seq (TC.region (TO.assign rfl dc rfl (TO.nil (TX.next (cut (TC.seq (TC.region (TO.move rfl dc rfl ?_)))))))))))))
  refine TO.move rfl dc rfl ?_
  obtain ⟨r1, hq1, h⟩ := andE h
  refine TO.callPR (v := .int .i64 r1) (vs := [.pointer (some ⟨bt1, 0, none⟩), .int .i64 from1]) hrd rfl dc rfl rfl rfl en_35 (page_turner_room_fn (bt1 := bt1) (t1 := t1) (t1_h0 := t1_h0) (t1_h1 := t1_h1) (t1_h2 := t1_h2) hq1) (.ro 0 rfl (.ro 1 rfl (.ro 2 rfl (.ro 3 rfl .nil)))) (TO.move rfl dc rfl (TO.move rfl dc rfl (TO.move rfl dc rfl ?_)))
  obtain ⟨r2, hq2, h⟩ := andE h
  refine TO.callPR (v := .int .i64 r2) (vs := [.pointer (some ⟨bt1, 0, none⟩), .int .i64 from1, .int .i64 to1]) hrd rfl dc rfl rfl rfl en_34 (page_turner_columns_fn (bt1 := bt1) (t1 := t1) (t1_h0 := t1_h0) (t1_h1 := t1_h1) (t1_h2 := t1_h2) hq2) (.ro 0 rfl (.ro 1 rfl (.ro 2 rfl (.ro 3 rfl .nil)))) ?_
  obtain ⟨hg1, h⟩ := grdE h
  refine TO.bin rfl dc rfl rfl (bin_sub (r := r1 - r2) (IntWalk.i64_in _ hg1)) (TO.assign rfl dc rfl (TO.nil (TX.next (TC.seq (TC.region (TO.move rfl dc rfl (TO.bin rfl dc rfl rfl bin_gtr (TO.nil (TX.next ?_)))))))))
  refine TC.condB rfl (fun hb1 => ?_) (fun hb1 => ?_)
  ·
   have h := condT hb1 h
   refine TC.region (TO.move rfl dc rfl (TO.move rfl dc rfl ?_))
   obtain ⟨hg2, h⟩ := grdE h
   refine TO.bin rfl dc rfl rfl (bin_mul (r := (r1 - r2) * (r1 - r2)) (IntWalk.i64_in _ hg2)) (TO.assign rfl dc rfl (TO.nil ?_))
   exact TX.meetD ((r1 - r2) * (r1 - r2)) h rfl (Sbs.cons rfl (Sbs.cons rfl (Sbs.cons rfl (Sbs.nil)))) Splits.nil
  ·
   have h := condF hb1 h
   refine TC.skip ?_
   exact TX.meetD 0 h rfl (Sbs.cons rfl (Sbs.cons rfl (Sbs.cons rfl (Sbs.nil)))) Splits.nil
 ·
  rintro n1 h
  rw [hj1] at h
  show TC _ _ _ _ _ ([]) _ _ [(0, .pointer (some ⟨bt1, 0, none⟩)), (2, .int .i64 to1), (7, .int .i64 n1)] []
  obtain ⟨j2, hj2, h⟩ := joinE h
  refine TC.cutN (β := Int) 0 rfl (fun b => j2 b = some r) (fun b => []) (fun b => [(7, .int .i64 b)]) (fun b => []) (fun cut => ?_) ?_
  ·
   refine cut (TC.seq (TC.region (TO.move rfl dc rfl (TO.move rfl dc rfl ?_))))
   obtain ⟨hg3, h⟩ := grdE h
   refine TO.bin rfl dc rfl rfl (bin_sub (r := to1 - 1) (IntWalk.i64_in _ hg3)) ?_
   obtain ⟨r3, hq3, h⟩ := andE h
   refine TO.callPR (v := .bool r3) (vs := [.pointer (some ⟨bt1, 0, none⟩), .int .i64 (to1 - 1)]) hrd rfl dc rfl rfl rfl en_30 (page_turner_space_fn (bt1 := bt1) (t1 := t1) (t1_h0 := t1_h0) (t1_h1 := t1_h1) (t1_h2 := t1_h2) hq3) (.ro 0 rfl (.ro 1 rfl (.ro 2 rfl (.ro 3 rfl .nil)))) (TO.un rfl dc rfl un_not (TO.nil (TX.next ?_)))
   refine TC.condB rfl (fun hb2 => ?_) (fun hb2 => ?_)
   ·
    have h := condT hb2 h
    refine TC.region (TO.move rfl dc rfl ?_)
    obtain ⟨hg4, h⟩ := grdE h
    refine TO.bin rfl dc rfl rfl (bin_add (r := n1 + 1000) (IntWalk.i64_in _ hg4)) (TO.assign rfl dc rfl (TO.nil ?_))
    exact TX.meetD (n1 + 1000) h rfl (Sbs.cons rfl (Sbs.nil)) Splits.nil
   ·
    have h := condF hb2 h
    refine TC.skip ?_
    exact TX.meetD n1 h rfl (Sbs.cons rfl (Sbs.nil)) Splits.nil
  ·
   rintro n2 h
   rw [hj2] at h
   show TC _ _ _ _ _ ([]) _ _ [(7, .int .i64 n2)] []
   refine TC.seq (TC.region (TO.move rfl dc rfl (TO.assign rfl dc rfl (TO.nil (TX.next (TC.ret ?_))))))
   cases h
   exact TX.fin (rs := [.tmp 6]) () (.inl rfl) Try.results23 (.cons (.tmp rfl) .nil) rfl Splits.nil
def page_turner_rows_s2 (t1 : Gpage_turner) (from3 : Int) (j2 : (List Gpage_best) → Option ((List Int) × Int)) (ag2 : (List Gpage_best) → Int → Option ((List Int) × Int)) (all8 : List Gpage_best) (to3 : Int) : Option ((List Int) × Int) := bcond (decide ((to3 : Int) ≤ (t1.cells.length : Int))) ( joinK (fun (j3 : (List Gpage_best) → Option ((List Int) × Int)) => andThen (page_turner_row_v t1 from3 to3) fun (r1 : Bool) => bcond (!r1) ( andThen (page_turner_columns_v t1 from3 to3) fun (r2 : Int) => andThen (page_turner_room_v t1 from3) fun (r3 : Int) => bcond (decide ((r3 : Int) < r2)) ( j2 all8
) ( j3 all8
)
) ( joinK (fun (j4 : Int → Int → Option ((List Int) × Int)) => bcond (decide ((to3 : Int) < (t1.cells.length : Int))) ( andThen (getO all8 to3) fun (q2 : Gpage_best) => bcond (decide ((q2.rows : Int) < 0)) ( j3 all8
) ( andThen (page_turner_cost_v t1 from3 to3) fun (r4 : Int) => andThen (getO all8 to3) fun (q3 : Gpage_best) => grd (I64 (r4 + q3.cost)) <| grd (I64 (q3.rows + 1)) <| j4 (r4 + q3.cost) (q3.rows + 1)
)
) ( j4 0 1
)
) (fun (b2 : Int) (b3 : Int) => andThen (getO all8 from3) fun (q4 : Gpage_best) => bcond (decide ((q4.rows : Int) < 0)) ( andThen (getO all8 from3) fun (q5 : Gpage_best) => j3 (all8.set (from3 : Int).toNat (⟨b2, b3, to3⟩ : Gpage_best))
) ( bcond (decide ((b2 : Int) < q4.cost)) ( andThen (getO all8 from3) fun (q6 : Gpage_best) => j3 (all8.set (from3 : Int).toNat (⟨b2, b3, to3⟩ : Gpage_best))
) ( bcond ((b2 : Int) == q4.cost) ( bcond (decide ((b3 : Int) ≤ q4.rows)) ( andThen (getO all8 from3) fun (q7 : Gpage_best) => j3 (all8.set (from3 : Int).toNat (⟨b2, b3, to3⟩ : Gpage_best))
) ( j3 all8
)
) ( j3 all8
)
)
)
)
)
) (fun (all9 : List Gpage_best) => grd (I64 (to3 + 1)) <| ag2 all9 (to3 + 1)
)
) ( j2 all8
)
def page_turner_rows_s1 (t1 : Gpage_turner) (j1 : (List Gpage_best) → Option ((List Int) × Int)) (ag1 : (List Gpage_best) → Int → Option ((List Int) × Int)) (all4 : List Gpage_best) (from3 : Int) : Option ((List Int) × Int) := bcond (decide ((0 : Int) ≤ from3)) ( joinK (fun (j2 : (List Gpage_best) → Option ((List Int) × Int)) => andThen (getO all4 from3) fun (q1 : Gpage_best) => grd (I64 (from3 + 1)) <| loopG (fun _ _ => none) (page_turner_rows_s2 t1 from3 j2) fuel (all4.set (from3 : Int).toNat (⟨q1.cost, (-1), q1.to_⟩ : Gpage_best)) (from3 + 1)
) (fun (all5 : List Gpage_best) => grd (I64 (from3 - 1)) <| ag1 all5 (from3 - 1)
)
) ( j1 all4
)
def page_turner_rows_s3 (t1 : Gpage_turner) (all1 : List Gpage_best) (j5 : (List Int) → Option ((List Int) × Int)) (ag3 : (List Int) → Int → Option ((List Int) × Int)) (out4 : List Int) (from6 : Int) : Option ((List Int) × Int) := bcond (decide ((from6 : Int) < (t1.cells.length : Int))) ( andThen (getO all1 from6) fun (q8 : Gpage_best) => grd (out4.length + 1 ≤ 2147483648) <| andThen (getO all1 from6) fun (q9 : Gpage_best) => ag3 (out4 ++ [q8.to_]) q9.to_
) ( j5 out4
)
def page_turner_rows_v (t1 : Gpage_turner) : Option ((List Int) × Int) := joinK (fun (j1 : (List Gpage_best) → Option ((List Int) × Int)) => grd (I64 ((t1.cells.length : Int) + 1)) <| grd (0 ≤ ((t1.cells.length : Int) + 1) ∧ ((t1.cells.length : Int) + 1) ≤ 2147483648) <| grd (I64 ((t1.cells.length : Int) - 1)) <| loopG (fun _ _ => none) (page_turner_rows_s1 t1 j1) fuel (List.replicate ((t1.cells.length : Int) + 1 : Int).toNat (⟨0, 0, 0⟩ : Gpage_best)) ((t1.cells.length : Int) - 1)
) (fun (all1 : List Gpage_best) => joinK (fun (j5 : (List Int) → Option ((List Int) × Int)) => loopG (fun _ _ => none) (page_turner_rows_s3 t1 all1 j5) fuel ([] : List Int) 0
) (fun (out1 : List Int) => andThen (getO all1 0) fun (q10 : Gpage_best) => some (out1, q10.cost)
)
)
set_option maxRecDepth 100000 in
set_option maxHeartbeats 4000000 in
theorem page_turner_rows_fn {bt1 : Nat} {t1 : Gpage_turner} {t1_h0 t1_h1 t1_h2 : Hd} {r : ((List Int) × Int)} (h : page_turner_rows_v t1 = some r) : FnR Try.prog 24 [.pointer (some ⟨bt1, 0, none⟩)] [cells bt1 [.string t1.s, t1_h0.v, t1_h1.v, t1_h2.v, .int .i64 t1.first, .int .i64 t1.rest] 57, vec enc_Gapi_Cell 52 3 t1_h0.v t1.cells, vec (encI (.i64)) 3 1 t1_h1.v t1.wide, vec (encI (.i64)) 3 1 t1_h2.v t1.ends] [] (fun v0 : Value => .tuple #[v0, .int .i64 r.2]) (fun v0 => [vec (encI (.i64)) 3 1 v0 r.1]) := by
 unfold page_turner_rows_v at h
 refine FnR.intro Try.func24 rfl Try.ntmps24 (by simp) ?_
 intro w0 K hrd
 obtain ⟨j1, hj1, h⟩ := joinE h
 refine TC.cutN (β := (List Gpage_best) × Value) 3 rfl (fun b => j1 b.1 = some r) (fun b => []) (fun b => [(4, .int .i64 (t1.cells.length : Int)), (5, b.2)]) (fun b => [vec enc_Gpage_best 86 3 b.2 b.1]) (fun cut => ?_) ?_
 ·
  refine TC.seq (TC.region (TO.assign rfl dc rfl (TO.assign rfl dc rfl (TO.nil (TX.next (TC.seq (TC.region (TO.move rfl dc rfl (TO.nilCheck rfl dc rfl (TO.fieldAddr fl_57_1 rfl dc rfl (show _ = 1 from rfl) (TO.loadRd (i := 0) hrd rfl sc_44 rfl dc rfl rfl (TO.lenVw (hrd.vw (i := 1) rfl) rfl dc rfl Try.underlying44 (TO.assign rfl dc rfl ?_)))))))))))))
  refine TO.nil (TX.next (TC.seq (TC.region (TO.move rfl dc rfl ?_))))
  obtain ⟨hg1, h⟩ := grdE h
  refine TO.bin rfl dc rfl rfl (bin_add (r := (t1.cells.length : Int) + 1) (IntWalk.i64_in _ hg1)) ?_
  obtain ⟨hg2, h⟩ := grdE h
  refine TO.makeVec (z := (⟨0, 0, 0⟩ : Gpage_best)) Try.underlying84 el_86 zr_86 enc_Gpage_best_len rfl dc rfl hg2 (fun v2 => ?_)
  refine TO.assign rfl dc rfl (TO.nil (TX.next (cut (TC.seq (TC.region (TO.move rfl dc rfl ?_))))))
  obtain ⟨hg3, h⟩ := grdE h
  refine TO.bin rfl dc rfl rfl (bin_sub (r := (t1.cells.length : Int) - 1) (IntWalk.i64_in _ hg3)) (TO.assign rfl dc rfl (TO.nil (TX.next (TC.block ?_))))
  refine TC.loopD (β := Nat × (List Gpage_best) × Int) (fun b => loopG (fun _ _ => none) (page_turner_rows_s1 t1 j1) b.1 b.2.1 b.2.2 = some r) (fun b => []) (fun b => [(0, .pointer (some ⟨bt1, 0, none⟩)), (4, .int .i64 (t1.cells.length : Int)), (5, v2), (6, .int .i64 b.2.2)]) (fun b => [vec enc_Gpage_best 86 3 v2 b.2.1]) (fun b => b.1) (fuel, List.replicate ((t1.cells.length : Int) + 1 : Int).toNat (⟨0, 0, 0⟩ : Gpage_best), (t1.cells.length : Int) - 1) h rfl (Sbs.cons rfl (Sbs.cons rfl (Sbs.cons rfl (Sbs.cons rfl (Sbs.nil))))) (Splits.of [0] kr rfl) ?_
  rintro ⟨n1, all4, from3⟩ h
  cases n1 with
  | zero => exact noneE h
  | succ n1 =>
   obtain ⟨ag1, hag1⟩ : ∃ ag, ag = loopG (fun _ _ => none) (page_turner_rows_s1 t1 j1) n1 := ⟨_, rfl⟩
   have h : page_turner_rows_s1 t1 j1 ag1 all4 from3 = some r := by rw [hag1]; exact h
   unfold page_turner_rows_s1 at h
   show TC _ _ _ _ _ ([]) _ _ [(0, .pointer (some ⟨bt1, 0, none⟩)), (4, .int .i64 (t1.cells.length : Int)), (5, v2), (6, .int .i64 from3)] [vec enc_Gpage_best 86 3 v2 all4]
   refine TC.seq (TC.seq (TC.region (TO.move rfl dc rfl (TO.bin rfl dc rfl rfl bin_geq (TO.nil (TX.next ?_))))))
   refine TC.condB rfl (fun hb1 => ?_) (fun hb1 => ?_)
   ·
    have h := condT hb1 h
    refine TC.skip (TX.next ?_)
    obtain ⟨j2, hj2, h⟩ := joinE h
    refine TC.cutN (β := (List Gpage_best)) 0 rfl (fun b => j2 b = some r) (fun b => []) (fun b => [(0, .pointer (some ⟨bt1, 0, none⟩)), (4, .int .i64 (t1.cells.length : Int)), (5, v2), (6, .int .i64 from3)]) (fun b => [vec enc_Gpage_best 86 3 v2 b]) (fun cut => ?_) ?_
    ·
     refine cut (TC.block ?_)
     refine TC.scope (β := Unit) (l := 0) (fun _ => False) (fun _ => []) (fun _ => []) rfl ?_ ?_
     ·
      refine TC.seq (TC.region (TO.move rfl dc rfl (TO.move rfl dc rfl ?_)))
      obtain ⟨q1, hq1, h⟩ := andE h
      refine TO.indexVecI (k := 0) hq1 Try.underlying84 sz_86 rfl dc rfl rfl rfl rfl (TO.fieldAddr fl_86_1 rfl dc rfl (show _ = ((from3 : Int).toNat) * 3 + 1 from rfl) ?_)
      refine TO.storeVec (i := (from3 : Int).toNat) (j := 1) (k := 0) (q := q1) (q' := (⟨q1.cost, (-1), q1.to_⟩ : Gpage_best)) sz_3 enc_Gpage_best_len rfl rfl rfl rfl (getO_get hq1) rfl dc rfl (fun _ _ => rfl) ?_
      refine TO.nil (TX.next (TC.seq (TC.label (TX.next (TC.seq (TC.region (TO.move rfl dc rfl ?_)))))))
      obtain ⟨hg4, h⟩ := grdE h
      refine TO.bin rfl dc rfl rfl (bin_add (r := from3 + 1) (IntWalk.i64_in _ hg4)) (TO.assign rfl dc rfl (TO.nil (TX.next (TC.block ?_))))
      refine TC.loopD (β := Nat × (List Gpage_best) × Int) (fun b => loopG (fun _ _ => none) (page_turner_rows_s2 t1 from3 j2) b.1 b.2.1 b.2.2 = some r) (fun b => []) (fun b => [(0, .pointer (some ⟨bt1, 0, none⟩)), (4, .int .i64 (t1.cells.length : Int)), (5, v2), (6, .int .i64 from3), (7, .int .i64 b.2.2)]) (fun b => [vec enc_Gpage_best 86 3 v2 b.2.1]) (fun b => b.1) (fuel, all4.set (from3 : Int).toNat (⟨q1.cost, (-1), q1.to_⟩ : Gpage_best), from3 + 1) h rfl (Sbs.cons rfl (Sbs.cons rfl (Sbs.cons rfl (Sbs.cons rfl (Sbs.cons rfl (Sbs.nil)))))) (Splits.of [0] kr rfl) ?_
      rintro ⟨n2, all8, to3⟩ h
      cases n2 with
      | zero => exact noneE h
      | succ n2 =>
       obtain ⟨ag2, hag2⟩ : ∃ ag, ag = loopG (fun _ _ => none) (page_turner_rows_s2 t1 from3 j2) n2 := ⟨_, rfl⟩
       have h : page_turner_rows_s2 t1 from3 j2 ag2 all8 to3 = some r := by rw [hag2]; exact h
       unfold page_turner_rows_s2 at h
       show TC _ _ _ _ _ ([]) _ _ [(0, .pointer (some ⟨bt1, 0, none⟩)), (4, .int .i64 (t1.cells.length : Int)), (5, v2), (6, .int .i64 from3), (7, .int .i64 to3)] [vec enc_Gpage_best 86 3 v2 all8]
       refine TC.seq (TC.seq (TC.region (TO.move rfl dc rfl (TO.move rfl dc rfl (TO.bin rfl dc rfl rfl bin_leq (TO.nil (TX.next ?_)))))))
       refine TC.condB rfl (fun hb2 => ?_) (fun hb2 => ?_)
       ·
        have h := condT hb2 h
        refine TC.skip (TX.next ?_)
        obtain ⟨j3, hj3, h⟩ := joinE h
        refine TC.cutN (β := (List Gpage_best)) 0 rfl (fun b => j3 b = some r) (fun b => []) (fun b => [(0, .pointer (some ⟨bt1, 0, none⟩)), (4, .int .i64 (t1.cells.length : Int)), (5, v2), (6, .int .i64 from3), (7, .int .i64 to3)]) (fun b => [vec enc_Gpage_best 86 3 v2 b]) (fun cut => ?_) ?_
        ·
         refine cut (TC.block (TC.seq (TC.seq (TC.region (TO.move rfl dc rfl (TO.move rfl dc rfl (TO.move rfl dc rfl ?_)))))))
         obtain ⟨r1, hq2, h⟩ := andE h
         refine TO.callPR (v := .bool r1) (vs := [.pointer (some ⟨bt1, 0, none⟩), .int .i64 from3, .int .i64 to3]) hrd rfl dc rfl rfl rfl en_22 (page_turner_row_fn (bt1 := bt1) (t1 := t1) (t1_h0 := t1_h0) (t1_h1 := t1_h1) (t1_h2 := t1_h2) hq2) (.ro 0 rfl (.ro 1 rfl (.ro 2 rfl (.ro 3 rfl .nil)))) (TO.un rfl dc rfl un_not (TO.nil (TX.next ?_)))
         refine TC.condB rfl (fun hb3 => ?_) (fun hb3 => ?_)
         ·
          have h := condT hb3 h
          refine TC.seq (TC.seq (TC.region (TO.move rfl dc rfl (TO.move rfl dc rfl (TO.move rfl dc rfl ?_)))))
          obtain ⟨r2, hq3, h⟩ := andE h
          refine TO.callPR (v := .int .i64 r2) (vs := [.pointer (some ⟨bt1, 0, none⟩), .int .i64 from3, .int .i64 to3]) hrd rfl dc rfl rfl rfl en_34 (page_turner_columns_fn (bt1 := bt1) (t1 := t1) (t1_h0 := t1_h0) (t1_h1 := t1_h1) (t1_h2 := t1_h2) hq3) (.ro 0 rfl (.ro 1 rfl (.ro 2 rfl (.ro 3 rfl .nil)))) (TO.move rfl dc rfl (TO.move rfl dc rfl ?_))
          obtain ⟨r3, hq4, h⟩ := andE h
          refine TO.callPR (v := .int .i64 r3) (vs := [.pointer (some ⟨bt1, 0, none⟩), .int .i64 from3]) hrd rfl dc rfl rfl rfl en_35 (page_turner_room_fn (bt1 := bt1) (t1 := t1) (t1_h0 := t1_h0) (t1_h1 := t1_h1) (t1_h2 := t1_h2) hq4) (.ro 0 rfl (.ro 1 rfl (.ro 2 rfl (.ro 3 rfl .nil)))) (TO.bin rfl dc rfl rfl bin_gtr (TO.nil (TX.next ?_)))
          refine TC.condB rfl (fun hb4 => ?_) (fun hb4 => ?_)
          ·
           have h := condT hb4 h
           refine TC.exit (TX.thenExit (TX.thenExit (TX.blockOn dc (TX.thenExit (TX.thenExit (TX.blockHere (TX.jumpOn (by simp) (TX.blockNormal ?_))))))))
           exact TX.meetD all8 h rfl (Sbs.cons rfl (Sbs.cons rfl (Sbs.cons rfl (Sbs.cons rfl (Sbs.nil))))) (Splits.of [0] kr rfl)
          ·
           have h := condF hb4 h
           refine TC.skip (TX.next (TC.exit (TX.thenExit (TX.blockHere ?_))))
           exact TX.meetD all8 h rfl (Sbs.cons rfl (Sbs.cons rfl (Sbs.cons rfl (Sbs.cons rfl (Sbs.cons rfl (Sbs.nil)))))) (Splits.of [0] kr rfl)
         ·
          have h := condF hb3 h
          refine TC.skip (TX.next ?_)
          obtain ⟨j4, hj4, h⟩ := joinE h
          refine TC.cutN (β := Int × Int × Nat) 1 rfl (fun b => j4 b.1 b.2.1 = some r) (fun b => []) (fun b => [(0, .pointer (some ⟨bt1, 0, none⟩)), (4, .int .i64 (t1.cells.length : Int)), (5, v2), (6, .int .i64 from3), (7, .int .i64 to3), (8, .pointer (some ⟨b.2.2, 0, none⟩))]) (fun b => [vec enc_Gpage_best 86 3 v2 all8, cells b.2.2 [.int .i64 b.1, .int .i64 b.2.1, .int .i64 to3] 86]) (fun cut => ?_) ?_
          ·
           refine TC.seq (TC.region (TO.move rfl dc rfl ?_))
           refine TO.build (v := .agg #[.int .i64 0, .int .i64 1, .int .i64 to3]) (ps := [(1, .const (.int .i64 1)), (2, .tmp 50)]) rfl dc rfl (fun _ => by kernel_rfl) ?_
           refine TO.alloc zr_86 rfl dc (fun b4 => ?_)
           refine TO.stores (k := 1) (vs := [.int .i64 0, .int .i64 1, .int .i64 to3]) (l' := [.int .i64 0, .int .i64 1, .int .i64 to3]) sz_86 rfl rfl rfl rfl rfl (show _ ≤ _ by simp) rfl rfl ?_
           show TO _ _ _ _ _ _ _ _ _ _ [vec enc_Gpage_best 86 3 v2 all8, cells b4 [.int .i64 0, .int .i64 1, .int .i64 to3] 86]
           refine TO.nil (TX.next (cut (TC.seq (TC.region (TO.move rfl dc rfl (TO.move rfl dc rfl (TO.bin rfl dc rfl rfl bin_lss (TO.nil (TX.next ?_)))))))))
           refine TC.condB rfl (fun hb5 => ?_) (fun hb5 => ?_)
           ·
            have h := condT hb5 h
            refine TC.seq (TC.seq (TC.region (TO.move rfl dc rfl (TO.move rfl dc rfl ?_))))
            obtain ⟨q2, hq5, h⟩ := andE h
            refine TO.indexVecI (k := 0) hq5 Try.underlying84 sz_86 rfl dc rfl rfl rfl rfl (TO.fieldAddr fl_86_1 rfl dc rfl (show _ = ((to3 : Int).toNat) * 3 + 1 from rfl) (TO.loadVec (i := (to3 : Int).toNat) (j := 1) (k := 0) (q := q2) sc_3 enc_Gpage_best_len rfl dc rfl rfl (getO_get hq5) rfl dc rfl (TO.bin rfl dc rfl rfl bin_lss (TO.nil (TX.next ?_)))))
            refine TC.condB rfl (fun hb6 => ?_) (fun hb6 => ?_)
            ·
             have h := condT hb6 h
             refine TC.exit (TX.thenExit (TX.thenExit (TX.blockHere ?_)))
             exact TX.meetD all8 h rfl (Sbs.cons rfl (Sbs.cons rfl (Sbs.cons rfl (Sbs.cons rfl (Sbs.cons rfl (Sbs.nil)))))) (Splits.of [0] kr rfl)
            ·
             have h := condF hb6 h
             refine TC.skip (TX.next ?_)
             obtain ⟨r4, hq6, h⟩ := andE h
             obtain ⟨q3, hq7, h⟩ := andE h
             obtain ⟨hg5, h⟩ := grdE h
             obtain ⟨hg6, h⟩ := grdE h
             refine TC.drawN 17 [(0, 61, .pointer (some ⟨bt1, 0, none⟩)), (1, 62, .int .i64 from3), (2, 63, .int .i64 to3), (3, 64, .int .i64 r4), (4, 65, v2), (5, 66, .int .i64 to3), (6, 67, .pointer (some ⟨vblk v2, (to3 : Int).toNat * 3, none⟩)), (7, 68, .pointer (some ⟨vblk v2, ((to3 : Int).toNat) * 3, none⟩)), (8, 69, .int .i64 q3.cost), (9, 70, .int .i64 (r4 + q3.cost)), (10, 71, v2), (11, 72, .int .i64 to3), (12, 73, .pointer (some ⟨vblk v2, (to3 : Int).toNat * 3, none⟩)), (13, 74, .pointer (some ⟨vblk v2, ((to3 : Int).toNat) * 3 + 1, none⟩)), (14, 75, .int .i64 q3.rows), (15, 76, .int .i64 (q3.rows + 1)), (16, 77, .int .i64 to3)] mixed kr kr dc (by rfl) kr kr (DrawPre.cons ?_ (DrawPre.cons ?_ (DrawPre.cons ?_ (DrawPre.cons ?_ (DrawPre.cons ?_ (DrawPre.cons ?_ (DrawPre.cons ?_ (DrawPre.cons ?_ (DrawPre.cons ?_ (DrawPre.cons ?_ (DrawPre.cons ?_ (DrawPre.cons ?_ (DrawPre.cons ?_ (DrawPre.cons ?_ (DrawPre.cons ?_ (DrawPre.cons ?_ (DrawPre.cons ?_ DrawPre.nil))))))))))))))))) ?_
             ·
              intro D hn hd hcl hu hi
              refine TO.move rfl dc (dl_old (by rfl) rfl) ?_
              exact TX.quiet 0 hu hi rfl
             ·
              intro D hn hd hcl hu hi
              refine TO.move rfl dc (dl_old (by rfl) rfl) ?_
              exact TX.quiet 1 hu hi rfl
             ·
              intro D hn hd hcl hu hi
              refine TO.move rfl dc (dl_old (by rfl) rfl) ?_
              exact TX.quiet 2 hu hi rfl
             ·
              intro D hn hd hcl hu hi
              refine TO.callPR (v := .int .i64 r4) (vs := [.pointer (some ⟨bt1, 0, none⟩), .int .i64 from3, .int .i64 to3]) hrd rfl dc rfl (evL.cons (dl_lookup (m := 0) hu rfl (hd 0 dc)) (evL.cons (dl_lookup (m := 1) hu rfl (hd 1 dc)) (evL.cons (dl_lookup (m := 2) hu rfl (hd 2 dc)) evL.nil))) rfl en_23 (page_turner_cost_fn (bt1 := bt1) (t1 := t1) (t1_h0 := t1_h0) (t1_h1 := t1_h1) (t1_h2 := t1_h2) hq6) (.ro 0 rfl (.ro 1 rfl (.ro 2 rfl (.ro 3 rfl .nil)))) ?_
              exact TX.quiet 3 hu hi rfl
             ·
              intro D hn hd hcl hu hi
              refine TO.move rfl dc (dl_old (by rfl) rfl) ?_
              exact TX.quiet 4 hu hi rfl
             ·
              intro D hn hd hcl hu hi
              refine TO.move rfl dc (dl_old (by rfl) rfl) ?_
              exact TX.quiet 5 hu hi rfl
             ·
              intro D hn hd hcl hu hi
              refine TO.indexVecI (k := 0) hq7 Try.underlying84 sz_86 rfl dc (dl_lookup (m := 4) hu rfl (hd 4 dc)) (dl_lookup (m := 5) hu rfl (hd 5 dc)) rfl rfl ?_
              exact TX.quiet 6 hu hi rfl
             ·
              intro D hn hd hcl hu hi
              refine TO.fieldAddr fl_86_0 rfl dc (dl_lookup (m := 6) hu rfl (hd 6 dc)) (show _ = ((to3 : Int).toNat) * 3 from rfl) ?_
              exact TX.quiet 7 hu hi rfl
             ·
              intro D hn hd hcl hu hi
              refine TO.loadVec (i := (to3 : Int).toNat) (j := 0) (k := 0) (q := q3) sc_3 enc_Gpage_best_len rfl dc (dl_lookup (m := 7) hu rfl (hd 7 dc)) rfl (getO_get hq7) rfl dc rfl ?_
              exact TX.quiet 8 hu hi rfl
             ·
              intro D hn hd hcl hu hi
              refine TO.bin rfl dc (dl_lookup (m := 3) hu rfl (hd 3 dc)) (dl_lookup (m := 8) hu rfl (hd 8 dc)) (bin_add (r := r4 + q3.cost) (IntWalk.i64_in _ hg5)) ?_
              exact TX.quiet 9 hu hi rfl
             ·
              intro D hn hd hcl hu hi
              refine TO.move rfl dc (dl_old (by rfl) rfl) ?_
              exact TX.quiet 10 hu hi rfl
             ·
              intro D hn hd hcl hu hi
              refine TO.move rfl dc (dl_old (by rfl) rfl) ?_
              exact TX.quiet 11 hu hi rfl
             ·
              intro D hn hd hcl hu hi
              refine TO.indexVecI (k := 0) hq7 Try.underlying84 sz_86 rfl dc (dl_lookup (m := 10) hu rfl (hd 10 dc)) (dl_lookup (m := 11) hu rfl (hd 11 dc)) rfl rfl ?_
              exact TX.quiet 12 hu hi rfl
             ·
              intro D hn hd hcl hu hi
              refine TO.fieldAddr fl_86_1 rfl dc (dl_lookup (m := 12) hu rfl (hd 12 dc)) (show _ = ((to3 : Int).toNat) * 3 + 1 from rfl) ?_
              exact TX.quiet 13 hu hi rfl
             ·
              intro D hn hd hcl hu hi
              refine TO.loadVec (i := (to3 : Int).toNat) (j := 1) (k := 0) (q := q3) sc_3 enc_Gpage_best_len rfl dc (dl_lookup (m := 13) hu rfl (hd 13 dc)) rfl (getO_get hq7) rfl dc rfl ?_
              exact TX.quiet 14 hu hi rfl
             ·
              intro D hn hd hcl hu hi
              refine TO.bin rfl dc (dl_lookup (m := 14) hu rfl (hd 14 dc)) rfl (bin_add (r := q3.rows + 1) (IntWalk.i64_in _ hg6)) ?_
              exact TX.quiet 15 hu hi rfl
             ·
              intro D hn hd hcl hu hi
              refine TO.move rfl dc (dl_old (by rfl) rfl) ?_
              exact TX.quiet 16 hu hi rfl
             refine TO.build (v := .agg #[.int .i64 (r4 + q3.cost), .int .i64 (q3.rows + 1), .int .i64 to3]) (ps := [(0, .tmp 70), (1, .tmp 76), (2, .tmp 77)]) rfl dc rfl (fun _ => by kernel_rfl) ?_
             refine TO.stores (k := 1) (vs := [.int .i64 (r4 + q3.cost), .int .i64 (q3.rows + 1), .int .i64 to3]) (l' := [.int .i64 (r4 + q3.cost), .int .i64 (q3.rows + 1), .int .i64 to3]) sz_86 rfl rfl rfl rfl rfl (show _ ≤ _ by simp) rfl rfl (TO.nil ?_)
             exact TX.meetD (r4 + q3.cost, q3.rows + 1, b4) h rfl (Sbs.cons rfl (Sbs.cons rfl (Sbs.cons rfl (Sbs.cons rfl (Sbs.cons rfl (Sbs.cons rfl (Sbs.nil))))))) (Splits.of [0, 1] kr rfl)
           ·
            have h := condF hb5 h
            refine TC.skip ?_
            exact TX.meetD (0, 1, b4) h rfl (Sbs.cons rfl (Sbs.cons rfl (Sbs.cons rfl (Sbs.cons rfl (Sbs.cons rfl (Sbs.cons rfl (Sbs.nil))))))) (Splits.of [0, 1] kr rfl)
          ·
           rintro ⟨b2, b3, b1⟩ h
           rw [hj4] at h
           show TC _ _ _ _ _ ([]) _ _ [(0, .pointer (some ⟨bt1, 0, none⟩)), (4, .int .i64 (t1.cells.length : Int)), (5, v2), (6, .int .i64 from3), (7, .int .i64 to3), (8, .pointer (some ⟨b1, 0, none⟩))] [vec enc_Gpage_best 86 3 v2 all8, cells b1 [.int .i64 b2, .int .i64 b3, .int .i64 to3] 86]
           refine TC.seq (TC.region (TO.move rfl dc rfl (TO.move rfl dc rfl ?_)))
           obtain ⟨q4, hq8, h⟩ := andE h
           refine TO.indexVecI (k := 0) hq8 Try.underlying84 sz_86 rfl dc rfl rfl rfl rfl (TO.loadsVec (i := (from3 : Int).toNat) (j := 0) (k := 0) (q := q4) (cs := [.int .i64 q4.cost, .int .i64 q4.rows, .int .i64 q4.to_]) rw_86 enc_Gpage_best_len rfl dc rfl rfl (getO_get hq8) rfl rfl rfl ?_)
           refine TO.alloc zr_86 rfl dc (fun b5 => ?_)
           refine TO.stores (k := 2) (vs := [.int .i64 q4.cost, .int .i64 q4.rows, .int .i64 q4.to_]) (l' := [.int .i64 q4.cost, .int .i64 q4.rows, .int .i64 q4.to_]) sz_86 rfl rfl rfl rfl rfl (show _ ≤ _ by simp) rfl rfl ?_
           show TO _ _ _ _ _ _ _ _ _ _ [vec enc_Gpage_best 86 3 v2 all8, cells b1 [.int .i64 b2, .int .i64 b3, .int .i64 to3] 86, cells b5 [.int .i64 q4.cost, .int .i64 q4.rows, .int .i64 q4.to_] 86]
           refine TO.nil (TX.next (TC.seq (TC.region (TO.fieldAddr fl_86_1 rfl dc rfl (show _ = 1 from rfl) (TO.load (k := 2) sc_3 rfl dc rfl rfl rfl (TO.bin rfl dc rfl rfl bin_lss (TO.move rfl dc rfl ?_)))))))
           refine TO.split (s := 86) rfl (fun hb7 => ?_) (fun hb7 => ?_)
           ·
            have h := condT hb7 h
            refine TO.skip rfl dc (TO.skip rfl dc (TO.skip rfl dc (TO.skip rfl dc (TO.skip rfl dc (TO.pick (b := true) rfl dc rfl rfl (TO.move rfl dc rfl (TO.skip rfl dc (TO.skip rfl dc (TO.skip rfl dc (TO.skip rfl dc (TO.skip rfl dc (TO.skip rfl dc (TO.skip rfl dc ?_)))))))))))))
            refine TO.skip rfl dc (TO.skip rfl dc (TO.skip rfl dc (TO.skip rfl dc (TO.skip rfl dc (TO.pick (b := true) rfl dc rfl rfl (TO.nil (TX.next (TC.condT rfl (TC.region (TO.move rfl dc rfl (TO.move rfl dc rfl (TO.loads (k := 1) (cs := [.int .i64 b2, .int .i64 b3, .int .i64 to3]) rw_86 rfl dc rfl rfl rfl rfl ?_))))))))))))
            obtain ⟨q5, hq9, h⟩ := andE h
            refine TO.indexVecI (k := 0) hq9 Try.underlying84 sz_86 rfl dc rfl rfl rfl rfl ?_
            refine TO.storesVec (i := (from3 : Int).toNat) (j := 0) (k := 0) (q := q5) (q' := (⟨b2, b3, to3⟩ : Gpage_best)) (vs := [.int .i64 b2, .int .i64 b3, .int .i64 to3]) sz_86 enc_Gpage_best_len rfl rfl rfl rfl (getO_get hq9) rfl dc rfl rfl (fun m => [q5, (⟨b2, q5.rows, q5.to_⟩ : Gpage_best), (⟨b2, b3, q5.to_⟩ : Gpage_best), (⟨b2, b3, to3⟩ : Gpage_best)].getD m q5) rfl rfl (by intro m hm; rcases m with _ | _ | _ | m <;> first | rfl | (exfalso; omega)) ?_
            refine TO.nil (TX.blockNormal ?_)
            exact TX.meetD (all8.set (from3 : Int).toNat (⟨b2, b3, to3⟩ : Gpage_best)) h rfl (Sbs.cons rfl (Sbs.cons rfl (Sbs.cons rfl (Sbs.cons rfl (Sbs.cons rfl (Sbs.nil)))))) (Splits.of [0] kr rfl)
           ·
            have h := condF hb7 h
            refine TO.fieldAddr fl_86_0 rfl dc rfl (show _ = 0 from rfl) (TO.load (k := 1) sc_3 rfl dc rfl rfl rfl (TO.fieldAddr fl_86_0 rfl dc rfl (show _ = 0 from rfl) (TO.load (k := 2) sc_3 rfl dc rfl rfl rfl (TO.bin rfl dc rfl rfl bin_lss (TO.pick (b := false) rfl dc rfl rfl (TO.move rfl dc rfl ?_))))))
            refine TO.split (s := 93) rfl (fun hb8 => ?_) (fun hb8 => ?_)
            ·
             have h := condT hb8 h
             refine TO.skip rfl dc (TO.skip rfl dc (TO.skip rfl dc (TO.skip rfl dc (TO.skip rfl dc (TO.skip rfl dc (TO.skip rfl dc (TO.skip rfl dc (TO.skip rfl dc (TO.skip rfl dc (TO.skip rfl dc (TO.skip rfl dc (TO.pick (b := true) rfl dc rfl rfl (TO.nil ?_)))))))))))))
             refine TX.next (TC.condT rfl (TC.region (TO.move rfl dc rfl (TO.move rfl dc rfl (TO.loads (k := 1) (cs := [.int .i64 b2, .int .i64 b3, .int .i64 to3]) rw_86 rfl dc rfl rfl rfl rfl ?_)))))
             obtain ⟨q6, hq10, h⟩ := andE h
             refine TO.indexVecI (k := 0) hq10 Try.underlying84 sz_86 rfl dc rfl rfl rfl rfl ?_
             refine TO.storesVec (i := (from3 : Int).toNat) (j := 0) (k := 0) (q := q6) (q' := (⟨b2, b3, to3⟩ : Gpage_best)) (vs := [.int .i64 b2, .int .i64 b3, .int .i64 to3]) sz_86 enc_Gpage_best_len rfl rfl rfl rfl (getO_get hq10) rfl dc rfl rfl (fun m => [q6, (⟨b2, q6.rows, q6.to_⟩ : Gpage_best), (⟨b2, b3, q6.to_⟩ : Gpage_best), (⟨b2, b3, to3⟩ : Gpage_best)].getD m q6) rfl rfl (by intro m hm; rcases m with _ | _ | _ | m <;> first | rfl | (exfalso; omega)) ?_
             refine TO.nil (TX.blockNormal ?_)
             exact TX.meetD (all8.set (from3 : Int).toNat (⟨b2, b3, to3⟩ : Gpage_best)) h rfl (Sbs.cons rfl (Sbs.cons rfl (Sbs.cons rfl (Sbs.cons rfl (Sbs.cons rfl (Sbs.nil)))))) (Splits.of [0] kr rfl)
            ·
             have h := condF hb8 h
             refine TO.fieldAddr fl_86_0 rfl dc rfl (show _ = 0 from rfl) (TO.load (k := 1) sc_3 rfl dc rfl rfl rfl (TO.fieldAddr fl_86_0 rfl dc rfl (show _ = 0 from rfl) (TO.load (k := 2) sc_3 rfl dc rfl rfl rfl (TO.bin rfl dc rfl rfl bin_eql (TO.move rfl dc rfl ?_)))))
             refine TO.split (s := 99) rfl (fun hb9 => ?_) (fun hb9 => ?_)
             ·
              have h := condT hb9 h
              refine TO.fieldAddr fl_86_1 rfl dc rfl (show _ = 1 from rfl) (TO.load (k := 1) sc_3 rfl dc rfl rfl rfl (TO.fieldAddr fl_86_1 rfl dc rfl (show _ = 1 from rfl) (TO.load (k := 2) sc_3 rfl dc rfl rfl rfl (TO.bin rfl dc rfl rfl bin_leq (TO.pick (b := true) rfl dc rfl rfl (TO.pick (b := false) rfl dc rfl rfl (TO.nil (TX.next ?_))))))))
              refine TC.condB rfl (fun hb10 => ?_) (fun hb10 => ?_)
              ·
               have h := condT hb10 h
               refine TC.region (TO.move rfl dc rfl (TO.move rfl dc rfl (TO.loads (k := 1) (cs := [.int .i64 b2, .int .i64 b3, .int .i64 to3]) rw_86 rfl dc rfl rfl rfl rfl ?_)))
               obtain ⟨q7, hq11, h⟩ := andE h
               refine TO.indexVecI (k := 0) hq11 Try.underlying84 sz_86 rfl dc rfl rfl rfl rfl ?_
               refine TO.storesVec (i := (from3 : Int).toNat) (j := 0) (k := 0) (q := q7) (q' := (⟨b2, b3, to3⟩ : Gpage_best)) (vs := [.int .i64 b2, .int .i64 b3, .int .i64 to3]) sz_86 enc_Gpage_best_len rfl rfl rfl rfl (getO_get hq11) rfl dc rfl rfl (fun m => [q7, (⟨b2, q7.rows, q7.to_⟩ : Gpage_best), (⟨b2, b3, q7.to_⟩ : Gpage_best), (⟨b2, b3, to3⟩ : Gpage_best)].getD m q7) rfl rfl (by intro m hm; rcases m with _ | _ | _ | m <;> first | rfl | (exfalso; omega)) ?_
               refine TO.nil (TX.blockNormal ?_)
               exact TX.meetD (all8.set (from3 : Int).toNat (⟨b2, b3, to3⟩ : Gpage_best)) h rfl (Sbs.cons rfl (Sbs.cons rfl (Sbs.cons rfl (Sbs.cons rfl (Sbs.cons rfl (Sbs.nil)))))) (Splits.of [0] kr rfl)
              ·
               have h := condF hb10 h
               refine TC.skip (TX.blockNormal ?_)
               exact TX.meetD all8 h rfl (Sbs.cons rfl (Sbs.cons rfl (Sbs.cons rfl (Sbs.cons rfl (Sbs.cons rfl (Sbs.nil)))))) (Splits.of [0] kr rfl)
             ·
              have h := condF hb9 h
              refine TO.skip rfl dc (TO.skip rfl dc (TO.skip rfl dc (TO.skip rfl dc (TO.skip rfl dc (TO.pick (b := false) rfl dc rfl rfl (TO.pick (b := false) rfl dc rfl rfl (TO.nil (TX.next (TC.condF rfl (TC.skip (TX.blockNormal ?_)))))))))))
              exact TX.meetD all8 h rfl (Sbs.cons rfl (Sbs.cons rfl (Sbs.cons rfl (Sbs.cons rfl (Sbs.cons rfl (Sbs.nil)))))) (Splits.of [0] kr rfl)
        ·
         rintro all9 h
         rw [hj3] at h
         show TC _ _ _ _ _ ([]) _ _ [(0, .pointer (some ⟨bt1, 0, none⟩)), (4, .int .i64 (t1.cells.length : Int)), (5, v2), (6, .int .i64 from3), (7, .int .i64 to3)] [vec enc_Gpage_best 86 3 v2 all9]
         refine TC.region (TO.move rfl dc rfl ?_)
         obtain ⟨hg7, h⟩ := grdE h
         refine TO.bin rfl dc rfl rfl (bin_add (r := to3 + 1) (IntWalk.i64_in _ hg7)) (TO.assign rfl dc rfl (TO.nil ?_))
         subst hag2
         exact TX.againD (n2, all9, to3 + 1) h (Nat.lt_succ_self _) rfl (Sbs.cons rfl (Sbs.cons rfl (Sbs.cons rfl (Sbs.cons rfl (Sbs.cons rfl (Sbs.nil)))))) (Splits.of [0] kr rfl)
       ·
        have h := condF hb2 h
        refine TC.exit (TX.thenExit (TX.thenExit (TX.blockHere (TX.jumpOn (by simp) (TX.blockNormal ?_)))))
        exact TX.meetD all8 h rfl (Sbs.cons rfl (Sbs.cons rfl (Sbs.cons rfl (Sbs.cons rfl (Sbs.nil))))) (Splits.of [0] kr rfl)
     ·
      exact fun b hb => hb.elim
    ·
     rintro all5 h
     rw [hj2] at h
     show TC _ _ _ _ _ ([]) _ _ [(0, .pointer (some ⟨bt1, 0, none⟩)), (4, .int .i64 (t1.cells.length : Int)), (5, v2), (6, .int .i64 from3)] [vec enc_Gpage_best 86 3 v2 all5]
     refine TC.region (TO.move rfl dc rfl ?_)
     obtain ⟨hg8, h⟩ := grdE h
     refine TO.bin rfl dc rfl rfl (bin_sub (r := from3 - 1) (IntWalk.i64_in _ hg8)) (TO.assign rfl dc rfl (TO.nil ?_))
     subst hag1
     exact TX.againD (n1, all5, from3 - 1) h (Nat.lt_succ_self _) rfl (Sbs.cons rfl (Sbs.cons rfl (Sbs.cons rfl (Sbs.cons rfl (Sbs.nil))))) (Splits.of [0] kr rfl)
   ·
    have h := condF hb1 h
    refine TC.exit (TX.thenExit (TX.thenExit (TX.blockHere ?_)))
    exact TX.meetD (all4, v2) h rfl (Sbs.cons rfl (Sbs.cons rfl (Sbs.nil))) (Splits.of [0] kr rfl)
 ·
  rintro ⟨all1, v1⟩ h
  rw [hj1] at h
  show TC _ _ _ _ _ ([]) _ _ [(4, .int .i64 (t1.cells.length : Int)), (5, v1)] [vec enc_Gpage_best 86 3 v1 all1]
  obtain ⟨j5, hj5, h⟩ := joinE h
  refine TC.cutN (β := (List Int) × Hd) 1 rfl (fun b => j5 b.1 = some r) (fun b => []) (fun b => [(5, v1), (10, b.2.v)]) (fun b => [vec enc_Gpage_best 86 3 v1 all1, vec (encI (.i64)) 3 1 b.2.v b.1]) (fun cut => ?_) ?_
  ·
   refine TC.seq (TC.region (TO.assign rfl dc rfl (TO.nil (TX.next (cut (TC.seq (TC.region (TO.assign rfl dc rfl (TO.nil (TX.next (TC.block (TC.newVec (enc := (encI (.i64))) (e := 3) (size := 1) ?_))))))))))))
   show TC _ _ _ _ _ _ _ _ _ [vec enc_Gpage_best 86 3 v1 all1, vec (encI (.i64)) 3 1 (.slice none 0 0) ([] : List Int)]
   refine TC.loopD (β := Nat × (List Int) × Int × Hd) (fun b => loopG (fun _ _ => none) (page_turner_rows_s3 t1 all1 j5) b.1 b.2.1 b.2.2.1 = some r) (fun b => []) (fun b => [(4, .int .i64 (t1.cells.length : Int)), (5, v1), (10, b.2.2.2.v), (11, .int .i64 b.2.2.1)]) (fun b => [vec enc_Gpage_best 86 3 v1 all1, vec (encI (.i64)) 3 1 b.2.2.2.v b.2.1]) (fun b => b.1) (fuel, ([] : List Int), 0, Hd.nil) h rfl (Sbs.cons rfl (Sbs.cons rfl (Sbs.cons rfl (Sbs.cons rfl (Sbs.nil))))) (Splits.of [0, 1] kr rfl) ?_
   rintro ⟨n3, out4, from6, hd4⟩ h
   cases n3 with
   | zero => exact noneE h
   | succ n3 =>
    obtain ⟨ag3, hag3⟩ : ∃ ag, ag = loopG (fun _ _ => none) (page_turner_rows_s3 t1 all1 j5) n3 := ⟨_, rfl⟩
    have h : page_turner_rows_s3 t1 all1 j5 ag3 out4 from6 = some r := by rw [hag3]; exact h
    unfold page_turner_rows_s3 at h
    show TC _ _ _ _ _ ([]) _ _ [(4, .int .i64 (t1.cells.length : Int)), (5, v1), (10, hd4.v), (11, .int .i64 from6)] [vec enc_Gpage_best 86 3 v1 all1, vec (encI (.i64)) 3 1 hd4.v out4]
    refine TC.seq (TC.seq (TC.region (TO.move rfl dc rfl (TO.move rfl dc rfl (TO.bin rfl dc rfl rfl bin_lss (TO.nil (TX.next ?_)))))))
    refine TC.condB rfl (fun hb11 => ?_) (fun hb11 => ?_)
    ·
     have h := condT hb11 h
     refine TC.skip (TX.next (TC.seq (TC.block (TC.region (TO.move rfl dc rfl (TO.move rfl dc rfl (TO.move rfl dc rfl ?_)))))))
     obtain ⟨q8, hq12, h⟩ := andE h
     refine TO.indexVecI (k := 0) hq12 Try.underlying84 sz_86 rfl dc rfl rfl rfl rfl (TO.fieldAddr fl_86_2 rfl dc rfl (show _ = ((from6 : Int).toNat) * 3 + 2 from rfl) (TO.loadVec (i := (from6 : Int).toNat) (j := 2) (k := 0) (q := q8) sc_3 enc_Gpage_best_len rfl dc rfl rfl (getO_get hq12) rfl dc rfl ?_))
     refine TO.buildSlice (cs := [.int .i64 q8.to_]) (te := 3) (ps := [(0, .tmp 124)]) rfl dc rfl (fun _ => by kernel_rfl) (fun b6 => ?_)
     obtain ⟨hg9, h⟩ := grdE h
     refine TO.appendVec (k := 1) (k2 := 2) (ys := [q8.to_]) Try.underlying39 el_3 encI_len encI_one rfl dc rfl rfl rfl rfl rfl rfl hg9 (fun v3 => ?_)
     refine TO.nameHd (k := 1) rfl (fun hd5 he1 => ?_)
     subst he1
     show TO _ _ _ _ _ _ _ _ _ _ [vec enc_Gpage_best 86 3 v1 all1, vec (encI (.i64)) 3 1 hd5.v (out4 ++ [q8.to_]), cells b6 [.int .i64 q8.to_] 3]
     refine TO.assign rfl dc rfl (TO.nil (TX.blockNormal (TX.next (TC.region (TO.move rfl dc rfl (TO.move rfl dc rfl ?_))))))
     obtain ⟨q9, hq13, h⟩ := andE h
     refine TO.indexVecI (k := 0) hq13 Try.underlying84 sz_86 rfl dc rfl rfl rfl rfl (TO.fieldAddr fl_86_2 rfl dc rfl (show _ = ((from6 : Int).toNat) * 3 + 2 from rfl) (TO.loadVec (i := (from6 : Int).toNat) (j := 2) (k := 0) (q := q9) sc_3 enc_Gpage_best_len rfl dc rfl rfl (getO_get hq13) rfl dc rfl (TO.assign rfl dc rfl (TO.nil ?_))))
     subst hag3
     exact TX.againD (n3, out4 ++ [q8.to_], q9.to_, hd5) h (Nat.lt_succ_self _) rfl (Sbs.cons rfl (Sbs.cons rfl (Sbs.cons rfl (Sbs.cons rfl (Sbs.nil))))) (Splits.of [0, 1] kr rfl)
    ·
     have h := condF hb11 h
     refine TC.exit (TX.thenExit (TX.thenExit (TX.blockHere ?_)))
     exact TX.meetD (out4, hd4) h rfl (Sbs.cons rfl (Sbs.cons rfl (Sbs.nil))) (Splits.of [0, 1] kr rfl)
  ·
   rintro ⟨out1, hd1⟩ h
   rw [hj5] at h
   show TC _ _ _ _ _ ([]) _ _ [(5, v1), (10, hd1.v)] [vec enc_Gpage_best 86 3 v1 all1, vec (encI (.i64)) 3 1 hd1.v out1]
   refine TC.seq ?_
   obtain ⟨q10, hq14, h⟩ := andE h
   refine TC.drawN 6 [(0, 127, hd1.v), (1, 128, v1), (2, 129, .pointer (some ⟨vblk v1, (0 : Int).toNat * 3, none⟩)), (3, 130, .pointer (some ⟨vblk v1, ((0 : Int).toNat) * 3, none⟩)), (4, 131, .int .i64 q10.cost), (5, 2, hd1.v)] mixed kr kr dc (by rfl) kr kr (DrawPre.cons ?_ (DrawPre.cons ?_ (DrawPre.cons ?_ (DrawPre.cons ?_ (DrawPre.cons ?_ (DrawPre.cons ?_ DrawPre.nil)))))) ?_
   ·
    intro D hn hd hcl hu hi
    refine TO.move rfl dc (dl_old (by rfl) rfl) ?_
    exact TX.quiet 0 hu hi rfl
   ·
    intro D hn hd hcl hu hi
    refine TO.move rfl dc (dl_old (by rfl) rfl) ?_
    exact TX.quiet 1 hu hi rfl
   ·
    intro D hn hd hcl hu hi
    refine TO.indexVecI (k := 0) hq14 Try.underlying84 sz_86 rfl dc (dl_lookup (m := 1) hu rfl (hd 1 dc)) rfl rfl rfl ?_
    exact TX.quiet 2 hu hi rfl
   ·
    intro D hn hd hcl hu hi
    refine TO.fieldAddr fl_86_0 rfl dc (dl_lookup (m := 2) hu rfl (hd 2 dc)) (show _ = ((0 : Int).toNat) * 3 from rfl) ?_
    exact TX.quiet 3 hu hi rfl
   ·
    intro D hn hd hcl hu hi
    refine TO.loadVec (i := (0 : Int).toNat) (j := 0) (k := 0) (q := q10) sc_3 enc_Gpage_best_len rfl dc (dl_lookup (m := 3) hu rfl (hd 3 dc)) rfl (getO_get hq14) rfl dc rfl ?_
    exact TX.quiet 4 hu hi rfl
   ·
    intro D hn hd hcl hu hi
    refine TO.assign rfl dc (dl_lookup (m := 0) hu rfl (hd 0 dc)) ?_
    exact TX.quiet 5 hu hi rfl
   refine TO.assign rfl dc rfl (TO.nil (TX.next (TC.ret ?_)))
   cases h
   exact TX.fin (rs := [.tmp 2, .tmp 3]) hd1.v (.inl rfl) Try.results24 (.cons (.tmp rfl) (.cons (.tmp rfl) .nil)) rfl (Splits.of [1] kr rfl)
def page_turner_text_v (t1 : Gpage_turner) (from1 : Int) (to1 : Int) : Option ByteArray := andThen (getO t1.cells from1) fun (q1 : Gapi_Cell) => grd (I64 (to1 - 1)) <| andThen (getO t1.cells (to1 - 1)) fun (q2 : Gapi_Cell) => grd (0 ≤ (q1.Span_From : Int) ∧ (q1.Span_From : Int) ≤ q2.Span_To ∧ (q2.Span_To : Int) ≤ (t1.s.size : Int)) <| some (cutB t1.s q1.Span_From q2.Span_To)
set_option maxRecDepth 100000 in
set_option maxHeartbeats 4000000 in
theorem page_turner_text_fn {bt1 : Nat} {t1 : Gpage_turner} {t1_h0 t1_h1 t1_h2 : Hd} {from1 : Int} {to1 : Int} {r : ByteArray} (h : page_turner_text_v t1 from1 to1 = some r) : FnR Try.prog 25 [.pointer (some ⟨bt1, 0, none⟩), .int .i64 from1, .int .i64 to1] [cells bt1 [.string t1.s, t1_h0.v, t1_h1.v, t1_h2.v, .int .i64 t1.first, .int .i64 t1.rest] 57, vec enc_Gapi_Cell 52 3 t1_h0.v t1.cells, vec (encI (.i64)) 3 1 t1_h1.v t1.wide, vec (encI (.i64)) 3 1 t1_h2.v t1.ends] [] (fun _ : Unit => (.string r)) (fun _ => []) := by
 unfold page_turner_text_v at h
 refine FnR.intro Try.func25 rfl Try.ntmps25 (by simp) ?_
 intro w0 K hrd
 refine TC.seq (TC.region (TO.assign rfl dc rfl (TO.nil (TX.next (TC.seq ?_)))))
 obtain ⟨q1, hq1, h⟩ := andE h
 obtain ⟨hg1, h⟩ := grdE h
 obtain ⟨q2, hq2, h⟩ := andE h
 obtain ⟨hg2, h⟩ := grdE h
 refine TC.drawN 23 [(0, 7, .pointer (some ⟨bt1, 0, none⟩)), (1, 8, .pointer (some ⟨bt1, 0, none⟩)), (2, 9, .pointer (some ⟨bt1, 0, none⟩)), (3, 10, .string t1.s), (4, 11, .pointer (some ⟨bt1, 0, none⟩)), (5, 12, .pointer (some ⟨bt1, 0, none⟩)), (6, 13, .pointer (some ⟨bt1, 1, none⟩)), (7, 14, t1_h0.v), (8, 15, .int .i64 from1), (9, 16, .pointer (some ⟨vblk t1_h0.v, (0 + (from1 : Int).toNat) * 3, none⟩)), (10, 17, .pointer (some ⟨vblk t1_h0.v, (0 + (from1 : Int).toNat) * 3, none⟩)), (11, 18, .pointer (some ⟨vblk t1_h0.v, (0 + (from1 : Int).toNat) * 3, none⟩)), (12, 19, .int .i64 q1.Span_From), (13, 20, .pointer (some ⟨bt1, 0, none⟩)), (14, 21, .pointer (some ⟨bt1, 0, none⟩)), (15, 22, .pointer (some ⟨bt1, 1, none⟩)), (16, 23, t1_h0.v), (17, 24, .int .i64 to1), (18, 25, .int .i64 (to1 - 1)), (19, 26, .pointer (some ⟨vblk t1_h0.v, (0 + (to1 - 1 : Int).toNat) * 3, none⟩)), (20, 27, .pointer (some ⟨vblk t1_h0.v, (0 + (to1 - 1 : Int).toNat) * 3, none⟩)), (21, 28, .pointer (some ⟨vblk t1_h0.v, (0 + (to1 - 1 : Int).toNat) * 3 + 1, none⟩)), (22, 29, .int .i64 q2.Span_To)] mixed kr kr dc (by rfl) kr kr (DrawPre.cons ?_ (DrawPre.cons ?_ (DrawPre.cons ?_ (DrawPre.cons ?_ (DrawPre.cons ?_ (DrawPre.cons ?_ (DrawPre.cons ?_ (DrawPre.cons ?_ (DrawPre.cons ?_ (DrawPre.cons ?_ (DrawPre.cons ?_ (DrawPre.cons ?_ (DrawPre.cons ?_ (DrawPre.cons ?_ (DrawPre.cons ?_ (DrawPre.cons ?_ (DrawPre.cons ?_ (DrawPre.cons ?_ (DrawPre.cons ?_ (DrawPre.cons ?_ (DrawPre.cons ?_ (DrawPre.cons ?_ (DrawPre.cons ?_ DrawPre.nil))))))))))))))))))))))) ?_
 ·
  intro D hn hd hcl hu hi
  refine TO.move rfl dc (dl_old (by rfl) rfl) ?_
  exact TX.quiet 0 hu hi rfl
 ·
  intro D hn hd hcl hu hi
  refine TO.nilCheck rfl dc (dl_lookup (m := 0) hu rfl (hd 0 dc)) ?_
  exact TX.quiet 1 hu hi rfl
 ·
  intro D hn hd hcl hu hi
  refine TO.fieldAddr fl_57_0 rfl dc (dl_lookup (m := 1) hu rfl (hd 1 dc)) (show _ = 0 from rfl) ?_
  exact TX.quiet 2 hu hi rfl
 ·
  intro D hn hd hcl hu hi
  refine TO.loadRd (i := 0) hrd rfl sc_9 rfl dc (dl_lookup (m := 2) hu rfl (hd 2 dc)) rfl ?_
  exact TX.quiet 3 hu hi rfl
 ·
  intro D hn hd hcl hu hi
  refine TO.move rfl dc (dl_old (by rfl) rfl) ?_
  exact TX.quiet 4 hu hi rfl
 ·
  intro D hn hd hcl hu hi
  refine TO.nilCheck rfl dc (dl_lookup (m := 4) hu rfl (hd 4 dc)) ?_
  exact TX.quiet 5 hu hi rfl
 ·
  intro D hn hd hcl hu hi
  refine TO.fieldAddr fl_57_1 rfl dc (dl_lookup (m := 5) hu rfl (hd 5 dc)) (show _ = 1 from rfl) ?_
  exact TX.quiet 6 hu hi rfl
 ·
  intro D hn hd hcl hu hi
  refine TO.loadRd (i := 0) hrd rfl sc_44 rfl dc (dl_lookup (m := 6) hu rfl (hd 6 dc)) rfl ?_
  exact TX.quiet 7 hu hi rfl
 ·
  intro D hn hd hcl hu hi
  refine TO.move rfl dc (dl_old (by rfl) rfl) ?_
  exact TX.quiet 8 hu hi rfl
 ·
  intro D hn hd hcl hu hi
  refine TO.indexVw (hrd.vw (i := 1) rfl) hq1 Try.underlying44 sz_52 rfl dc (dl_lookup (m := 7) hu rfl (hd 7 dc)) (dl_lookup (m := 8) hu rfl (hd 8 dc)) rfl ?_
  exact TX.quiet 9 hu hi rfl
 ·
  intro D hn hd hcl hu hi
  refine TO.fieldAddr fl_52_0 rfl dc (dl_lookup (m := 9) hu rfl (hd 9 dc)) (show _ = (0 + (from1 : Int).toNat) * 3 from rfl) ?_
  exact TX.quiet 10 hu hi rfl
 ·
  intro D hn hd hcl hu hi
  refine TO.fieldAddr fl_50_0 rfl dc (dl_lookup (m := 10) hu rfl (hd 10 dc)) (show _ = (0 + (from1 : Int).toNat) * 3 from rfl) ?_
  exact TX.quiet 11 hu hi rfl
 ·
  intro D hn hd hcl hu hi
  refine TO.loadVecRd (n := 0 + (from1 : Int).toNat) (j := 0) (i := 1) (q := q1) hrd rfl sc_3 enc_Gapi_Cell_len rfl dc (dl_lookup (m := 11) hu rfl (hd 11 dc)) (Vw.get (hrd.vw (i := 1) rfl) hq1) rfl dc rfl ?_
  exact TX.quiet 12 hu hi rfl
 ·
  intro D hn hd hcl hu hi
  refine TO.move rfl dc (dl_old (by rfl) rfl) ?_
  exact TX.quiet 13 hu hi rfl
 ·
  intro D hn hd hcl hu hi
  refine TO.nilCheck rfl dc (dl_lookup (m := 13) hu rfl (hd 13 dc)) ?_
  exact TX.quiet 14 hu hi rfl
 ·
  intro D hn hd hcl hu hi
  refine TO.fieldAddr fl_57_1 rfl dc (dl_lookup (m := 14) hu rfl (hd 14 dc)) (show _ = 1 from rfl) ?_
  exact TX.quiet 15 hu hi rfl
 ·
  intro D hn hd hcl hu hi
  refine TO.loadRd (i := 0) hrd rfl sc_44 rfl dc (dl_lookup (m := 15) hu rfl (hd 15 dc)) rfl ?_
  exact TX.quiet 16 hu hi rfl
 ·
  intro D hn hd hcl hu hi
  refine TO.move rfl dc (dl_old (by rfl) rfl) ?_
  exact TX.quiet 17 hu hi rfl
 ·
  intro D hn hd hcl hu hi
  refine TO.bin rfl dc (dl_lookup (m := 17) hu rfl (hd 17 dc)) rfl (bin_sub (r := to1 - 1) (IntWalk.i64_in _ hg1)) ?_
  exact TX.quiet 18 hu hi rfl
 ·
  intro D hn hd hcl hu hi
  refine TO.indexVw (hrd.vw (i := 1) rfl) hq2 Try.underlying44 sz_52 rfl dc (dl_lookup (m := 16) hu rfl (hd 16 dc)) (dl_lookup (m := 18) hu rfl (hd 18 dc)) rfl ?_
  exact TX.quiet 19 hu hi rfl
 ·
  intro D hn hd hcl hu hi
  refine TO.fieldAddr fl_52_0 rfl dc (dl_lookup (m := 19) hu rfl (hd 19 dc)) (show _ = (0 + (to1 - 1 : Int).toNat) * 3 from rfl) ?_
  exact TX.quiet 20 hu hi rfl
 ·
  intro D hn hd hcl hu hi
  refine TO.fieldAddr fl_50_1 rfl dc (dl_lookup (m := 20) hu rfl (hd 20 dc)) (show _ = (0 + (to1 - 1 : Int).toNat) * 3 + 1 from rfl) ?_
  exact TX.quiet 21 hu hi rfl
 ·
  intro D hn hd hcl hu hi
  refine TO.loadVecRd (n := 0 + (to1 - 1 : Int).toNat) (j := 1) (i := 1) (q := q2) hrd rfl sc_3 enc_Gapi_Cell_len rfl dc (dl_lookup (m := 21) hu rfl (hd 21 dc)) (Vw.get (hrd.vw (i := 1) rfl) hq2) rfl dc rfl ?_
  exact TX.quiet 22 hu hi rfl
 refine TO.slice rfl dc rfl rfl rfl (slice_stringI (i := q1.Span_From) (j := q2.Span_To) Try.underlying9 (.inr rfl) (.inr rfl) hg2) (TO.assign rfl dc rfl (TO.nil (TX.next (TC.ret ?_))))
 cases h
 exact TX.fin (rs := [.tmp 6]) () (.inl rfl) Try.results25 (.cons (.tmp rfl) .nil) rfl Splits.nil
def page_newTurner_s1 (s1 : ByteArray) (indent1 : Int) (l1 : Gapi_Layout) (x1 : Gapi_Cell) (ag1 : (List Gapi_Cell) → (List Int) → (List Int) → Option Gpage_turner) (t10 : List Gapi_Cell) (t11 : List Int) (t12 : List Int) : Option Gpage_turner := joinK (fun (j2 : (List Int) → Int → Option Gpage_turner) => grd (t10.length + 1 ≤ 2147483648) <| grd (I64 (((t10 ++ [x1]).length : Int) - 1)) <| andThen (getO t11 (((t10 ++ [x1]).length : Int) - 1)) fun (q1 : Int) => grd (I64 (q1 + x1.Columns)) <| grd (t11.length + 1 ≤ 2147483648) <| grd (I64 ((((t10 ++ [x1]).length : Int) - 1) + 1)) <| andThen (page_turner_space_v (⟨s1, t10 ++ [x1], t11 ++ [q1 + x1.Columns], t12, max 1 (l1.Width - indent1), l1.Width - l1.Turn⟩ : Gpage_turner) (((t10 ++ [x1]).length : Int) - 1)) fun (r2 : Bool) => bcond (r2) ( andThen (getO t12 (((t10 ++ [x1]).length : Int) - 1)) fun (q2 : Int) => j2 (t11 ++ [q1 + x1.Columns]) q2
) ( j2 (t11 ++ [q1 + x1.Columns]) ((((t10 ++ [x1]).length : Int) - 1) + 1)
)
) (fun (t13 : List Int) (end1 : Int) => grd (t12.length + 1 ≤ 2147483648) <| ag1 (t10 ++ [x1]) t13 (t12 ++ [end1])
)
def page_newTurner_v (s1 : ByteArray) (indent1 : Int) (l1 : Gapi_Layout) : Option Gpage_turner := joinK (fun (j1 : (List Gapi_Cell) → (List Int) → (List Int) → Option Gpage_turner) => grd (I64 (l1.Width - indent1)) <| grd (I64 (l1.Width - l1.Turn)) <| andThen (cluster_Each_v s1) fun (r1 : ByteArray) => andThen (cluster_Each_1_v r1) fun (its1 : (List Gapi_Cell)) => joinK (fun (d1 : (List Gapi_Cell) → (List Int) → (List Int) → Option Gpage_turner) => rangeG d1 (page_newTurner_s1 s1 indent1 l1) its1 ([] : List Gapi_Cell) ([0] : List Int) ([0] : List Int)
) (fun (t10 : List Gapi_Cell) (t11 : List Int) (t12 : List Int) => j1 t10 t11 t12
)
) (fun (t1 : List Gapi_Cell) (t2 : List Int) (t3 : List Int) => some (⟨s1, t1, t2, t3, max 1 (l1.Width - indent1), l1.Width - l1.Turn⟩ : Gpage_turner)
)
set_option maxRecDepth 100000 in
set_option maxHeartbeats 4000000 in
theorem page_newTurner_fn {s1 : ByteArray} {indent1 : Int} {l1 : Gapi_Layout} {r : Gpage_turner} (h : page_newTurner_v s1 indent1 l1 = some r) : Fn Try.prog 20 [.string s1, .int .i64 indent1, .agg #[.int .i64 l1.Width, .int .i64 l1.Height, .int .i64 l1.Turn, .int .i64 l1.Every]] [] (fun b : Nat × Hd × Hd × Hd => .pointer (some ⟨b.1, 0, none⟩)) (fun b => [cells b.1 [.string r.s, b.2.1.v, b.2.2.1.v, b.2.2.2.v, .int .i64 r.first, .int .i64 r.rest] 57, vec enc_Gapi_Cell 52 3 b.2.1.v r.cells, vec (encI (.i64)) 3 1 b.2.2.1.v r.wide, vec (encI (.i64)) 3 1 b.2.2.2.v r.ends]) := by
 unfold page_newTurner_v at h
 refine Fn.intro Try.func20 rfl Try.ntmps20 (by simp) ?_
 intro w0 K
 refine TC.star0 ?_
 show TC _ _ _ _ _ _ _ _ _ [star ((([] : List Nat) : List Nat).map mark)]
 obtain ⟨j1, hj1, h⟩ := joinE h
 refine TC.cutN (β := (List Gapi_Cell) × (List Int) × (List Int) × Nat × Nat × Hd × Hd × Hd × (List Nat)) 2 rfl (fun b => j1 b.1 b.2.1 b.2.2.1 = some r) (fun b => marksOf b.2.2.2.2.2.2.2.2) (fun b => [(7, .pointer (some ⟨b.2.2.2.1, 0, none⟩))]) (fun b => [cells b.2.2.2.1 [.pointer (some ⟨b.2.2.2.2.1, 0, none⟩)] 53, cells b.2.2.2.2.1 [.string s1, b.2.2.2.2.2.1.v, b.2.2.2.2.2.2.1.v, b.2.2.2.2.2.2.2.1.v, .int .i64 (max 1 (l1.Width - indent1)), .int .i64 (l1.Width - l1.Turn)] 57, vec enc_Gapi_Cell 52 3 b.2.2.2.2.2.1.v b.1, vec (encI (.i64)) 3 1 b.2.2.2.2.2.2.1.v b.2.1, vec (encI (.i64)) 3 1 b.2.2.2.2.2.2.2.1.v b.2.2.1, star ((b.2.2.2.2.2.2.2.2 : List Nat).map mark)]) (fun cut => ?_) ?_
 ·
  refine TC.seq (TC.region ?_)
  refine TO.box rfl dc rfl (fun b3 => ?_)
  refine TO.assign rfl dc rfl (TO.nil (TX.next (TC.seq (TC.region (TO.move rfl dc rfl ?_)))))
  refine TO.buildSlice (cs := [.int .i64 0]) (te := 3) (ps := [(0, .const (.int .i64 0))]) rfl dc rfl (fun _ => by kernel_rfl) (fun b4 => ?_)
  show TO _ _ _ _ _ _ _ _ _ _ [star ((([] : List Nat) : List Nat).map mark), cells b3 [.int .i64 l1.Width, .int .i64 l1.Height, .int .i64 l1.Turn, .int .i64 l1.Every] 23, cells b4 [.int .i64 0] 3]
  refine TO.buildSlice (cs := [.int .i64 0]) (te := 3) (ps := [(0, .const (.int .i64 0))]) rfl dc rfl (fun _ => by kernel_rfl) (fun b5 => ?_)
  refine TO.fieldAddr fl_23_0 rfl dc rfl (show _ = 0 from rfl) (TO.load (k := 1) sc_3 rfl dc rfl rfl rfl (TO.move rfl dc rfl ?_))
  obtain ⟨hg1, h⟩ := grdE h
  refine TO.bin rfl dc rfl rfl (bin_sub (r := l1.Width - indent1) (IntWalk.i64_in _ hg1)) (TO.max2 rfl dc rfl rfl (TO.fieldAddr fl_23_0 rfl dc rfl (show _ = 0 from rfl) (TO.load (k := 1) sc_3 rfl dc rfl rfl rfl (TO.fieldAddr fl_23_2 rfl dc rfl (show _ = 2 from rfl) (TO.load (k := 1) sc_3 rfl dc rfl rfl rfl ?_)))))
  obtain ⟨hg2, h⟩ := grdE h
  refine TO.bin rfl dc rfl rfl (bin_sub (r := l1.Width - l1.Turn) (IntWalk.i64_in _ hg2)) ?_
  refine TO.build (v := .agg #[.string s1, .slice none 0 0, .slice (some ⟨b4, 0, none⟩) 1 1, .slice (some ⟨b5, 0, none⟩) 1 1, .int .i64 (max 1 (l1.Width - indent1)), .int .i64 (l1.Width - l1.Turn)]) (ps := [(0, .tmp 11), (2, .tmp 12), (3, .tmp 13), (4, .tmp 18), (5, .tmp 23)]) rfl dc rfl (fun _ => by kernel_rfl) ?_
  refine TO.toVec ([0] : List Int) (k := 2) rfl encI_len rfl (show 1 ≤ maxLen by decide) ?_
  show TO _ _ _ _ _ _ _ _ _ _ [star ((([] : List Nat) : List Nat).map mark), cells b3 [.int .i64 l1.Width, .int .i64 l1.Height, .int .i64 l1.Turn, .int .i64 l1.Every] 23, vec (encI (.i64)) 3 1 (.slice (some ⟨b4, 0, none⟩) 1 1) ([0] : List Int), cells b5 [.int .i64 0] 3]
  refine TO.toVec ([0] : List Int) (k := 3) rfl encI_len rfl (show 1 ≤ maxLen by decide) ?_
  show TO _ _ _ _ _ _ _ _ _ _ [star ((([] : List Nat) : List Nat).map mark), cells b3 [.int .i64 l1.Width, .int .i64 l1.Height, .int .i64 l1.Turn, .int .i64 l1.Every] 23, vec (encI (.i64)) 3 1 (.slice (some ⟨b4, 0, none⟩) 1 1) ([0] : List Int), vec (encI (.i64)) 3 1 (.slice (some ⟨b5, 0, none⟩) 1 1) ([0] : List Int)]
  refine TO.box rfl dc rfl (fun b6 => ?_)
  refine TO.alloc zr_53 rfl dc (fun b7 => ?_)
  show TO _ _ _ _ _ _ _ _ _ _ [star ((([] : List Nat) : List Nat).map mark), cells b3 [.int .i64 l1.Width, .int .i64 l1.Height, .int .i64 l1.Turn, .int .i64 l1.Every] 23, vec (encI (.i64)) 3 1 (.slice (some ⟨b4, 0, none⟩) 1 1) ([0] : List Int), vec (encI (.i64)) 3 1 (.slice (some ⟨b5, 0, none⟩) 1 1) ([0] : List Int), cells b6 [.string s1, .slice none 0 0, (.slice (some ⟨b4, 0, none⟩) 1 1), (.slice (some ⟨b5, 0, none⟩) 1 1), .int .i64 (max 1 (l1.Width - indent1)), .int .i64 (l1.Width - l1.Turn)] 57, cells b7 [.pointer none] 53]
  refine TO.store (k := 5) (l' := [.pointer (some ⟨b6, 0, none⟩)]) sz_53 rfl rfl rfl rfl rfl (fun _ _ => rfl) rfl ?_
  refine TO.nil (TX.next (cut (TC.seq (TC.region (TO.move rfl dc rfl ?_)))))
  obtain ⟨r1, hq1, h⟩ := andE h
  refine TO.call (vs := [.string s1]) rfl dc rfl rfl rfl en_29 (cluster_Each_fn hq1) Splits.nil ?_
  rintro b8
  show TO _ _ _ _ _ _ _ _ _ _ [star ((([] : List Nat) : List Nat).map mark), cells b3 [.int .i64 l1.Width, .int .i64 l1.Height, .int .i64 l1.Turn, .int .i64 l1.Every] 23, vec (encI (.i64)) 3 1 (.slice (some ⟨b4, 0, none⟩) 1 1) ([0] : List Int), vec (encI (.i64)) 3 1 (.slice (some ⟨b5, 0, none⟩) 1 1) ([0] : List Int), cells b6 [.string s1, .slice none 0 0, (.slice (some ⟨b4, 0, none⟩) 1 1), (.slice (some ⟨b5, 0, none⟩) 1 1), .int .i64 (max 1 (l1.Width - indent1)), .int .i64 (l1.Width - l1.Turn)] 57, cells b7 [.pointer (some ⟨b6, 0, none⟩)] 53, cells b8 [.string r1] 9]
  refine TO.weakenL (L' := [star ((([] : List Nat) : List Nat).map mark), cells b3 [.int .i64 l1.Width, .int .i64 l1.Height, .int .i64 l1.Turn, .int .i64 l1.Every] 23, vec (encI (.i64)) 3 1 (.slice (some ⟨b4, 0, none⟩) 1 1) ([0] : List Int), vec (encI (.i64)) 3 1 (.slice (some ⟨b5, 0, none⟩) 1 1) ([0] : List Int), cells b6 [.string s1, .slice none 0 0, (.slice (some ⟨b4, 0, none⟩) 1 1), (.slice (some ⟨b5, 0, none⟩) 1 1), .int .i64 (max 1 (l1.Width - indent1)), .int .i64 (l1.Width - l1.Turn)] 57, cells b7 [.pointer (some ⟨b6, 0, none⟩)] 53, cells b8 [.string r1] 9]) (Splits.of [0, 1, 2, 3, 4, 5, 6] kr rfl) (TO.nil (TX.next (TC.block ?_)))
  obtain ⟨its1, hq2, h⟩ := andE h
  refine TC.newVec (enc := enc_Gapi_Cell) (e := 52) (size := 3) ?_
  show TC _ _ _ _ _ _ _ _ _ [star ((([] : List Nat) : List Nat).map mark), cells b3 [.int .i64 l1.Width, .int .i64 l1.Height, .int .i64 l1.Turn, .int .i64 l1.Every] 23, vec (encI (.i64)) 3 1 (.slice (some ⟨b4, 0, none⟩) 1 1) ([0] : List Int), vec (encI (.i64)) 3 1 (.slice (some ⟨b5, 0, none⟩) 1 1) ([0] : List Int), cells b6 [.string s1, .slice none 0 0, (.slice (some ⟨b4, 0, none⟩) 1 1), (.slice (some ⟨b5, 0, none⟩) 1 1), .int .i64 (max 1 (l1.Width - indent1)), .int .i64 (l1.Width - l1.Turn)] 57, cells b7 [.pointer (some ⟨b6, 0, none⟩)] 53, cells b8 [.string r1] 9, vec enc_Gapi_Cell 52 3 (.slice none 0 0) ([] : List Gapi_Cell)]
  obtain ⟨d1, hd1, h⟩ := joinE h
  refine TC.range (α := Gapi_Cell) (β := (List Gapi_Cell) × (List Int) × (List Int) × Hd × Hd × Hd) (γ := Unit) (δ := Nat) (ps := [28]) Ro.nil rfl en_39 (cluster_Each_1_itr hq2) (fun pre b => ∀ post, its1 = pre ++ post → rangeG d1 (page_newTurner_s1 s1 indent1 l1) post b.1 b.2.1 b.2.2.1 = some r) (fun pre b => [cells b7 [.pointer (some ⟨b6, 0, none⟩)] 53, cells b6 [.string s1, b.2.2.2.1.v, b.2.2.2.2.1.v, b.2.2.2.2.2.v, .int .i64 (max 1 (l1.Width - indent1)), .int .i64 (l1.Width - l1.Turn)] 57, vec enc_Gapi_Cell 52 3 b.2.2.2.1.v b.1, vec (encI (.i64)) 3 1 b.2.2.2.2.1.v b.2.1, vec (encI (.i64)) 3 1 b.2.2.2.2.2.v b.2.2.1]) (fun c pre g => False) (fun c pre g => []) (fun pre x b j => [(6, .pointer none), (7, .pointer (some ⟨b7, 0, none⟩)), (27, .func (.func 39) #[] #[.pointer (some ⟨b8, 0, none⟩)]), (8, .pointer (some ⟨j, 0, none⟩))]) (fun pre x b j => [cells b7 [.pointer (some ⟨b6, 0, none⟩)] 53, cells b6 [.string s1, b.2.2.2.1.v, b.2.2.2.2.1.v, b.2.2.2.2.2.v, .int .i64 (max 1 (l1.Width - indent1)), .int .i64 (l1.Width - l1.Turn)] 57, vec enc_Gapi_Cell 52 3 b.2.2.2.1.v b.1, vec (encI (.i64)) 3 1 b.2.2.2.2.1.v b.2.1, vec (encI (.i64)) 3 1 b.2.2.2.2.2.v b.2.2.1, cells j [.int .i64 x.Span_From, .int .i64 x.Span_To, .int .i64 x.Columns] 52]) (([] : List Gapi_Cell), ([0] : List Int), ([0] : List Int), Hd.nil, (⟨some ⟨b4, 0, none⟩, 1, 1⟩ : Hd), (⟨some ⟨b5, 0, none⟩, 1, 1⟩ : Hd)) (fun post e => by rw [List.nil_append] at e; subst e; exact h) (Splits.of [5, 4, 7, 2, 3] kr rfl) ⟨.inl ⟨6, rfl⟩, trivial⟩ (fun _ => rfl) dc ?_ ?_ ?_ ?_
  ·
   rintro lp rc pre x1 post ⟨t10, t11, t12, hd10, hd11, hd12⟩ w1 K1 hxs1 hext hro hinv
   refine TC.region ?_
   refine TO.alloc zr_52 rfl dc (fun b9 => ?_)
   refine TO.stores (k := 5) (vs := [.int .i64 x1.Span_From, .int .i64 x1.Span_To, .int .i64 x1.Columns]) (l' := [.int .i64 x1.Span_From, .int .i64 x1.Span_To, .int .i64 x1.Columns]) sz_52 rfl rfl rfl rfl rfl (show _ ≤ _ by simp) rfl rfl ?_
   show TO _ _ _ _ _ _ _ _ _ _ [cells b7 [.pointer (some ⟨b6, 0, none⟩)] 53, cells b6 [.string s1, hd10.v, hd11.v, hd12.v, .int .i64 (max 1 (l1.Width - indent1)), .int .i64 (l1.Width - l1.Turn)] 57, vec enc_Gapi_Cell 52 3 hd10.v t10, vec (encI (.i64)) 3 1 hd11.v t11, vec (encI (.i64)) 3 1 hd12.v t12, cells b9 [.int .i64 x1.Span_From, .int .i64 x1.Span_To, .int .i64 x1.Columns] 52]
   refine TO.nil ?_
   exact fun a w ha hw => ⟨b9, (Sbs.cons rfl (Sbs.cons rfl (Sbs.cons rfl (Sbs.cons rfl (Sbs.nil))))) _ _ _ ha, hw.weaken (Splits.of [0, 1, 2, 3, 4, 5] kr rfl)⟩
  ·
   rintro lp rc pre x1 post1 ⟨t10, t11, t12, hd10, hd11, hd12⟩ jb1 w1 K1 hxs1 hext hro hinv
   have h := hinv (x1 :: post1) hxs1
   obtain ⟨ag1, hag1⟩ : ∃ ag, ag = rangeG d1 (page_newTurner_s1 s1 indent1 l1) post1 := ⟨_, rfl⟩
   have h : page_newTurner_s1 s1 indent1 l1 x1 ag1 t10 t11 t12 = some r := by rw [hag1]; exact h
   unfold page_newTurner_s1 at h
   show TC _ _ _ _ _ _ _ _ [(6, .pointer none), (7, .pointer (some ⟨b7, 0, none⟩)), (27, .func (.func 39) #[] #[.pointer (some ⟨b8, 0, none⟩)]), (8, .pointer (some ⟨jb1, 0, none⟩))] [cells b7 [.pointer (some ⟨b6, 0, none⟩)] 53, cells b6 [.string s1, hd10.v, hd11.v, hd12.v, .int .i64 (max 1 (l1.Width - indent1)), .int .i64 (l1.Width - l1.Turn)] 57, vec enc_Gapi_Cell 52 3 hd10.v t10, vec (encI (.i64)) 3 1 hd11.v t11, vec (encI (.i64)) 3 1 hd12.v t12, cells jb1 [.int .i64 x1.Span_From, .int .i64 x1.Span_To, .int .i64 x1.Columns] 52]
   refine TC.block ?_
   obtain ⟨j2, hj2, h⟩ := joinE h
   refine TC.cutN (β := (List Int) × Int × Hd × Hd) 4 rfl (fun b => j2 b.1 b.2.1 = some r) (fun b => []) (fun b => [(6, .pointer none), (7, .pointer (some ⟨b7, 0, none⟩)), (10, .int .i64 b.2.1), (27, .func (.func 39) #[] #[.pointer (some ⟨b8, 0, none⟩)])]) (fun b => [cells b7 [.pointer (some ⟨b6, 0, none⟩)] 53, cells b6 [.string s1, b.2.2.1.v, b.2.2.2.v, hd12.v, .int .i64 (max 1 (l1.Width - indent1)), .int .i64 (l1.Width - l1.Turn)] 57, vec enc_Gapi_Cell 52 3 b.2.2.1.v (t10 ++ [x1]), vec (encI (.i64)) 3 1 b.2.2.2.v b.1, vec (encI (.i64)) 3 1 hd12.v t12]) (fun cut => ?_) ?_
   ·
    refine TC.seq ?_
    obtain ⟨hg3, h⟩ := grdE h
    refine TC.pad 1 ?_
    show TC _ _ _ _ _ _ _ _ _ [cells b7 [.pointer (some ⟨b6, 0, none⟩)] 53, cells b6 [.string s1, hd10.v, hd11.v, hd12.v, .int .i64 (max 1 (l1.Width - indent1)), .int .i64 (l1.Width - l1.Turn)] 57, vec enc_Gapi_Cell 52 3 hd10.v t10, vec (encI (.i64)) 3 1 hd11.v t11, vec (encI (.i64)) 3 1 hd12.v t12, cells jb1 [.int .i64 x1.Span_From, .int .i64 x1.Span_To, .int .i64 x1.Columns] 52, emp]
    refine let vals1 : (Nat × Hd) → List (Nat × Nat × Value) := fun b => [(0, 29, .pointer (some ⟨b6, 0, none⟩)), (1, 30, .pointer (some ⟨b6, 0, none⟩)), (2, 31, .pointer (some ⟨b6, 0, none⟩)), (3, 32, .pointer (some ⟨b6, 1, none⟩)), (4, 33, hd10.v), (5, 34, .agg #[.int .i64 x1.Span_From, .int .i64 x1.Span_To, .int .i64 x1.Columns]), (6, 35, .slice (some ⟨b.1, 0, none⟩) 1 1), (7, 36, b.2.v)]; let LL1 : (Nat → Prop) → (Nat × Hd) → List Asn := fun D b => [cells b7 [.pointer (some ⟨b6, 0, none⟩)] 53, cells b6 [.string s1, hd10.v, hd11.v, hd12.v, .int .i64 (max 1 (l1.Width - indent1)), .int .i64 (l1.Width - l1.Turn)] 57, eD D (vec enc_Gapi_Cell 52 3 hd10.v t10) [(7, vec enc_Gapi_Cell 52 3 b.2.v (t10 ++ [x1]))], vec (encI (.i64)) 3 1 hd11.v t11, vec (encI (.i64)) 3 1 hd12.v t12, cells jb1 [.int .i64 x1.Span_From, .int .i64 x1.Span_To, .int .i64 x1.Columns] 52, eD D emp [(6, cells b.1 [.int .i64 x1.Span_From, .int .i64 x1.Span_To, .int .i64 x1.Columns] 52)]]; ?_
    refine TC.drawG (β := Nat × Hd) 8 ((0 : Nat), Hd.nil) vals1 LL1 mixed kr kr dc (fun _ => rfl) (cons_eq rfl (cons_eq rfl (cons_eq eD_none (cons_eq rfl (cons_eq rfl (cons_eq rfl (cons_eq eD_none rfl))))))) (DrawG.cons ?_ (DrawG.cons ?_ (DrawG.cons ?_ (DrawG.cons ?_ (DrawG.cons ?_ (DrawG.cons ?_ (DrawG.cons ?_ (DrawG.cons ?_ DrawG.nil)))))))) ?_
    ·
     intro D b hn hd hcl
     obtain ⟨b10, hd15⟩ := b
     refine TO.rewL (L' := [cells b7 [.pointer (some ⟨b6, 0, none⟩)] 53, cells b6 [.string s1, hd10.v, hd11.v, hd12.v, .int .i64 (max 1 (l1.Width - indent1)), .int .i64 (l1.Width - l1.Turn)] 57, eD D (vec enc_Gapi_Cell 52 3 hd10.v t10) [(7, vec enc_Gapi_Cell 52 3 hd15.v (t10 ++ [x1]))], vec (encI (.i64)) 3 1 hd11.v t11, vec (encI (.i64)) 3 1 hd12.v t12, cells jb1 [.int .i64 x1.Span_From, .int .i64 x1.Span_To, .int .i64 x1.Columns] 52, eD D emp [(6, cells b10 [.int .i64 x1.Span_From, .int .i64 x1.Span_To, .int .i64 x1.Columns] 52)]]) (cons_eq rfl (cons_eq rfl (cons_eq rfl (cons_eq rfl (cons_eq rfl (cons_eq rfl (cons_eq rfl rfl))))))) (TO.load (k := 0) sc_53 rfl dc (dl_old (by rfl) rfl) rfl rfl ?_)
     exact TX.valG (b10, hd15) 0 (by rfl) (by rfl) rfl (dl_cons_eq (fun _ => rfl) (dl_cons_eq (fun _ => rfl) (dl_cons_eq (fun _ => rfl) (dl_cons_eq (fun _ => rfl) (dl_cons_eq (fun _ => rfl) (dl_cons_eq (fun _ => rfl) (dl_cons_eq (fun _ => rfl) (dl_cons_eq (fun _ => rfl) rfl)))))))) (cons_eq rfl (cons_eq rfl (cons_eq ((eD_skip (by rfl)).trans rfl) (cons_eq rfl (cons_eq rfl (cons_eq rfl (cons_eq ((eD_skip (by rfl)).trans rfl) rfl)))))))
    ·
     intro D b hn hd hcl
     obtain ⟨b10, hd15⟩ := b
     refine TO.rewL (L' := [cells b7 [.pointer (some ⟨b6, 0, none⟩)] 53, cells b6 [.string s1, hd10.v, hd11.v, hd12.v, .int .i64 (max 1 (l1.Width - indent1)), .int .i64 (l1.Width - l1.Turn)] 57, vec enc_Gapi_Cell 52 3 hd10.v t10, vec (encI (.i64)) 3 1 hd11.v t11, vec (encI (.i64)) 3 1 hd12.v t12, cells jb1 [.int .i64 x1.Span_From, .int .i64 x1.Span_To, .int .i64 x1.Columns] 52, eD D emp [(6, cells b10 [.int .i64 x1.Span_From, .int .i64 x1.Span_To, .int .i64 x1.Columns] 52)]]) (cons_eq rfl (cons_eq rfl (cons_eq (eD_miss (fun hD => hn (hcl 2 _ rfl (hcl 3 _ rfl (hcl 4 _ rfl (hcl 7 _ rfl hD 4 dc) 3 dc) 2 dc) 1 dc)) eD_nil) (cons_eq rfl (cons_eq rfl (cons_eq rfl (cons_eq rfl rfl))))))) ?_
     refine TO.load (k := 0) sc_53 rfl dc (dl_old (by rfl) rfl) rfl rfl ?_
     exact TX.valG (b10, hd15) 1 (by rfl) (by rfl) rfl (dl_cons_eq (fun _ => rfl) (dl_cons_eq (fun _ => rfl) (dl_cons_eq (fun _ => rfl) (dl_cons_eq (fun _ => rfl) (dl_cons_eq (fun _ => rfl) (dl_cons_eq (fun _ => rfl) (dl_cons_eq (fun _ => rfl) (dl_cons_eq (fun _ => rfl) rfl)))))))) (cons_eq rfl (cons_eq rfl (cons_eq ((eD_skip (by rfl)).trans (eD_miss (fun hD => hn (hcl 2 _ rfl (hcl 3 _ rfl (hcl 4 _ rfl (hcl 7 _ rfl hD 4 dc) 3 dc) 2 dc) 1 dc)) eD_nil)) (cons_eq rfl (cons_eq rfl (cons_eq rfl (cons_eq ((eD_skip (by rfl)).trans rfl) rfl)))))))
    ·
     intro D b hn hd hcl
     obtain ⟨b10, hd15⟩ := b
     refine TO.rewL (L' := [cells b7 [.pointer (some ⟨b6, 0, none⟩)] 53, cells b6 [.string s1, hd10.v, hd11.v, hd12.v, .int .i64 (max 1 (l1.Width - indent1)), .int .i64 (l1.Width - l1.Turn)] 57, vec enc_Gapi_Cell 52 3 hd10.v t10, vec (encI (.i64)) 3 1 hd11.v t11, vec (encI (.i64)) 3 1 hd12.v t12, cells jb1 [.int .i64 x1.Span_From, .int .i64 x1.Span_To, .int .i64 x1.Columns] 52, eD D emp [(6, cells b10 [.int .i64 x1.Span_From, .int .i64 x1.Span_To, .int .i64 x1.Columns] 52)]]) (cons_eq rfl (cons_eq rfl (cons_eq (eD_miss (fun hD => hn (hcl 3 _ rfl (hcl 4 _ rfl (hcl 7 _ rfl hD 4 dc) 3 dc) 2 dc)) eD_nil) (cons_eq rfl (cons_eq rfl (cons_eq rfl (cons_eq rfl rfl))))))) ?_
     refine TO.nilCheck rfl dc (dl_lookup (m := 1) rfl rfl (hd 1 dc)) ?_
     exact TX.valG (b10, hd15) 2 (by rfl) (by rfl) rfl (dl_cons_eq (fun _ => rfl) (dl_cons_eq (fun _ => rfl) (dl_cons_eq (fun _ => rfl) (dl_cons_eq (fun _ => rfl) (dl_cons_eq (fun _ => rfl) (dl_cons_eq (fun _ => rfl) (dl_cons_eq (fun _ => rfl) (dl_cons_eq (fun _ => rfl) rfl)))))))) (cons_eq rfl (cons_eq rfl (cons_eq ((eD_skip (by rfl)).trans (eD_miss (fun hD => hn (hcl 3 _ rfl (hcl 4 _ rfl (hcl 7 _ rfl hD 4 dc) 3 dc) 2 dc)) eD_nil)) (cons_eq rfl (cons_eq rfl (cons_eq rfl (cons_eq ((eD_skip (by rfl)).trans rfl) rfl)))))))
    ·
     intro D b hn hd hcl
     obtain ⟨b10, hd15⟩ := b
     refine TO.rewL (L' := [cells b7 [.pointer (some ⟨b6, 0, none⟩)] 53, cells b6 [.string s1, hd10.v, hd11.v, hd12.v, .int .i64 (max 1 (l1.Width - indent1)), .int .i64 (l1.Width - l1.Turn)] 57, vec enc_Gapi_Cell 52 3 hd10.v t10, vec (encI (.i64)) 3 1 hd11.v t11, vec (encI (.i64)) 3 1 hd12.v t12, cells jb1 [.int .i64 x1.Span_From, .int .i64 x1.Span_To, .int .i64 x1.Columns] 52, eD D emp [(6, cells b10 [.int .i64 x1.Span_From, .int .i64 x1.Span_To, .int .i64 x1.Columns] 52)]]) (cons_eq rfl (cons_eq rfl (cons_eq (eD_miss (fun hD => hn (hcl 4 _ rfl (hcl 7 _ rfl hD 4 dc) 3 dc)) eD_nil) (cons_eq rfl (cons_eq rfl (cons_eq rfl (cons_eq rfl rfl))))))) ?_
     refine TO.fieldAddr fl_57_1 rfl dc (dl_lookup (m := 2) rfl rfl (hd 2 dc)) (show _ = 1 from rfl) ?_
     exact TX.valG (b10, hd15) 3 (by rfl) (by rfl) rfl (dl_cons_eq (fun _ => rfl) (dl_cons_eq (fun _ => rfl) (dl_cons_eq (fun _ => rfl) (dl_cons_eq (fun _ => rfl) (dl_cons_eq (fun _ => rfl) (dl_cons_eq (fun _ => rfl) (dl_cons_eq (fun _ => rfl) (dl_cons_eq (fun _ => rfl) rfl)))))))) (cons_eq rfl (cons_eq rfl (cons_eq ((eD_skip (by rfl)).trans (eD_miss (fun hD => hn (hcl 4 _ rfl (hcl 7 _ rfl hD 4 dc) 3 dc)) eD_nil)) (cons_eq rfl (cons_eq rfl (cons_eq rfl (cons_eq ((eD_skip (by rfl)).trans rfl) rfl)))))))
    ·
     intro D b hn hd hcl
     obtain ⟨b10, hd15⟩ := b
     refine TO.rewL (L' := [cells b7 [.pointer (some ⟨b6, 0, none⟩)] 53, cells b6 [.string s1, hd10.v, hd11.v, hd12.v, .int .i64 (max 1 (l1.Width - indent1)), .int .i64 (l1.Width - l1.Turn)] 57, vec enc_Gapi_Cell 52 3 hd10.v t10, vec (encI (.i64)) 3 1 hd11.v t11, vec (encI (.i64)) 3 1 hd12.v t12, cells jb1 [.int .i64 x1.Span_From, .int .i64 x1.Span_To, .int .i64 x1.Columns] 52, eD D emp [(6, cells b10 [.int .i64 x1.Span_From, .int .i64 x1.Span_To, .int .i64 x1.Columns] 52)]]) (cons_eq rfl (cons_eq rfl (cons_eq (eD_miss (fun hD => hn (hcl 7 _ rfl hD 4 dc)) eD_nil) (cons_eq rfl (cons_eq rfl (cons_eq rfl (cons_eq rfl rfl))))))) ?_
     refine TO.load (k := 1) sc_44 rfl dc (dl_lookup (m := 3) rfl rfl (hd 3 dc)) rfl rfl ?_
     exact TX.valG (b10, hd15) 4 (by rfl) (by rfl) rfl (dl_cons_eq (fun _ => rfl) (dl_cons_eq (fun _ => rfl) (dl_cons_eq (fun _ => rfl) (dl_cons_eq (fun _ => rfl) (dl_cons_eq (fun _ => rfl) (dl_cons_eq (fun _ => rfl) (dl_cons_eq (fun _ => rfl) (dl_cons_eq (fun _ => rfl) rfl)))))))) (cons_eq rfl (cons_eq rfl (cons_eq ((eD_skip (by rfl)).trans (eD_miss (fun hD => hn (hcl 7 _ rfl hD 4 dc)) eD_nil)) (cons_eq rfl (cons_eq rfl (cons_eq rfl (cons_eq ((eD_skip (by rfl)).trans rfl) rfl)))))))
    ·
     intro D b hn hd hcl
     obtain ⟨b10, hd15⟩ := b
     refine TO.rewL (L' := [cells b7 [.pointer (some ⟨b6, 0, none⟩)] 53, cells b6 [.string s1, hd10.v, hd11.v, hd12.v, .int .i64 (max 1 (l1.Width - indent1)), .int .i64 (l1.Width - l1.Turn)] 57, vec enc_Gapi_Cell 52 3 hd10.v t10, vec (encI (.i64)) 3 1 hd11.v t11, vec (encI (.i64)) 3 1 hd12.v t12, cells jb1 [.int .i64 x1.Span_From, .int .i64 x1.Span_To, .int .i64 x1.Columns] 52, emp]) (cons_eq rfl (cons_eq rfl (cons_eq (eD_miss (fun hD => hn (hcl 6 _ rfl (hcl 7 _ rfl hD 6 dc) 5 dc)) eD_nil) (cons_eq rfl (cons_eq rfl (cons_eq rfl (cons_eq (eD_miss (fun hD => hn (hcl 6 _ rfl hD 5 dc)) eD_nil) rfl))))))) ?_
     refine TO.loads (k := 5) (cs := [.int .i64 x1.Span_From, .int .i64 x1.Span_To, .int .i64 x1.Columns]) rw_52 rfl dc (dl_old (by rfl) rfl) rfl rfl rfl ?_
     exact TX.valG (b10, hd15) 5 (by rfl) (by rfl) rfl (dl_cons_eq (fun _ => rfl) (dl_cons_eq (fun _ => rfl) (dl_cons_eq (fun _ => rfl) (dl_cons_eq (fun _ => rfl) (dl_cons_eq (fun _ => rfl) (dl_cons_eq (fun _ => rfl) (dl_cons_eq (fun _ => rfl) (dl_cons_eq (fun _ => rfl) rfl)))))))) (cons_eq rfl (cons_eq rfl (cons_eq ((eD_skip (by rfl)).trans (eD_miss (fun hD => hn (hcl 6 _ rfl (hcl 7 _ rfl hD 6 dc) 5 dc)) eD_nil)) (cons_eq rfl (cons_eq rfl (cons_eq rfl (cons_eq ((eD_skip (by rfl)).trans (eD_miss (fun hD => hn (hcl 6 _ rfl hD 5 dc)) eD_nil)) rfl)))))))
    ·
     intro D b hn hd hcl
     obtain ⟨_, hd15⟩ := b
     refine TO.rewL (L' := [cells b7 [.pointer (some ⟨b6, 0, none⟩)] 53, cells b6 [.string s1, hd10.v, hd11.v, hd12.v, .int .i64 (max 1 (l1.Width - indent1)), .int .i64 (l1.Width - l1.Turn)] 57, vec enc_Gapi_Cell 52 3 hd10.v t10, vec (encI (.i64)) 3 1 hd11.v t11, vec (encI (.i64)) 3 1 hd12.v t12, cells jb1 [.int .i64 x1.Span_From, .int .i64 x1.Span_To, .int .i64 x1.Columns] 52, emp]) (cons_eq rfl (cons_eq rfl (cons_eq (eD_miss (fun hD => hn (hcl 7 _ rfl hD 6 dc)) eD_nil) (cons_eq rfl (cons_eq rfl (cons_eq rfl (cons_eq (eD_miss hn eD_nil) rfl))))))) ?_
     refine TO.buildSlice (cs := [.int .i64 x1.Span_From, .int .i64 x1.Span_To, .int .i64 x1.Columns]) (te := 52) (ps := [(0, .tmp 34)]) rfl dc (evP.cons (dl_lookup (m := 5) rfl rfl (hd 5 dc)) evP.nil) (fun _ => by kernel_rfl) (fun b10 => ?_)
     refine TO.place 6 rfl rfl ?_
     show TO _ _ _ _ _ _ _ _ _ _ [cells b7 [.pointer (some ⟨b6, 0, none⟩)] 53, cells b6 [.string s1, hd10.v, hd11.v, hd12.v, .int .i64 (max 1 (l1.Width - indent1)), .int .i64 (l1.Width - l1.Turn)] 57, vec enc_Gapi_Cell 52 3 hd10.v t10, vec (encI (.i64)) 3 1 hd11.v t11, vec (encI (.i64)) 3 1 hd12.v t12, cells jb1 [.int .i64 x1.Span_From, .int .i64 x1.Span_To, .int .i64 x1.Columns] 52, cells b10 [.int .i64 x1.Span_From, .int .i64 x1.Span_To, .int .i64 x1.Columns] 52]
     exact TX.valG (b10, hd15) 6 (by rfl) (by rfl) rfl (dl_cons_eq (fun _ => rfl) (dl_cons_eq (fun _ => rfl) (dl_cons_eq (fun _ => rfl) (dl_cons_eq (fun _ => rfl) (dl_cons_eq (fun _ => rfl) (dl_cons_eq (fun _ => rfl) (dl_cons_eq (fun hD => absurd hD hn) (dl_cons_eq (fun _ => rfl) rfl)))))))) (cons_eq rfl (cons_eq rfl (cons_eq ((eD_skip (by rfl)).trans (eD_miss (fun hD => hn (hcl 7 _ rfl hD 6 dc)) eD_nil)) (cons_eq rfl (cons_eq rfl (cons_eq rfl (cons_eq (eD_hit (Or.inr rfl) rfl) rfl)))))))
    ·
     intro D b hn hd hcl
     obtain ⟨b10, _⟩ := b
     refine TO.rewL (L' := [cells b7 [.pointer (some ⟨b6, 0, none⟩)] 53, cells b6 [.string s1, hd10.v, hd11.v, hd12.v, .int .i64 (max 1 (l1.Width - indent1)), .int .i64 (l1.Width - l1.Turn)] 57, vec enc_Gapi_Cell 52 3 hd10.v t10, vec (encI (.i64)) 3 1 hd11.v t11, vec (encI (.i64)) 3 1 hd12.v t12, cells jb1 [.int .i64 x1.Span_From, .int .i64 x1.Span_To, .int .i64 x1.Columns] 52, cells b10 [.int .i64 x1.Span_From, .int .i64 x1.Span_To, .int .i64 x1.Columns] 52]) (cons_eq rfl (cons_eq rfl (cons_eq (eD_miss hn eD_nil) (cons_eq rfl (cons_eq rfl (cons_eq rfl (cons_eq (eD_hit (hd 6 dc) rfl) rfl))))))) ?_
     refine TO.appendVec (k := 2) (k2 := 6) (ys := [x1]) Try.underlying44 el_52 enc_Gapi_Cell_len enc_Gapi_Cell_one rfl dc (dl_lookup (m := 4) rfl rfl (hd 4 dc)) (dl_lookup (m := 6) rfl rfl (hd 6 dc)) rfl rfl rfl rfl hg3 (fun v1 => ?_)
     refine TO.nameHd (k := 2) rfl (fun hd15 he1 => ?_)
     subst he1
     exact TX.valG (b10, hd15) 7 (by rfl) (by rfl) rfl (dl_cons_eq (fun _ => rfl) (dl_cons_eq (fun _ => rfl) (dl_cons_eq (fun _ => rfl) (dl_cons_eq (fun _ => rfl) (dl_cons_eq (fun _ => rfl) (dl_cons_eq (fun _ => rfl) (dl_cons_eq (fun _ => rfl) (dl_cons_eq (fun hD => absurd hD hn) rfl)))))))) (cons_eq rfl (cons_eq rfl (cons_eq (eD_hit (Or.inr rfl) rfl) (cons_eq rfl (cons_eq rfl (cons_eq rfl (cons_eq ((eD_skip (by rfl)).trans (eD_hit (hd 6 dc) rfl)) rfl)))))))
    intro D b hall
    obtain ⟨b10, hd15⟩ := b
    refine TO.rewL (L' := [cells b7 [.pointer (some ⟨b6, 0, none⟩)] 53, cells b6 [.string s1, hd10.v, hd11.v, hd12.v, .int .i64 (max 1 (l1.Width - indent1)), .int .i64 (l1.Width - l1.Turn)] 57, vec enc_Gapi_Cell 52 3 hd15.v (t10 ++ [x1]), vec (encI (.i64)) 3 1 hd11.v t11, vec (encI (.i64)) 3 1 hd12.v t12, cells jb1 [.int .i64 x1.Span_From, .int .i64 x1.Span_To, .int .i64 x1.Columns] 52, cells b10 [.int .i64 x1.Span_From, .int .i64 x1.Span_To, .int .i64 x1.Columns] 52]) (cons_eq rfl (cons_eq rfl (cons_eq (eD_hit (hall 7 dc) rfl) (cons_eq rfl (cons_eq rfl (cons_eq rfl (cons_eq (eD_hit (hall 6 dc) rfl) rfl))))))) (TO.nilCheck rfl dc rfl (TO.fieldAddr fl_57_1 rfl dc rfl (show _ = 1 from rfl) ?_))
    refine TO.store (k := 1) (l' := [.string s1, hd15.v, hd11.v, hd12.v, .int .i64 (max 1 (l1.Width - indent1)), .int .i64 (l1.Width - l1.Turn)]) sz_44 rfl rfl rfl rfl rfl (fun _ _ => rfl) rfl ?_
    refine TO.nil (TX.next (TC.seq (TC.region (TO.load (k := 0) sc_53 rfl dc rfl rfl rfl (TO.nilCheck rfl dc rfl (TO.fieldAddr fl_57_1 rfl dc rfl (show _ = 1 from rfl) (TO.load (k := 1) sc_44 rfl dc rfl rfl rfl (TO.lenVec (k := 2) rfl dc rfl rfl Try.underlying44 ?_))))))))
    obtain ⟨hg4, h⟩ := grdE h
    refine TO.bin rfl dc rfl rfl (bin_sub (r := ((t10 ++ [x1]).length : Int) - 1) (IntWalk.i64_in _ hg4)) (TO.assign rfl dc rfl (TO.nil (TX.next (TC.seq ?_))))
    obtain ⟨q1, hq3, h⟩ := andE h
    obtain ⟨hg5, h⟩ := grdE h
    obtain ⟨hg6, h⟩ := grdE h
    refine TC.pad 1 ?_
    show TC _ _ _ _ _ _ _ _ _ [cells b7 [.pointer (some ⟨b6, 0, none⟩)] 53, cells b6 [.string s1, hd15.v, hd11.v, hd12.v, .int .i64 (max 1 (l1.Width - indent1)), .int .i64 (l1.Width - l1.Turn)] 57, vec enc_Gapi_Cell 52 3 hd15.v (t10 ++ [x1]), vec (encI (.i64)) 3 1 hd11.v t11, vec (encI (.i64)) 3 1 hd12.v t12, cells jb1 [.int .i64 x1.Span_From, .int .i64 x1.Span_To, .int .i64 x1.Columns] 52, cells b10 [.int .i64 x1.Span_From, .int .i64 x1.Span_To, .int .i64 x1.Columns] 52, emp]
    refine let vals2 : (Nat × Hd) → List (Nat × Nat × Value) := fun b => [(0, 45, .pointer (some ⟨b6, 0, none⟩)), (1, 46, .pointer (some ⟨b6, 0, none⟩)), (2, 47, .pointer (some ⟨b6, 0, none⟩)), (3, 48, .pointer (some ⟨b6, 2, none⟩)), (4, 49, hd11.v), (5, 50, .pointer (some ⟨b6, 0, none⟩)), (6, 51, .pointer (some ⟨b6, 0, none⟩)), (7, 52, .pointer (some ⟨b6, 2, none⟩)), (8, 53, hd11.v), (9, 54, .int .i64 (((t10 ++ [x1]).length : Int) - 1)), (10, 55, .pointer (some ⟨vblk hd11.v, (((t10 ++ [x1]).length : Int) - 1 : Int).toNat * 1, none⟩)), (11, 56, .int .i64 q1), (12, 57, .pointer (some ⟨jb1, 2, none⟩)), (13, 58, .int .i64 x1.Columns), (14, 59, .int .i64 (q1 + x1.Columns)), (15, 60, .slice (some ⟨b.1, 0, none⟩) 1 1), (16, 61, b.2.v)]; let LL2 : (Nat → Prop) → (Nat × Hd) → List Asn := fun D b => [cells b7 [.pointer (some ⟨b6, 0, none⟩)] 53, cells b6 [.string s1, hd15.v, hd11.v, hd12.v, .int .i64 (max 1 (l1.Width - indent1)), .int .i64 (l1.Width - l1.Turn)] 57, vec enc_Gapi_Cell 52 3 hd15.v (t10 ++ [x1]), eD D (vec (encI (.i64)) 3 1 hd11.v t11) [(16, vec (encI (.i64)) 3 1 b.2.v (t11 ++ [q1 + x1.Columns]))], vec (encI (.i64)) 3 1 hd12.v t12, cells jb1 [.int .i64 x1.Span_From, .int .i64 x1.Span_To, .int .i64 x1.Columns] 52, cells b10 [.int .i64 x1.Span_From, .int .i64 x1.Span_To, .int .i64 x1.Columns] 52, eD D emp [(15, cells b.1 [.int .i64 (q1 + x1.Columns)] 3)]]; ?_
    refine TC.drawG (β := Nat × Hd) 17 ((0 : Nat), Hd.nil) vals2 LL2 mixed kr kr dc (fun _ => rfl) (cons_eq rfl (cons_eq rfl (cons_eq rfl (cons_eq eD_none (cons_eq rfl (cons_eq rfl (cons_eq rfl (cons_eq eD_none rfl)))))))) (DrawG.cons ?_ (DrawG.cons ?_ (DrawG.cons ?_ (DrawG.cons ?_ (DrawG.cons ?_ (DrawG.cons ?_ (DrawG.cons ?_ (DrawG.cons ?_ (DrawG.cons ?_ (DrawG.cons ?_ (DrawG.cons ?_ (DrawG.cons ?_ (DrawG.cons ?_ (DrawG.cons ?_ (DrawG.cons ?_ (DrawG.cons ?_ (DrawG.cons ?_ DrawG.nil))))))))))))))))) ?_
    ·
     intro D b hn hd hcl
     obtain ⟨b11, hd16⟩ := b
     refine TO.rewL (L' := [cells b7 [.pointer (some ⟨b6, 0, none⟩)] 53, cells b6 [.string s1, hd15.v, hd11.v, hd12.v, .int .i64 (max 1 (l1.Width - indent1)), .int .i64 (l1.Width - l1.Turn)] 57, vec enc_Gapi_Cell 52 3 hd15.v (t10 ++ [x1]), eD D (vec (encI (.i64)) 3 1 hd11.v t11) [(16, vec (encI (.i64)) 3 1 hd16.v (t11 ++ [q1 + x1.Columns]))], vec (encI (.i64)) 3 1 hd12.v t12, cells jb1 [.int .i64 x1.Span_From, .int .i64 x1.Span_To, .int .i64 x1.Columns] 52, cells b10 [.int .i64 x1.Span_From, .int .i64 x1.Span_To, .int .i64 x1.Columns] 52, eD D emp [(15, cells b11 [.int .i64 (q1 + x1.Columns)] 3)]]) (cons_eq rfl (cons_eq rfl (cons_eq rfl (cons_eq rfl (cons_eq rfl (cons_eq rfl (cons_eq rfl (cons_eq rfl rfl)))))))) (TO.load (k := 0) sc_53 rfl dc (dl_old (by rfl) rfl) rfl rfl ?_)
     exact TX.valG (b11, hd16) 0 (by rfl) (by rfl) rfl (dl_cons_eq (fun _ => rfl) (dl_cons_eq (fun _ => rfl) (dl_cons_eq (fun _ => rfl) (dl_cons_eq (fun _ => rfl) (dl_cons_eq (fun _ => rfl) (dl_cons_eq (fun _ => rfl) (dl_cons_eq (fun _ => rfl) (dl_cons_eq (fun _ => rfl) (dl_cons_eq (fun _ => rfl) (dl_cons_eq (fun _ => rfl) (dl_cons_eq (fun _ => rfl) (dl_cons_eq (fun _ => rfl) (dl_cons_eq (fun _ => rfl) (dl_cons_eq (fun _ => rfl) (dl_cons_eq (fun _ => rfl) (dl_cons_eq (fun _ => rfl) (dl_cons_eq (fun _ => rfl) rfl))))))))))))))))) (cons_eq rfl (cons_eq rfl (cons_eq rfl (cons_eq ((eD_skip (by rfl)).trans rfl) (cons_eq rfl (cons_eq rfl (cons_eq rfl (cons_eq ((eD_skip (by rfl)).trans rfl) rfl))))))))
    ·
     intro D b hn hd hcl
     obtain ⟨b11, hd16⟩ := b
     refine TO.rewL (L' := [cells b7 [.pointer (some ⟨b6, 0, none⟩)] 53, cells b6 [.string s1, hd15.v, hd11.v, hd12.v, .int .i64 (max 1 (l1.Width - indent1)), .int .i64 (l1.Width - l1.Turn)] 57, vec enc_Gapi_Cell 52 3 hd15.v (t10 ++ [x1]), vec (encI (.i64)) 3 1 hd11.v t11, vec (encI (.i64)) 3 1 hd12.v t12, cells jb1 [.int .i64 x1.Span_From, .int .i64 x1.Span_To, .int .i64 x1.Columns] 52, cells b10 [.int .i64 x1.Span_From, .int .i64 x1.Span_To, .int .i64 x1.Columns] 52, eD D emp [(15, cells b11 [.int .i64 (q1 + x1.Columns)] 3)]]) (cons_eq rfl (cons_eq rfl (cons_eq rfl (cons_eq (eD_miss (fun hD => hn (hcl 2 _ rfl (hcl 3 _ rfl (hcl 4 _ rfl (hcl 16 _ rfl hD 4 dc) 3 dc) 2 dc) 1 dc)) eD_nil) (cons_eq rfl (cons_eq rfl (cons_eq rfl (cons_eq rfl rfl)))))))) ?_
     refine TO.load (k := 0) sc_53 rfl dc (dl_old (by rfl) rfl) rfl rfl ?_
     exact TX.valG (b11, hd16) 1 (by rfl) (by rfl) rfl (dl_cons_eq (fun _ => rfl) (dl_cons_eq (fun _ => rfl) (dl_cons_eq (fun _ => rfl) (dl_cons_eq (fun _ => rfl) (dl_cons_eq (fun _ => rfl) (dl_cons_eq (fun _ => rfl) (dl_cons_eq (fun _ => rfl) (dl_cons_eq (fun _ => rfl) (dl_cons_eq (fun _ => rfl) (dl_cons_eq (fun _ => rfl) (dl_cons_eq (fun _ => rfl) (dl_cons_eq (fun _ => rfl) (dl_cons_eq (fun _ => rfl) (dl_cons_eq (fun _ => rfl) (dl_cons_eq (fun _ => rfl) (dl_cons_eq (fun _ => rfl) (dl_cons_eq (fun _ => rfl) rfl))))))))))))))))) (cons_eq rfl (cons_eq rfl (cons_eq rfl (cons_eq ((eD_skip (by rfl)).trans (eD_miss (fun hD => hn (hcl 2 _ rfl (hcl 3 _ rfl (hcl 4 _ rfl (hcl 16 _ rfl hD 4 dc) 3 dc) 2 dc) 1 dc)) eD_nil)) (cons_eq rfl (cons_eq rfl (cons_eq rfl (cons_eq ((eD_skip (by rfl)).trans rfl) rfl))))))))
    ·
     intro D b hn hd hcl
     obtain ⟨b11, hd16⟩ := b
     refine TO.rewL (L' := [cells b7 [.pointer (some ⟨b6, 0, none⟩)] 53, cells b6 [.string s1, hd15.v, hd11.v, hd12.v, .int .i64 (max 1 (l1.Width - indent1)), .int .i64 (l1.Width - l1.Turn)] 57, vec enc_Gapi_Cell 52 3 hd15.v (t10 ++ [x1]), vec (encI (.i64)) 3 1 hd11.v t11, vec (encI (.i64)) 3 1 hd12.v t12, cells jb1 [.int .i64 x1.Span_From, .int .i64 x1.Span_To, .int .i64 x1.Columns] 52, cells b10 [.int .i64 x1.Span_From, .int .i64 x1.Span_To, .int .i64 x1.Columns] 52, eD D emp [(15, cells b11 [.int .i64 (q1 + x1.Columns)] 3)]]) (cons_eq rfl (cons_eq rfl (cons_eq rfl (cons_eq (eD_miss (fun hD => hn (hcl 3 _ rfl (hcl 4 _ rfl (hcl 16 _ rfl hD 4 dc) 3 dc) 2 dc)) eD_nil) (cons_eq rfl (cons_eq rfl (cons_eq rfl (cons_eq rfl rfl)))))))) ?_
     refine TO.nilCheck rfl dc (dl_lookup (m := 1) rfl rfl (hd 1 dc)) ?_
     exact TX.valG (b11, hd16) 2 (by rfl) (by rfl) rfl (dl_cons_eq (fun _ => rfl) (dl_cons_eq (fun _ => rfl) (dl_cons_eq (fun _ => rfl) (dl_cons_eq (fun _ => rfl) (dl_cons_eq (fun _ => rfl) (dl_cons_eq (fun _ => rfl) (dl_cons_eq (fun _ => rfl) (dl_cons_eq (fun _ => rfl) (dl_cons_eq (fun _ => rfl) (dl_cons_eq (fun _ => rfl) (dl_cons_eq (fun _ => rfl) (dl_cons_eq (fun _ => rfl) (dl_cons_eq (fun _ => rfl) (dl_cons_eq (fun _ => rfl) (dl_cons_eq (fun _ => rfl) (dl_cons_eq (fun _ => rfl) (dl_cons_eq (fun _ => rfl) rfl))))))))))))))))) (cons_eq rfl (cons_eq rfl (cons_eq rfl (cons_eq ((eD_skip (by rfl)).trans (eD_miss (fun hD => hn (hcl 3 _ rfl (hcl 4 _ rfl (hcl 16 _ rfl hD 4 dc) 3 dc) 2 dc)) eD_nil)) (cons_eq rfl (cons_eq rfl (cons_eq rfl (cons_eq ((eD_skip (by rfl)).trans rfl) rfl))))))))
    ·
     intro D b hn hd hcl
     obtain ⟨b11, hd16⟩ := b
     refine TO.rewL (L' := [cells b7 [.pointer (some ⟨b6, 0, none⟩)] 53, cells b6 [.string s1, hd15.v, hd11.v, hd12.v, .int .i64 (max 1 (l1.Width - indent1)), .int .i64 (l1.Width - l1.Turn)] 57, vec enc_Gapi_Cell 52 3 hd15.v (t10 ++ [x1]), vec (encI (.i64)) 3 1 hd11.v t11, vec (encI (.i64)) 3 1 hd12.v t12, cells jb1 [.int .i64 x1.Span_From, .int .i64 x1.Span_To, .int .i64 x1.Columns] 52, cells b10 [.int .i64 x1.Span_From, .int .i64 x1.Span_To, .int .i64 x1.Columns] 52, eD D emp [(15, cells b11 [.int .i64 (q1 + x1.Columns)] 3)]]) (cons_eq rfl (cons_eq rfl (cons_eq rfl (cons_eq (eD_miss (fun hD => hn (hcl 4 _ rfl (hcl 16 _ rfl hD 4 dc) 3 dc)) eD_nil) (cons_eq rfl (cons_eq rfl (cons_eq rfl (cons_eq rfl rfl)))))))) ?_
     refine TO.fieldAddr fl_57_2 rfl dc (dl_lookup (m := 2) rfl rfl (hd 2 dc)) (show _ = 2 from rfl) ?_
     exact TX.valG (b11, hd16) 3 (by rfl) (by rfl) rfl (dl_cons_eq (fun _ => rfl) (dl_cons_eq (fun _ => rfl) (dl_cons_eq (fun _ => rfl) (dl_cons_eq (fun _ => rfl) (dl_cons_eq (fun _ => rfl) (dl_cons_eq (fun _ => rfl) (dl_cons_eq (fun _ => rfl) (dl_cons_eq (fun _ => rfl) (dl_cons_eq (fun _ => rfl) (dl_cons_eq (fun _ => rfl) (dl_cons_eq (fun _ => rfl) (dl_cons_eq (fun _ => rfl) (dl_cons_eq (fun _ => rfl) (dl_cons_eq (fun _ => rfl) (dl_cons_eq (fun _ => rfl) (dl_cons_eq (fun _ => rfl) (dl_cons_eq (fun _ => rfl) rfl))))))))))))))))) (cons_eq rfl (cons_eq rfl (cons_eq rfl (cons_eq ((eD_skip (by rfl)).trans (eD_miss (fun hD => hn (hcl 4 _ rfl (hcl 16 _ rfl hD 4 dc) 3 dc)) eD_nil)) (cons_eq rfl (cons_eq rfl (cons_eq rfl (cons_eq ((eD_skip (by rfl)).trans rfl) rfl))))))))
    ·
     intro D b hn hd hcl
     obtain ⟨b11, hd16⟩ := b
     refine TO.rewL (L' := [cells b7 [.pointer (some ⟨b6, 0, none⟩)] 53, cells b6 [.string s1, hd15.v, hd11.v, hd12.v, .int .i64 (max 1 (l1.Width - indent1)), .int .i64 (l1.Width - l1.Turn)] 57, vec enc_Gapi_Cell 52 3 hd15.v (t10 ++ [x1]), vec (encI (.i64)) 3 1 hd11.v t11, vec (encI (.i64)) 3 1 hd12.v t12, cells jb1 [.int .i64 x1.Span_From, .int .i64 x1.Span_To, .int .i64 x1.Columns] 52, cells b10 [.int .i64 x1.Span_From, .int .i64 x1.Span_To, .int .i64 x1.Columns] 52, eD D emp [(15, cells b11 [.int .i64 (q1 + x1.Columns)] 3)]]) (cons_eq rfl (cons_eq rfl (cons_eq rfl (cons_eq (eD_miss (fun hD => hn (hcl 16 _ rfl hD 4 dc)) eD_nil) (cons_eq rfl (cons_eq rfl (cons_eq rfl (cons_eq rfl rfl)))))))) ?_
     refine TO.load (k := 1) sc_39 rfl dc (dl_lookup (m := 3) rfl rfl (hd 3 dc)) rfl rfl ?_
     exact TX.valG (b11, hd16) 4 (by rfl) (by rfl) rfl (dl_cons_eq (fun _ => rfl) (dl_cons_eq (fun _ => rfl) (dl_cons_eq (fun _ => rfl) (dl_cons_eq (fun _ => rfl) (dl_cons_eq (fun _ => rfl) (dl_cons_eq (fun _ => rfl) (dl_cons_eq (fun _ => rfl) (dl_cons_eq (fun _ => rfl) (dl_cons_eq (fun _ => rfl) (dl_cons_eq (fun _ => rfl) (dl_cons_eq (fun _ => rfl) (dl_cons_eq (fun _ => rfl) (dl_cons_eq (fun _ => rfl) (dl_cons_eq (fun _ => rfl) (dl_cons_eq (fun _ => rfl) (dl_cons_eq (fun _ => rfl) (dl_cons_eq (fun _ => rfl) rfl))))))))))))))))) (cons_eq rfl (cons_eq rfl (cons_eq rfl (cons_eq ((eD_skip (by rfl)).trans (eD_miss (fun hD => hn (hcl 16 _ rfl hD 4 dc)) eD_nil)) (cons_eq rfl (cons_eq rfl (cons_eq rfl (cons_eq ((eD_skip (by rfl)).trans rfl) rfl))))))))
    ·
     intro D b hn hd hcl
     obtain ⟨b11, hd16⟩ := b
     refine TO.rewL (L' := [cells b7 [.pointer (some ⟨b6, 0, none⟩)] 53, cells b6 [.string s1, hd15.v, hd11.v, hd12.v, .int .i64 (max 1 (l1.Width - indent1)), .int .i64 (l1.Width - l1.Turn)] 57, vec enc_Gapi_Cell 52 3 hd15.v (t10 ++ [x1]), vec (encI (.i64)) 3 1 hd11.v t11, vec (encI (.i64)) 3 1 hd12.v t12, cells jb1 [.int .i64 x1.Span_From, .int .i64 x1.Span_To, .int .i64 x1.Columns] 52, cells b10 [.int .i64 x1.Span_From, .int .i64 x1.Span_To, .int .i64 x1.Columns] 52, emp]) (cons_eq rfl (cons_eq rfl (cons_eq rfl (cons_eq (eD_miss (fun hD => hn (hcl 6 _ rfl (hcl 7 _ rfl (hcl 8 _ rfl (hcl 10 _ rfl (hcl 11 _ rfl (hcl 14 _ rfl (hcl 15 _ rfl (hcl 16 _ rfl hD 15 dc) 14 dc) 11 dc) 10 dc) 8 dc) 7 dc) 6 dc) 5 dc)) eD_nil) (cons_eq rfl (cons_eq rfl (cons_eq rfl (cons_eq (eD_miss (fun hD => hn (hcl 6 _ rfl (hcl 7 _ rfl (hcl 8 _ rfl (hcl 10 _ rfl (hcl 11 _ rfl (hcl 14 _ rfl (hcl 15 _ rfl hD 14 dc) 11 dc) 10 dc) 8 dc) 7 dc) 6 dc) 5 dc)) eD_nil) rfl)))))))) ?_
     refine TO.load (k := 0) sc_53 rfl dc (dl_old (by rfl) rfl) rfl rfl ?_
     exact TX.valG (b11, hd16) 5 (by rfl) (by rfl) rfl (dl_cons_eq (fun _ => rfl) (dl_cons_eq (fun _ => rfl) (dl_cons_eq (fun _ => rfl) (dl_cons_eq (fun _ => rfl) (dl_cons_eq (fun _ => rfl) (dl_cons_eq (fun _ => rfl) (dl_cons_eq (fun _ => rfl) (dl_cons_eq (fun _ => rfl) (dl_cons_eq (fun _ => rfl) (dl_cons_eq (fun _ => rfl) (dl_cons_eq (fun _ => rfl) (dl_cons_eq (fun _ => rfl) (dl_cons_eq (fun _ => rfl) (dl_cons_eq (fun _ => rfl) (dl_cons_eq (fun _ => rfl) (dl_cons_eq (fun _ => rfl) (dl_cons_eq (fun _ => rfl) rfl))))))))))))))))) (cons_eq rfl (cons_eq rfl (cons_eq rfl (cons_eq ((eD_skip (by rfl)).trans (eD_miss (fun hD => hn (hcl 6 _ rfl (hcl 7 _ rfl (hcl 8 _ rfl (hcl 10 _ rfl (hcl 11 _ rfl (hcl 14 _ rfl (hcl 15 _ rfl (hcl 16 _ rfl hD 15 dc) 14 dc) 11 dc) 10 dc) 8 dc) 7 dc) 6 dc) 5 dc)) eD_nil)) (cons_eq rfl (cons_eq rfl (cons_eq rfl (cons_eq ((eD_skip (by rfl)).trans (eD_miss (fun hD => hn (hcl 6 _ rfl (hcl 7 _ rfl (hcl 8 _ rfl (hcl 10 _ rfl (hcl 11 _ rfl (hcl 14 _ rfl (hcl 15 _ rfl hD 14 dc) 11 dc) 10 dc) 8 dc) 7 dc) 6 dc) 5 dc)) eD_nil)) rfl))))))))
    ·
     intro D b hn hd hcl
     obtain ⟨b11, hd16⟩ := b
     refine TO.rewL (L' := [cells b7 [.pointer (some ⟨b6, 0, none⟩)] 53, cells b6 [.string s1, hd15.v, hd11.v, hd12.v, .int .i64 (max 1 (l1.Width - indent1)), .int .i64 (l1.Width - l1.Turn)] 57, vec enc_Gapi_Cell 52 3 hd15.v (t10 ++ [x1]), vec (encI (.i64)) 3 1 hd11.v t11, vec (encI (.i64)) 3 1 hd12.v t12, cells jb1 [.int .i64 x1.Span_From, .int .i64 x1.Span_To, .int .i64 x1.Columns] 52, cells b10 [.int .i64 x1.Span_From, .int .i64 x1.Span_To, .int .i64 x1.Columns] 52, emp]) (cons_eq rfl (cons_eq rfl (cons_eq rfl (cons_eq (eD_miss (fun hD => hn (hcl 7 _ rfl (hcl 8 _ rfl (hcl 10 _ rfl (hcl 11 _ rfl (hcl 14 _ rfl (hcl 15 _ rfl (hcl 16 _ rfl hD 15 dc) 14 dc) 11 dc) 10 dc) 8 dc) 7 dc) 6 dc)) eD_nil) (cons_eq rfl (cons_eq rfl (cons_eq rfl (cons_eq (eD_miss (fun hD => hn (hcl 7 _ rfl (hcl 8 _ rfl (hcl 10 _ rfl (hcl 11 _ rfl (hcl 14 _ rfl (hcl 15 _ rfl hD 14 dc) 11 dc) 10 dc) 8 dc) 7 dc) 6 dc)) eD_nil) rfl)))))))) ?_
     refine TO.nilCheck rfl dc (dl_lookup (m := 5) rfl rfl (hd 5 dc)) ?_
     exact TX.valG (b11, hd16) 6 (by rfl) (by rfl) rfl (dl_cons_eq (fun _ => rfl) (dl_cons_eq (fun _ => rfl) (dl_cons_eq (fun _ => rfl) (dl_cons_eq (fun _ => rfl) (dl_cons_eq (fun _ => rfl) (dl_cons_eq (fun _ => rfl) (dl_cons_eq (fun _ => rfl) (dl_cons_eq (fun _ => rfl) (dl_cons_eq (fun _ => rfl) (dl_cons_eq (fun _ => rfl) (dl_cons_eq (fun _ => rfl) (dl_cons_eq (fun _ => rfl) (dl_cons_eq (fun _ => rfl) (dl_cons_eq (fun _ => rfl) (dl_cons_eq (fun _ => rfl) (dl_cons_eq (fun _ => rfl) (dl_cons_eq (fun _ => rfl) rfl))))))))))))))))) (cons_eq rfl (cons_eq rfl (cons_eq rfl (cons_eq ((eD_skip (by rfl)).trans (eD_miss (fun hD => hn (hcl 7 _ rfl (hcl 8 _ rfl (hcl 10 _ rfl (hcl 11 _ rfl (hcl 14 _ rfl (hcl 15 _ rfl (hcl 16 _ rfl hD 15 dc) 14 dc) 11 dc) 10 dc) 8 dc) 7 dc) 6 dc)) eD_nil)) (cons_eq rfl (cons_eq rfl (cons_eq rfl (cons_eq ((eD_skip (by rfl)).trans (eD_miss (fun hD => hn (hcl 7 _ rfl (hcl 8 _ rfl (hcl 10 _ rfl (hcl 11 _ rfl (hcl 14 _ rfl (hcl 15 _ rfl hD 14 dc) 11 dc) 10 dc) 8 dc) 7 dc) 6 dc)) eD_nil)) rfl))))))))
    ·
     intro D b hn hd hcl
     obtain ⟨b11, hd16⟩ := b
     refine TO.rewL (L' := [cells b7 [.pointer (some ⟨b6, 0, none⟩)] 53, cells b6 [.string s1, hd15.v, hd11.v, hd12.v, .int .i64 (max 1 (l1.Width - indent1)), .int .i64 (l1.Width - l1.Turn)] 57, vec enc_Gapi_Cell 52 3 hd15.v (t10 ++ [x1]), vec (encI (.i64)) 3 1 hd11.v t11, vec (encI (.i64)) 3 1 hd12.v t12, cells jb1 [.int .i64 x1.Span_From, .int .i64 x1.Span_To, .int .i64 x1.Columns] 52, cells b10 [.int .i64 x1.Span_From, .int .i64 x1.Span_To, .int .i64 x1.Columns] 52, emp]) (cons_eq rfl (cons_eq rfl (cons_eq rfl (cons_eq (eD_miss (fun hD => hn (hcl 8 _ rfl (hcl 10 _ rfl (hcl 11 _ rfl (hcl 14 _ rfl (hcl 15 _ rfl (hcl 16 _ rfl hD 15 dc) 14 dc) 11 dc) 10 dc) 8 dc) 7 dc)) eD_nil) (cons_eq rfl (cons_eq rfl (cons_eq rfl (cons_eq (eD_miss (fun hD => hn (hcl 8 _ rfl (hcl 10 _ rfl (hcl 11 _ rfl (hcl 14 _ rfl (hcl 15 _ rfl hD 14 dc) 11 dc) 10 dc) 8 dc) 7 dc)) eD_nil) rfl)))))))) ?_
     refine TO.fieldAddr fl_57_2 rfl dc (dl_lookup (m := 6) rfl rfl (hd 6 dc)) (show _ = 2 from rfl) ?_
     exact TX.valG (b11, hd16) 7 (by rfl) (by rfl) rfl (dl_cons_eq (fun _ => rfl) (dl_cons_eq (fun _ => rfl) (dl_cons_eq (fun _ => rfl) (dl_cons_eq (fun _ => rfl) (dl_cons_eq (fun _ => rfl) (dl_cons_eq (fun _ => rfl) (dl_cons_eq (fun _ => rfl) (dl_cons_eq (fun _ => rfl) (dl_cons_eq (fun _ => rfl) (dl_cons_eq (fun _ => rfl) (dl_cons_eq (fun _ => rfl) (dl_cons_eq (fun _ => rfl) (dl_cons_eq (fun _ => rfl) (dl_cons_eq (fun _ => rfl) (dl_cons_eq (fun _ => rfl) (dl_cons_eq (fun _ => rfl) (dl_cons_eq (fun _ => rfl) rfl))))))))))))))))) (cons_eq rfl (cons_eq rfl (cons_eq rfl (cons_eq ((eD_skip (by rfl)).trans (eD_miss (fun hD => hn (hcl 8 _ rfl (hcl 10 _ rfl (hcl 11 _ rfl (hcl 14 _ rfl (hcl 15 _ rfl (hcl 16 _ rfl hD 15 dc) 14 dc) 11 dc) 10 dc) 8 dc) 7 dc)) eD_nil)) (cons_eq rfl (cons_eq rfl (cons_eq rfl (cons_eq ((eD_skip (by rfl)).trans (eD_miss (fun hD => hn (hcl 8 _ rfl (hcl 10 _ rfl (hcl 11 _ rfl (hcl 14 _ rfl (hcl 15 _ rfl hD 14 dc) 11 dc) 10 dc) 8 dc) 7 dc)) eD_nil)) rfl))))))))
    ·
     intro D b hn hd hcl
     obtain ⟨b11, hd16⟩ := b
     refine TO.rewL (L' := [cells b7 [.pointer (some ⟨b6, 0, none⟩)] 53, cells b6 [.string s1, hd15.v, hd11.v, hd12.v, .int .i64 (max 1 (l1.Width - indent1)), .int .i64 (l1.Width - l1.Turn)] 57, vec enc_Gapi_Cell 52 3 hd15.v (t10 ++ [x1]), vec (encI (.i64)) 3 1 hd11.v t11, vec (encI (.i64)) 3 1 hd12.v t12, cells jb1 [.int .i64 x1.Span_From, .int .i64 x1.Span_To, .int .i64 x1.Columns] 52, cells b10 [.int .i64 x1.Span_From, .int .i64 x1.Span_To, .int .i64 x1.Columns] 52, emp]) (cons_eq rfl (cons_eq rfl (cons_eq rfl (cons_eq (eD_miss (fun hD => hn (hcl 10 _ rfl (hcl 11 _ rfl (hcl 14 _ rfl (hcl 15 _ rfl (hcl 16 _ rfl hD 15 dc) 14 dc) 11 dc) 10 dc) 8 dc)) eD_nil) (cons_eq rfl (cons_eq rfl (cons_eq rfl (cons_eq (eD_miss (fun hD => hn (hcl 10 _ rfl (hcl 11 _ rfl (hcl 14 _ rfl (hcl 15 _ rfl hD 14 dc) 11 dc) 10 dc) 8 dc)) eD_nil) rfl)))))))) ?_
     refine TO.load (k := 1) sc_39 rfl dc (dl_lookup (m := 7) rfl rfl (hd 7 dc)) rfl rfl ?_
     exact TX.valG (b11, hd16) 8 (by rfl) (by rfl) rfl (dl_cons_eq (fun _ => rfl) (dl_cons_eq (fun _ => rfl) (dl_cons_eq (fun _ => rfl) (dl_cons_eq (fun _ => rfl) (dl_cons_eq (fun _ => rfl) (dl_cons_eq (fun _ => rfl) (dl_cons_eq (fun _ => rfl) (dl_cons_eq (fun _ => rfl) (dl_cons_eq (fun _ => rfl) (dl_cons_eq (fun _ => rfl) (dl_cons_eq (fun _ => rfl) (dl_cons_eq (fun _ => rfl) (dl_cons_eq (fun _ => rfl) (dl_cons_eq (fun _ => rfl) (dl_cons_eq (fun _ => rfl) (dl_cons_eq (fun _ => rfl) (dl_cons_eq (fun _ => rfl) rfl))))))))))))))))) (cons_eq rfl (cons_eq rfl (cons_eq rfl (cons_eq ((eD_skip (by rfl)).trans (eD_miss (fun hD => hn (hcl 10 _ rfl (hcl 11 _ rfl (hcl 14 _ rfl (hcl 15 _ rfl (hcl 16 _ rfl hD 15 dc) 14 dc) 11 dc) 10 dc) 8 dc)) eD_nil)) (cons_eq rfl (cons_eq rfl (cons_eq rfl (cons_eq ((eD_skip (by rfl)).trans (eD_miss (fun hD => hn (hcl 10 _ rfl (hcl 11 _ rfl (hcl 14 _ rfl (hcl 15 _ rfl hD 14 dc) 11 dc) 10 dc) 8 dc)) eD_nil)) rfl))))))))
    ·
     intro D b hn hd hcl
     obtain ⟨b11, hd16⟩ := b
     refine TO.rewL (L' := [cells b7 [.pointer (some ⟨b6, 0, none⟩)] 53, cells b6 [.string s1, hd15.v, hd11.v, hd12.v, .int .i64 (max 1 (l1.Width - indent1)), .int .i64 (l1.Width - l1.Turn)] 57, vec enc_Gapi_Cell 52 3 hd15.v (t10 ++ [x1]), vec (encI (.i64)) 3 1 hd11.v t11, vec (encI (.i64)) 3 1 hd12.v t12, cells jb1 [.int .i64 x1.Span_From, .int .i64 x1.Span_To, .int .i64 x1.Columns] 52, cells b10 [.int .i64 x1.Span_From, .int .i64 x1.Span_To, .int .i64 x1.Columns] 52, emp]) (cons_eq rfl (cons_eq rfl (cons_eq rfl (cons_eq (eD_miss (fun hD => hn (hcl 10 _ rfl (hcl 11 _ rfl (hcl 14 _ rfl (hcl 15 _ rfl (hcl 16 _ rfl hD 15 dc) 14 dc) 11 dc) 10 dc) 9 dc)) eD_nil) (cons_eq rfl (cons_eq rfl (cons_eq rfl (cons_eq (eD_miss (fun hD => hn (hcl 10 _ rfl (hcl 11 _ rfl (hcl 14 _ rfl (hcl 15 _ rfl hD 14 dc) 11 dc) 10 dc) 9 dc)) eD_nil) rfl)))))))) ?_
     refine TO.move rfl dc (dl_old (by rfl) rfl) ?_
     exact TX.valG (b11, hd16) 9 (by rfl) (by rfl) rfl (dl_cons_eq (fun _ => rfl) (dl_cons_eq (fun _ => rfl) (dl_cons_eq (fun _ => rfl) (dl_cons_eq (fun _ => rfl) (dl_cons_eq (fun _ => rfl) (dl_cons_eq (fun _ => rfl) (dl_cons_eq (fun _ => rfl) (dl_cons_eq (fun _ => rfl) (dl_cons_eq (fun _ => rfl) (dl_cons_eq (fun _ => rfl) (dl_cons_eq (fun _ => rfl) (dl_cons_eq (fun _ => rfl) (dl_cons_eq (fun _ => rfl) (dl_cons_eq (fun _ => rfl) (dl_cons_eq (fun _ => rfl) (dl_cons_eq (fun _ => rfl) (dl_cons_eq (fun _ => rfl) rfl))))))))))))))))) (cons_eq rfl (cons_eq rfl (cons_eq rfl (cons_eq ((eD_skip (by rfl)).trans (eD_miss (fun hD => hn (hcl 10 _ rfl (hcl 11 _ rfl (hcl 14 _ rfl (hcl 15 _ rfl (hcl 16 _ rfl hD 15 dc) 14 dc) 11 dc) 10 dc) 9 dc)) eD_nil)) (cons_eq rfl (cons_eq rfl (cons_eq rfl (cons_eq ((eD_skip (by rfl)).trans (eD_miss (fun hD => hn (hcl 10 _ rfl (hcl 11 _ rfl (hcl 14 _ rfl (hcl 15 _ rfl hD 14 dc) 11 dc) 10 dc) 9 dc)) eD_nil)) rfl))))))))
    ·
     intro D b hn hd hcl
     obtain ⟨b11, hd16⟩ := b
     refine TO.rewL (L' := [cells b7 [.pointer (some ⟨b6, 0, none⟩)] 53, cells b6 [.string s1, hd15.v, hd11.v, hd12.v, .int .i64 (max 1 (l1.Width - indent1)), .int .i64 (l1.Width - l1.Turn)] 57, vec enc_Gapi_Cell 52 3 hd15.v (t10 ++ [x1]), vec (encI (.i64)) 3 1 hd11.v t11, vec (encI (.i64)) 3 1 hd12.v t12, cells jb1 [.int .i64 x1.Span_From, .int .i64 x1.Span_To, .int .i64 x1.Columns] 52, cells b10 [.int .i64 x1.Span_From, .int .i64 x1.Span_To, .int .i64 x1.Columns] 52, emp]) (cons_eq rfl (cons_eq rfl (cons_eq rfl (cons_eq (eD_miss (fun hD => hn (hcl 11 _ rfl (hcl 14 _ rfl (hcl 15 _ rfl (hcl 16 _ rfl hD 15 dc) 14 dc) 11 dc) 10 dc)) eD_nil) (cons_eq rfl (cons_eq rfl (cons_eq rfl (cons_eq (eD_miss (fun hD => hn (hcl 11 _ rfl (hcl 14 _ rfl (hcl 15 _ rfl hD 14 dc) 11 dc) 10 dc)) eD_nil) rfl)))))))) ?_
     refine TO.indexVecI (k := 3) hq3 Try.underlying39 sz_3 rfl dc (dl_lookup (m := 8) rfl rfl (hd 8 dc)) (dl_lookup (m := 9) rfl rfl (hd 9 dc)) rfl rfl ?_
     exact TX.valG (b11, hd16) 10 (by rfl) (by rfl) rfl (dl_cons_eq (fun _ => rfl) (dl_cons_eq (fun _ => rfl) (dl_cons_eq (fun _ => rfl) (dl_cons_eq (fun _ => rfl) (dl_cons_eq (fun _ => rfl) (dl_cons_eq (fun _ => rfl) (dl_cons_eq (fun _ => rfl) (dl_cons_eq (fun _ => rfl) (dl_cons_eq (fun _ => rfl) (dl_cons_eq (fun _ => rfl) (dl_cons_eq (fun _ => rfl) (dl_cons_eq (fun _ => rfl) (dl_cons_eq (fun _ => rfl) (dl_cons_eq (fun _ => rfl) (dl_cons_eq (fun _ => rfl) (dl_cons_eq (fun _ => rfl) (dl_cons_eq (fun _ => rfl) rfl))))))))))))))))) (cons_eq rfl (cons_eq rfl (cons_eq rfl (cons_eq ((eD_skip (by rfl)).trans (eD_miss (fun hD => hn (hcl 11 _ rfl (hcl 14 _ rfl (hcl 15 _ rfl (hcl 16 _ rfl hD 15 dc) 14 dc) 11 dc) 10 dc)) eD_nil)) (cons_eq rfl (cons_eq rfl (cons_eq rfl (cons_eq ((eD_skip (by rfl)).trans (eD_miss (fun hD => hn (hcl 11 _ rfl (hcl 14 _ rfl (hcl 15 _ rfl hD 14 dc) 11 dc) 10 dc)) eD_nil)) rfl))))))))
    ·
     intro D b hn hd hcl
     obtain ⟨b11, hd16⟩ := b
     refine TO.rewL (L' := [cells b7 [.pointer (some ⟨b6, 0, none⟩)] 53, cells b6 [.string s1, hd15.v, hd11.v, hd12.v, .int .i64 (max 1 (l1.Width - indent1)), .int .i64 (l1.Width - l1.Turn)] 57, vec enc_Gapi_Cell 52 3 hd15.v (t10 ++ [x1]), vec (encI (.i64)) 3 1 hd11.v t11, vec (encI (.i64)) 3 1 hd12.v t12, cells jb1 [.int .i64 x1.Span_From, .int .i64 x1.Span_To, .int .i64 x1.Columns] 52, cells b10 [.int .i64 x1.Span_From, .int .i64 x1.Span_To, .int .i64 x1.Columns] 52, emp]) (cons_eq rfl (cons_eq rfl (cons_eq rfl (cons_eq (eD_miss (fun hD => hn (hcl 14 _ rfl (hcl 15 _ rfl (hcl 16 _ rfl hD 15 dc) 14 dc) 11 dc)) eD_nil) (cons_eq rfl (cons_eq rfl (cons_eq rfl (cons_eq (eD_miss (fun hD => hn (hcl 14 _ rfl (hcl 15 _ rfl hD 14 dc) 11 dc)) eD_nil) rfl)))))))) ?_
     refine TO.loadVec (i := (((t10 ++ [x1]).length : Int) - 1 : Int).toNat) (j := 0) (k := 3) (q := q1) sc_3 encI_len rfl dc (dl_lookup (m := 10) rfl rfl (hd 10 dc)) rfl (getO_get hq3) rfl dc rfl ?_
     exact TX.valG (b11, hd16) 11 (by rfl) (by rfl) rfl (dl_cons_eq (fun _ => rfl) (dl_cons_eq (fun _ => rfl) (dl_cons_eq (fun _ => rfl) (dl_cons_eq (fun _ => rfl) (dl_cons_eq (fun _ => rfl) (dl_cons_eq (fun _ => rfl) (dl_cons_eq (fun _ => rfl) (dl_cons_eq (fun _ => rfl) (dl_cons_eq (fun _ => rfl) (dl_cons_eq (fun _ => rfl) (dl_cons_eq (fun _ => rfl) (dl_cons_eq (fun _ => rfl) (dl_cons_eq (fun _ => rfl) (dl_cons_eq (fun _ => rfl) (dl_cons_eq (fun _ => rfl) (dl_cons_eq (fun _ => rfl) (dl_cons_eq (fun _ => rfl) rfl))))))))))))))))) (cons_eq rfl (cons_eq rfl (cons_eq rfl (cons_eq ((eD_skip (by rfl)).trans (eD_miss (fun hD => hn (hcl 14 _ rfl (hcl 15 _ rfl (hcl 16 _ rfl hD 15 dc) 14 dc) 11 dc)) eD_nil)) (cons_eq rfl (cons_eq rfl (cons_eq rfl (cons_eq ((eD_skip (by rfl)).trans (eD_miss (fun hD => hn (hcl 14 _ rfl (hcl 15 _ rfl hD 14 dc) 11 dc)) eD_nil)) rfl))))))))
    ·
     intro D b hn hd hcl
     obtain ⟨b11, hd16⟩ := b
     refine TO.rewL (L' := [cells b7 [.pointer (some ⟨b6, 0, none⟩)] 53, cells b6 [.string s1, hd15.v, hd11.v, hd12.v, .int .i64 (max 1 (l1.Width - indent1)), .int .i64 (l1.Width - l1.Turn)] 57, vec enc_Gapi_Cell 52 3 hd15.v (t10 ++ [x1]), vec (encI (.i64)) 3 1 hd11.v t11, vec (encI (.i64)) 3 1 hd12.v t12, cells jb1 [.int .i64 x1.Span_From, .int .i64 x1.Span_To, .int .i64 x1.Columns] 52, cells b10 [.int .i64 x1.Span_From, .int .i64 x1.Span_To, .int .i64 x1.Columns] 52, emp]) (cons_eq rfl (cons_eq rfl (cons_eq rfl (cons_eq (eD_miss (fun hD => hn (hcl 13 _ rfl (hcl 14 _ rfl (hcl 15 _ rfl (hcl 16 _ rfl hD 15 dc) 14 dc) 13 dc) 12 dc)) eD_nil) (cons_eq rfl (cons_eq rfl (cons_eq rfl (cons_eq (eD_miss (fun hD => hn (hcl 13 _ rfl (hcl 14 _ rfl (hcl 15 _ rfl hD 14 dc) 13 dc) 12 dc)) eD_nil) rfl)))))))) ?_
     refine TO.fieldAddr fl_52_1 rfl dc (dl_old (by rfl) rfl) (show _ = 2 from rfl) ?_
     exact TX.valG (b11, hd16) 12 (by rfl) (by rfl) rfl (dl_cons_eq (fun _ => rfl) (dl_cons_eq (fun _ => rfl) (dl_cons_eq (fun _ => rfl) (dl_cons_eq (fun _ => rfl) (dl_cons_eq (fun _ => rfl) (dl_cons_eq (fun _ => rfl) (dl_cons_eq (fun _ => rfl) (dl_cons_eq (fun _ => rfl) (dl_cons_eq (fun _ => rfl) (dl_cons_eq (fun _ => rfl) (dl_cons_eq (fun _ => rfl) (dl_cons_eq (fun _ => rfl) (dl_cons_eq (fun _ => rfl) (dl_cons_eq (fun _ => rfl) (dl_cons_eq (fun _ => rfl) (dl_cons_eq (fun _ => rfl) (dl_cons_eq (fun _ => rfl) rfl))))))))))))))))) (cons_eq rfl (cons_eq rfl (cons_eq rfl (cons_eq ((eD_skip (by rfl)).trans (eD_miss (fun hD => hn (hcl 13 _ rfl (hcl 14 _ rfl (hcl 15 _ rfl (hcl 16 _ rfl hD 15 dc) 14 dc) 13 dc) 12 dc)) eD_nil)) (cons_eq rfl (cons_eq rfl (cons_eq rfl (cons_eq ((eD_skip (by rfl)).trans (eD_miss (fun hD => hn (hcl 13 _ rfl (hcl 14 _ rfl (hcl 15 _ rfl hD 14 dc) 13 dc) 12 dc)) eD_nil)) rfl))))))))
    ·
     intro D b hn hd hcl
     obtain ⟨b11, hd16⟩ := b
     refine TO.rewL (L' := [cells b7 [.pointer (some ⟨b6, 0, none⟩)] 53, cells b6 [.string s1, hd15.v, hd11.v, hd12.v, .int .i64 (max 1 (l1.Width - indent1)), .int .i64 (l1.Width - l1.Turn)] 57, vec enc_Gapi_Cell 52 3 hd15.v (t10 ++ [x1]), vec (encI (.i64)) 3 1 hd11.v t11, vec (encI (.i64)) 3 1 hd12.v t12, cells jb1 [.int .i64 x1.Span_From, .int .i64 x1.Span_To, .int .i64 x1.Columns] 52, cells b10 [.int .i64 x1.Span_From, .int .i64 x1.Span_To, .int .i64 x1.Columns] 52, emp]) (cons_eq rfl (cons_eq rfl (cons_eq rfl (cons_eq (eD_miss (fun hD => hn (hcl 14 _ rfl (hcl 15 _ rfl (hcl 16 _ rfl hD 15 dc) 14 dc) 13 dc)) eD_nil) (cons_eq rfl (cons_eq rfl (cons_eq rfl (cons_eq (eD_miss (fun hD => hn (hcl 14 _ rfl (hcl 15 _ rfl hD 14 dc) 13 dc)) eD_nil) rfl)))))))) ?_
     refine TO.load (k := 5) sc_3 rfl dc (dl_lookup (m := 12) rfl rfl (hd 12 dc)) rfl rfl ?_
     exact TX.valG (b11, hd16) 13 (by rfl) (by rfl) rfl (dl_cons_eq (fun _ => rfl) (dl_cons_eq (fun _ => rfl) (dl_cons_eq (fun _ => rfl) (dl_cons_eq (fun _ => rfl) (dl_cons_eq (fun _ => rfl) (dl_cons_eq (fun _ => rfl) (dl_cons_eq (fun _ => rfl) (dl_cons_eq (fun _ => rfl) (dl_cons_eq (fun _ => rfl) (dl_cons_eq (fun _ => rfl) (dl_cons_eq (fun _ => rfl) (dl_cons_eq (fun _ => rfl) (dl_cons_eq (fun _ => rfl) (dl_cons_eq (fun _ => rfl) (dl_cons_eq (fun _ => rfl) (dl_cons_eq (fun _ => rfl) (dl_cons_eq (fun _ => rfl) rfl))))))))))))))))) (cons_eq rfl (cons_eq rfl (cons_eq rfl (cons_eq ((eD_skip (by rfl)).trans (eD_miss (fun hD => hn (hcl 14 _ rfl (hcl 15 _ rfl (hcl 16 _ rfl hD 15 dc) 14 dc) 13 dc)) eD_nil)) (cons_eq rfl (cons_eq rfl (cons_eq rfl (cons_eq ((eD_skip (by rfl)).trans (eD_miss (fun hD => hn (hcl 14 _ rfl (hcl 15 _ rfl hD 14 dc) 13 dc)) eD_nil)) rfl))))))))
    ·
     intro D b hn hd hcl
     obtain ⟨b11, hd16⟩ := b
     refine TO.rewL (L' := [cells b7 [.pointer (some ⟨b6, 0, none⟩)] 53, cells b6 [.string s1, hd15.v, hd11.v, hd12.v, .int .i64 (max 1 (l1.Width - indent1)), .int .i64 (l1.Width - l1.Turn)] 57, vec enc_Gapi_Cell 52 3 hd15.v (t10 ++ [x1]), vec (encI (.i64)) 3 1 hd11.v t11, vec (encI (.i64)) 3 1 hd12.v t12, cells jb1 [.int .i64 x1.Span_From, .int .i64 x1.Span_To, .int .i64 x1.Columns] 52, cells b10 [.int .i64 x1.Span_From, .int .i64 x1.Span_To, .int .i64 x1.Columns] 52, emp]) (cons_eq rfl (cons_eq rfl (cons_eq rfl (cons_eq (eD_miss (fun hD => hn (hcl 15 _ rfl (hcl 16 _ rfl hD 15 dc) 14 dc)) eD_nil) (cons_eq rfl (cons_eq rfl (cons_eq rfl (cons_eq (eD_miss (fun hD => hn (hcl 15 _ rfl hD 14 dc)) eD_nil) rfl)))))))) ?_
     refine TO.bin rfl dc (dl_lookup (m := 11) rfl rfl (hd 11 dc)) (dl_lookup (m := 13) rfl rfl (hd 13 dc)) (bin_add (r := q1 + x1.Columns) (IntWalk.i64_in _ hg5)) ?_
     exact TX.valG (b11, hd16) 14 (by rfl) (by rfl) rfl (dl_cons_eq (fun _ => rfl) (dl_cons_eq (fun _ => rfl) (dl_cons_eq (fun _ => rfl) (dl_cons_eq (fun _ => rfl) (dl_cons_eq (fun _ => rfl) (dl_cons_eq (fun _ => rfl) (dl_cons_eq (fun _ => rfl) (dl_cons_eq (fun _ => rfl) (dl_cons_eq (fun _ => rfl) (dl_cons_eq (fun _ => rfl) (dl_cons_eq (fun _ => rfl) (dl_cons_eq (fun _ => rfl) (dl_cons_eq (fun _ => rfl) (dl_cons_eq (fun _ => rfl) (dl_cons_eq (fun _ => rfl) (dl_cons_eq (fun _ => rfl) (dl_cons_eq (fun _ => rfl) rfl))))))))))))))))) (cons_eq rfl (cons_eq rfl (cons_eq rfl (cons_eq ((eD_skip (by rfl)).trans (eD_miss (fun hD => hn (hcl 15 _ rfl (hcl 16 _ rfl hD 15 dc) 14 dc)) eD_nil)) (cons_eq rfl (cons_eq rfl (cons_eq rfl (cons_eq ((eD_skip (by rfl)).trans (eD_miss (fun hD => hn (hcl 15 _ rfl hD 14 dc)) eD_nil)) rfl))))))))
    ·
     intro D b hn hd hcl
     obtain ⟨_, hd16⟩ := b
     refine TO.rewL (L' := [cells b7 [.pointer (some ⟨b6, 0, none⟩)] 53, cells b6 [.string s1, hd15.v, hd11.v, hd12.v, .int .i64 (max 1 (l1.Width - indent1)), .int .i64 (l1.Width - l1.Turn)] 57, vec enc_Gapi_Cell 52 3 hd15.v (t10 ++ [x1]), vec (encI (.i64)) 3 1 hd11.v t11, vec (encI (.i64)) 3 1 hd12.v t12, cells jb1 [.int .i64 x1.Span_From, .int .i64 x1.Span_To, .int .i64 x1.Columns] 52, cells b10 [.int .i64 x1.Span_From, .int .i64 x1.Span_To, .int .i64 x1.Columns] 52, emp]) (cons_eq rfl (cons_eq rfl (cons_eq rfl (cons_eq (eD_miss (fun hD => hn (hcl 16 _ rfl hD 15 dc)) eD_nil) (cons_eq rfl (cons_eq rfl (cons_eq rfl (cons_eq (eD_miss hn eD_nil) rfl)))))))) ?_
     refine TO.buildSlice (cs := [.int .i64 (q1 + x1.Columns)]) (te := 3) (ps := [(0, .tmp 59)]) rfl dc (evP.cons (dl_lookup (m := 14) rfl rfl (hd 14 dc)) evP.nil) (fun _ => by kernel_rfl) (fun b11 => ?_)
     show TO _ _ _ _ _ _ _ _ _ _ [cells b7 [.pointer (some ⟨b6, 0, none⟩)] 53, cells b6 [.string s1, hd15.v, hd11.v, hd12.v, .int .i64 (max 1 (l1.Width - indent1)), .int .i64 (l1.Width - l1.Turn)] 57, vec enc_Gapi_Cell 52 3 hd15.v (t10 ++ [x1]), vec (encI (.i64)) 3 1 hd11.v t11, vec (encI (.i64)) 3 1 hd12.v t12, cells jb1 [.int .i64 x1.Span_From, .int .i64 x1.Span_To, .int .i64 x1.Columns] 52, cells b10 [.int .i64 x1.Span_From, .int .i64 x1.Span_To, .int .i64 x1.Columns] 52, emp, cells b11 [.int .i64 (q1 + x1.Columns)] 3]
     refine TO.place 7 rfl rfl ?_
     show TO _ _ _ _ _ _ _ _ _ _ [cells b7 [.pointer (some ⟨b6, 0, none⟩)] 53, cells b6 [.string s1, hd15.v, hd11.v, hd12.v, .int .i64 (max 1 (l1.Width - indent1)), .int .i64 (l1.Width - l1.Turn)] 57, vec enc_Gapi_Cell 52 3 hd15.v (t10 ++ [x1]), vec (encI (.i64)) 3 1 hd11.v t11, vec (encI (.i64)) 3 1 hd12.v t12, cells jb1 [.int .i64 x1.Span_From, .int .i64 x1.Span_To, .int .i64 x1.Columns] 52, cells b10 [.int .i64 x1.Span_From, .int .i64 x1.Span_To, .int .i64 x1.Columns] 52, cells b11 [.int .i64 (q1 + x1.Columns)] 3]
     exact TX.valG (b11, hd16) 15 (by rfl) (by rfl) rfl (dl_cons_eq (fun _ => rfl) (dl_cons_eq (fun _ => rfl) (dl_cons_eq (fun _ => rfl) (dl_cons_eq (fun _ => rfl) (dl_cons_eq (fun _ => rfl) (dl_cons_eq (fun _ => rfl) (dl_cons_eq (fun _ => rfl) (dl_cons_eq (fun _ => rfl) (dl_cons_eq (fun _ => rfl) (dl_cons_eq (fun _ => rfl) (dl_cons_eq (fun _ => rfl) (dl_cons_eq (fun _ => rfl) (dl_cons_eq (fun _ => rfl) (dl_cons_eq (fun _ => rfl) (dl_cons_eq (fun _ => rfl) (dl_cons_eq (fun hD => absurd hD hn) (dl_cons_eq (fun _ => rfl) rfl))))))))))))))))) (cons_eq rfl (cons_eq rfl (cons_eq rfl (cons_eq ((eD_skip (by rfl)).trans (eD_miss (fun hD => hn (hcl 16 _ rfl hD 15 dc)) eD_nil)) (cons_eq rfl (cons_eq rfl (cons_eq rfl (cons_eq (eD_hit (Or.inr rfl) rfl) rfl))))))))
    ·
     intro D b hn hd hcl
     obtain ⟨b11, _⟩ := b
     refine TO.rewL (L' := [cells b7 [.pointer (some ⟨b6, 0, none⟩)] 53, cells b6 [.string s1, hd15.v, hd11.v, hd12.v, .int .i64 (max 1 (l1.Width - indent1)), .int .i64 (l1.Width - l1.Turn)] 57, vec enc_Gapi_Cell 52 3 hd15.v (t10 ++ [x1]), vec (encI (.i64)) 3 1 hd11.v t11, vec (encI (.i64)) 3 1 hd12.v t12, cells jb1 [.int .i64 x1.Span_From, .int .i64 x1.Span_To, .int .i64 x1.Columns] 52, cells b10 [.int .i64 x1.Span_From, .int .i64 x1.Span_To, .int .i64 x1.Columns] 52, cells b11 [.int .i64 (q1 + x1.Columns)] 3]) (cons_eq rfl (cons_eq rfl (cons_eq rfl (cons_eq (eD_miss hn eD_nil) (cons_eq rfl (cons_eq rfl (cons_eq rfl (cons_eq (eD_hit (hd 15 dc) rfl) rfl)))))))) ?_
     refine TO.appendVec (k := 3) (k2 := 7) (ys := [q1 + x1.Columns]) Try.underlying39 el_3 encI_len encI_one rfl dc (dl_lookup (m := 4) rfl rfl (hd 4 dc)) (dl_lookup (m := 15) rfl rfl (hd 15 dc)) rfl rfl rfl rfl hg6 (fun v2 => ?_)
     refine TO.nameHd (k := 3) rfl (fun hd16 he2 => ?_)
     subst he2
     show TO _ _ _ _ _ _ _ _ _ _ [cells b7 [.pointer (some ⟨b6, 0, none⟩)] 53, cells b6 [.string s1, hd15.v, hd11.v, hd12.v, .int .i64 (max 1 (l1.Width - indent1)), .int .i64 (l1.Width - l1.Turn)] 57, vec enc_Gapi_Cell 52 3 hd15.v (t10 ++ [x1]), vec (encI (.i64)) 3 1 hd16.v (t11 ++ [q1 + x1.Columns]), vec (encI (.i64)) 3 1 hd12.v t12, cells jb1 [.int .i64 x1.Span_From, .int .i64 x1.Span_To, .int .i64 x1.Columns] 52, cells b10 [.int .i64 x1.Span_From, .int .i64 x1.Span_To, .int .i64 x1.Columns] 52, cells b11 [.int .i64 (q1 + x1.Columns)] 3]
     exact TX.valG (b11, hd16) 16 (by rfl) (by rfl) rfl (dl_cons_eq (fun _ => rfl) (dl_cons_eq (fun _ => rfl) (dl_cons_eq (fun _ => rfl) (dl_cons_eq (fun _ => rfl) (dl_cons_eq (fun _ => rfl) (dl_cons_eq (fun _ => rfl) (dl_cons_eq (fun _ => rfl) (dl_cons_eq (fun _ => rfl) (dl_cons_eq (fun _ => rfl) (dl_cons_eq (fun _ => rfl) (dl_cons_eq (fun _ => rfl) (dl_cons_eq (fun _ => rfl) (dl_cons_eq (fun _ => rfl) (dl_cons_eq (fun _ => rfl) (dl_cons_eq (fun _ => rfl) (dl_cons_eq (fun _ => rfl) (dl_cons_eq (fun hD => absurd hD hn) rfl))))))))))))))))) (cons_eq rfl (cons_eq rfl (cons_eq rfl (cons_eq (eD_hit (Or.inr rfl) rfl) (cons_eq rfl (cons_eq rfl (cons_eq rfl (cons_eq ((eD_skip (by rfl)).trans (eD_hit (hd 15 dc) rfl)) rfl))))))))
    intro D b hall
    obtain ⟨b11, hd16⟩ := b
    refine TO.rewL (L' := [cells b7 [.pointer (some ⟨b6, 0, none⟩)] 53, cells b6 [.string s1, hd15.v, hd11.v, hd12.v, .int .i64 (max 1 (l1.Width - indent1)), .int .i64 (l1.Width - l1.Turn)] 57, vec enc_Gapi_Cell 52 3 hd15.v (t10 ++ [x1]), vec (encI (.i64)) 3 1 hd16.v (t11 ++ [q1 + x1.Columns]), vec (encI (.i64)) 3 1 hd12.v t12, cells jb1 [.int .i64 x1.Span_From, .int .i64 x1.Span_To, .int .i64 x1.Columns] 52, cells b10 [.int .i64 x1.Span_From, .int .i64 x1.Span_To, .int .i64 x1.Columns] 52, cells b11 [.int .i64 (q1 + x1.Columns)] 3]) (cons_eq rfl (cons_eq rfl (cons_eq rfl (cons_eq (eD_hit (hall 16 dc) rfl) (cons_eq rfl (cons_eq rfl (cons_eq rfl (cons_eq (eD_hit (hall 15 dc) rfl) rfl)))))))) (TO.nilCheck rfl dc rfl (TO.fieldAddr fl_57_2 rfl dc rfl (show _ = 2 from rfl) ?_))
    refine TO.store (k := 1) (l' := [.string s1, hd15.v, hd16.v, hd12.v, .int .i64 (max 1 (l1.Width - indent1)), .int .i64 (l1.Width - l1.Turn)]) sz_39 rfl rfl rfl rfl rfl (fun _ _ => rfl) rfl ?_
    show TO _ _ _ _ _ _ _ _ _ _ [cells b7 [.pointer (some ⟨b6, 0, none⟩)] 53, cells b6 [.string s1, hd15.v, hd16.v, hd12.v, .int .i64 (max 1 (l1.Width - indent1)), .int .i64 (l1.Width - l1.Turn)] 57, vec enc_Gapi_Cell 52 3 hd15.v (t10 ++ [x1]), vec (encI (.i64)) 3 1 hd16.v (t11 ++ [q1 + x1.Columns]), vec (encI (.i64)) 3 1 hd12.v t12, cells jb1 [.int .i64 x1.Span_From, .int .i64 x1.Span_To, .int .i64 x1.Columns] 52, cells b10 [.int .i64 x1.Span_From, .int .i64 x1.Span_To, .int .i64 x1.Columns] 52, cells b11 [.int .i64 (q1 + x1.Columns)] 3]
    refine TO.nil (TX.next (TC.seq (TC.region (TO.move rfl dc rfl ?_))))
    obtain ⟨hg7, h⟩ := grdE h
    refine TO.bin rfl dc rfl rfl (bin_add (r := (((t10 ++ [x1]).length : Int) - 1) + 1) (IntWalk.i64_in _ hg7)) (TO.assign rfl dc rfl (TO.nil (TX.next (cut (TC.seq (TC.region (TO.load (k := 0) sc_53 rfl dc rfl rfl rfl (TO.move rfl dc rfl ?_))))))))
    obtain ⟨r2, hq4, h⟩ := andE h
    refine TO.callPR (v := .bool r2) (vs := [.pointer (some ⟨b6, 0, none⟩), .int .i64 (((t10 ++ [x1]).length : Int) - 1)]) (Rd.nil : Rd _ _ []) rfl dc rfl rfl rfl en_30 (page_turner_space_fn (bt1 := b6) (t1 := (⟨s1, t10 ++ [x1], t11 ++ [q1 + x1.Columns], t12, max 1 (l1.Width - indent1), l1.Width - l1.Turn⟩ : Gpage_turner)) (t1_h0 := hd15) (t1_h1 := hd16) (t1_h2 := hd12) hq4) (.own (Splits.of [1] (by kernel_rfl) rfl) (fun _ _ h => sepL.one1.1 h) (.own (Splits.of [2] (by kernel_rfl) rfl) (fun _ _ h => sepL.one1.1 h) (.own (Splits.of [3] (by kernel_rfl) rfl) (fun _ _ h => sepL.one1.1 h) (.own (Splits.of [4] (by kernel_rfl) rfl) (fun _ _ h => sepL.one1.1 h) .nil)))) ?_
    refine TO.nil (TX.next ?_)
    refine TC.condB rfl (fun hb1 => ?_) (fun hb1 => ?_)
    ·
     have h := condT hb1 h
     refine TC.region (TO.load (k := 0) sc_53 rfl dc rfl rfl rfl (TO.nilCheck rfl dc rfl (TO.fieldAddr fl_57_3 rfl dc rfl (show _ = 3 from rfl) (TO.load (k := 1) sc_39 rfl dc rfl rfl rfl (TO.move rfl dc rfl ?_)))))
     obtain ⟨q2, hq5, h⟩ := andE h
     refine TO.indexVecI (k := 4) hq5 Try.underlying39 sz_3 rfl dc rfl rfl rfl rfl (TO.loadVec (i := (((t10 ++ [x1]).length : Int) - 1 : Int).toNat) (j := 0) (k := 4) (q := q2) sc_3 encI_len rfl dc rfl rfl (getO_get hq5) rfl dc rfl (TO.assign rfl dc rfl (TO.nil ?_)))
     exact TX.meetD (t11 ++ [q1 + x1.Columns], q2, hd15, hd16) h rfl (Sbs.cons rfl (Sbs.cons rfl (Sbs.cons rfl (Sbs.cons rfl (Sbs.nil))))) (Splits.of [0, 1, 2, 3, 4] kr rfl)
    ·
     have h := condF hb1 h
     refine TC.skip ?_
     exact TX.meetD (t11 ++ [q1 + x1.Columns], (((t10 ++ [x1]).length : Int) - 1) + 1, hd15, hd16) h rfl (Sbs.cons rfl (Sbs.cons rfl (Sbs.cons rfl (Sbs.cons rfl (Sbs.nil))))) (Splits.of [0, 1, 2, 3, 4] kr rfl)
   ·
    rintro ⟨t13, end1, hd13, hd14⟩ h
    rw [hj2] at h
    show TC _ _ _ _ _ ([]) _ _ [(6, .pointer none), (7, .pointer (some ⟨b7, 0, none⟩)), (10, .int .i64 end1), (27, .func (.func 39) #[] #[.pointer (some ⟨b8, 0, none⟩)])] [cells b7 [.pointer (some ⟨b6, 0, none⟩)] 53, cells b6 [.string s1, hd13.v, hd14.v, hd12.v, .int .i64 (max 1 (l1.Width - indent1)), .int .i64 (l1.Width - l1.Turn)] 57, vec enc_Gapi_Cell 52 3 hd13.v (t10 ++ [x1]), vec (encI (.i64)) 3 1 hd14.v t13, vec (encI (.i64)) 3 1 hd12.v t12]
    obtain ⟨hg8, h⟩ := grdE h
    refine TC.pad 1 ?_
    show TC _ _ _ _ _ _ _ _ _ [cells b7 [.pointer (some ⟨b6, 0, none⟩)] 53, cells b6 [.string s1, hd13.v, hd14.v, hd12.v, .int .i64 (max 1 (l1.Width - indent1)), .int .i64 (l1.Width - l1.Turn)] 57, vec enc_Gapi_Cell 52 3 hd13.v (t10 ++ [x1]), vec (encI (.i64)) 3 1 hd14.v t13, vec (encI (.i64)) 3 1 hd12.v t12, emp]
    refine let vals3 : (Nat × Hd) → List (Nat × Nat × Value) := fun b => [(0, 76, .pointer (some ⟨b6, 0, none⟩)), (1, 77, .pointer (some ⟨b6, 0, none⟩)), (2, 78, .pointer (some ⟨b6, 0, none⟩)), (3, 79, .pointer (some ⟨b6, 3, none⟩)), (4, 80, hd12.v), (5, 81, .int .i64 end1), (6, 82, .slice (some ⟨b.1, 0, none⟩) 1 1), (7, 83, b.2.v)]; let LL3 : (Nat → Prop) → (Nat × Hd) → List Asn := fun D b => [cells b7 [.pointer (some ⟨b6, 0, none⟩)] 53, cells b6 [.string s1, hd13.v, hd14.v, hd12.v, .int .i64 (max 1 (l1.Width - indent1)), .int .i64 (l1.Width - l1.Turn)] 57, vec enc_Gapi_Cell 52 3 hd13.v (t10 ++ [x1]), vec (encI (.i64)) 3 1 hd14.v t13, eD D (vec (encI (.i64)) 3 1 hd12.v t12) [(7, vec (encI (.i64)) 3 1 b.2.v (t12 ++ [end1]))], eD D emp [(6, cells b.1 [.int .i64 end1] 3)]]; ?_
    refine TC.drawG (β := Nat × Hd) 8 ((0 : Nat), Hd.nil) vals3 LL3 mixed kr kr dc (fun _ => rfl) (cons_eq rfl (cons_eq rfl (cons_eq rfl (cons_eq rfl (cons_eq eD_none (cons_eq eD_none rfl)))))) (DrawG.cons ?_ (DrawG.cons ?_ (DrawG.cons ?_ (DrawG.cons ?_ (DrawG.cons ?_ (DrawG.cons ?_ (DrawG.cons ?_ (DrawG.cons ?_ DrawG.nil)))))))) ?_
    ·
     intro D b hn hd hcl
     obtain ⟨b12, hd17⟩ := b
     refine TO.rewL (L' := [cells b7 [.pointer (some ⟨b6, 0, none⟩)] 53, cells b6 [.string s1, hd13.v, hd14.v, hd12.v, .int .i64 (max 1 (l1.Width - indent1)), .int .i64 (l1.Width - l1.Turn)] 57, vec enc_Gapi_Cell 52 3 hd13.v (t10 ++ [x1]), vec (encI (.i64)) 3 1 hd14.v t13, eD D (vec (encI (.i64)) 3 1 hd12.v t12) [(7, vec (encI (.i64)) 3 1 hd17.v (t12 ++ [end1]))], eD D emp [(6, cells b12 [.int .i64 end1] 3)]]) (cons_eq rfl (cons_eq rfl (cons_eq rfl (cons_eq rfl (cons_eq rfl (cons_eq rfl rfl)))))) (TO.load (k := 0) sc_53 rfl dc (dl_old (by rfl) rfl) rfl rfl ?_)
     exact TX.valG (b12, hd17) 0 (by rfl) (by rfl) rfl (dl_cons_eq (fun _ => rfl) (dl_cons_eq (fun _ => rfl) (dl_cons_eq (fun _ => rfl) (dl_cons_eq (fun _ => rfl) (dl_cons_eq (fun _ => rfl) (dl_cons_eq (fun _ => rfl) (dl_cons_eq (fun _ => rfl) (dl_cons_eq (fun _ => rfl) rfl)))))))) (cons_eq rfl (cons_eq rfl (cons_eq rfl (cons_eq rfl (cons_eq ((eD_skip (by rfl)).trans rfl) (cons_eq ((eD_skip (by rfl)).trans rfl) rfl))))))
    ·
     intro D b hn hd hcl
     obtain ⟨b12, hd17⟩ := b
     refine TO.rewL (L' := [cells b7 [.pointer (some ⟨b6, 0, none⟩)] 53, cells b6 [.string s1, hd13.v, hd14.v, hd12.v, .int .i64 (max 1 (l1.Width - indent1)), .int .i64 (l1.Width - l1.Turn)] 57, vec enc_Gapi_Cell 52 3 hd13.v (t10 ++ [x1]), vec (encI (.i64)) 3 1 hd14.v t13, vec (encI (.i64)) 3 1 hd12.v t12, eD D emp [(6, cells b12 [.int .i64 end1] 3)]]) (cons_eq rfl (cons_eq rfl (cons_eq rfl (cons_eq rfl (cons_eq (eD_miss (fun hD => hn (hcl 2 _ rfl (hcl 3 _ rfl (hcl 4 _ rfl (hcl 7 _ rfl hD 4 dc) 3 dc) 2 dc) 1 dc)) eD_nil) (cons_eq rfl rfl)))))) ?_
     refine TO.load (k := 0) sc_53 rfl dc (dl_old (by rfl) rfl) rfl rfl ?_
     exact TX.valG (b12, hd17) 1 (by rfl) (by rfl) rfl (dl_cons_eq (fun _ => rfl) (dl_cons_eq (fun _ => rfl) (dl_cons_eq (fun _ => rfl) (dl_cons_eq (fun _ => rfl) (dl_cons_eq (fun _ => rfl) (dl_cons_eq (fun _ => rfl) (dl_cons_eq (fun _ => rfl) (dl_cons_eq (fun _ => rfl) rfl)))))))) (cons_eq rfl (cons_eq rfl (cons_eq rfl (cons_eq rfl (cons_eq ((eD_skip (by rfl)).trans (eD_miss (fun hD => hn (hcl 2 _ rfl (hcl 3 _ rfl (hcl 4 _ rfl (hcl 7 _ rfl hD 4 dc) 3 dc) 2 dc) 1 dc)) eD_nil)) (cons_eq ((eD_skip (by rfl)).trans rfl) rfl))))))
    ·
     intro D b hn hd hcl
     obtain ⟨b12, hd17⟩ := b
     refine TO.rewL (L' := [cells b7 [.pointer (some ⟨b6, 0, none⟩)] 53, cells b6 [.string s1, hd13.v, hd14.v, hd12.v, .int .i64 (max 1 (l1.Width - indent1)), .int .i64 (l1.Width - l1.Turn)] 57, vec enc_Gapi_Cell 52 3 hd13.v (t10 ++ [x1]), vec (encI (.i64)) 3 1 hd14.v t13, vec (encI (.i64)) 3 1 hd12.v t12, eD D emp [(6, cells b12 [.int .i64 end1] 3)]]) (cons_eq rfl (cons_eq rfl (cons_eq rfl (cons_eq rfl (cons_eq (eD_miss (fun hD => hn (hcl 3 _ rfl (hcl 4 _ rfl (hcl 7 _ rfl hD 4 dc) 3 dc) 2 dc)) eD_nil) (cons_eq rfl rfl)))))) ?_
     refine TO.nilCheck rfl dc (dl_lookup (m := 1) rfl rfl (hd 1 dc)) ?_
     exact TX.valG (b12, hd17) 2 (by rfl) (by rfl) rfl (dl_cons_eq (fun _ => rfl) (dl_cons_eq (fun _ => rfl) (dl_cons_eq (fun _ => rfl) (dl_cons_eq (fun _ => rfl) (dl_cons_eq (fun _ => rfl) (dl_cons_eq (fun _ => rfl) (dl_cons_eq (fun _ => rfl) (dl_cons_eq (fun _ => rfl) rfl)))))))) (cons_eq rfl (cons_eq rfl (cons_eq rfl (cons_eq rfl (cons_eq ((eD_skip (by rfl)).trans (eD_miss (fun hD => hn (hcl 3 _ rfl (hcl 4 _ rfl (hcl 7 _ rfl hD 4 dc) 3 dc) 2 dc)) eD_nil)) (cons_eq ((eD_skip (by rfl)).trans rfl) rfl))))))
    ·
     intro D b hn hd hcl
     obtain ⟨b12, hd17⟩ := b
     refine TO.rewL (L' := [cells b7 [.pointer (some ⟨b6, 0, none⟩)] 53, cells b6 [.string s1, hd13.v, hd14.v, hd12.v, .int .i64 (max 1 (l1.Width - indent1)), .int .i64 (l1.Width - l1.Turn)] 57, vec enc_Gapi_Cell 52 3 hd13.v (t10 ++ [x1]), vec (encI (.i64)) 3 1 hd14.v t13, vec (encI (.i64)) 3 1 hd12.v t12, eD D emp [(6, cells b12 [.int .i64 end1] 3)]]) (cons_eq rfl (cons_eq rfl (cons_eq rfl (cons_eq rfl (cons_eq (eD_miss (fun hD => hn (hcl 4 _ rfl (hcl 7 _ rfl hD 4 dc) 3 dc)) eD_nil) (cons_eq rfl rfl)))))) ?_
     refine TO.fieldAddr fl_57_3 rfl dc (dl_lookup (m := 2) rfl rfl (hd 2 dc)) (show _ = 3 from rfl) ?_
     exact TX.valG (b12, hd17) 3 (by rfl) (by rfl) rfl (dl_cons_eq (fun _ => rfl) (dl_cons_eq (fun _ => rfl) (dl_cons_eq (fun _ => rfl) (dl_cons_eq (fun _ => rfl) (dl_cons_eq (fun _ => rfl) (dl_cons_eq (fun _ => rfl) (dl_cons_eq (fun _ => rfl) (dl_cons_eq (fun _ => rfl) rfl)))))))) (cons_eq rfl (cons_eq rfl (cons_eq rfl (cons_eq rfl (cons_eq ((eD_skip (by rfl)).trans (eD_miss (fun hD => hn (hcl 4 _ rfl (hcl 7 _ rfl hD 4 dc) 3 dc)) eD_nil)) (cons_eq ((eD_skip (by rfl)).trans rfl) rfl))))))
    ·
     intro D b hn hd hcl
     obtain ⟨b12, hd17⟩ := b
     refine TO.rewL (L' := [cells b7 [.pointer (some ⟨b6, 0, none⟩)] 53, cells b6 [.string s1, hd13.v, hd14.v, hd12.v, .int .i64 (max 1 (l1.Width - indent1)), .int .i64 (l1.Width - l1.Turn)] 57, vec enc_Gapi_Cell 52 3 hd13.v (t10 ++ [x1]), vec (encI (.i64)) 3 1 hd14.v t13, vec (encI (.i64)) 3 1 hd12.v t12, eD D emp [(6, cells b12 [.int .i64 end1] 3)]]) (cons_eq rfl (cons_eq rfl (cons_eq rfl (cons_eq rfl (cons_eq (eD_miss (fun hD => hn (hcl 7 _ rfl hD 4 dc)) eD_nil) (cons_eq rfl rfl)))))) ?_
     refine TO.load (k := 1) sc_39 rfl dc (dl_lookup (m := 3) rfl rfl (hd 3 dc)) rfl rfl ?_
     exact TX.valG (b12, hd17) 4 (by rfl) (by rfl) rfl (dl_cons_eq (fun _ => rfl) (dl_cons_eq (fun _ => rfl) (dl_cons_eq (fun _ => rfl) (dl_cons_eq (fun _ => rfl) (dl_cons_eq (fun _ => rfl) (dl_cons_eq (fun _ => rfl) (dl_cons_eq (fun _ => rfl) (dl_cons_eq (fun _ => rfl) rfl)))))))) (cons_eq rfl (cons_eq rfl (cons_eq rfl (cons_eq rfl (cons_eq ((eD_skip (by rfl)).trans (eD_miss (fun hD => hn (hcl 7 _ rfl hD 4 dc)) eD_nil)) (cons_eq ((eD_skip (by rfl)).trans rfl) rfl))))))
    ·
     intro D b hn hd hcl
     obtain ⟨b12, hd17⟩ := b
     refine TO.rewL (L' := [cells b7 [.pointer (some ⟨b6, 0, none⟩)] 53, cells b6 [.string s1, hd13.v, hd14.v, hd12.v, .int .i64 (max 1 (l1.Width - indent1)), .int .i64 (l1.Width - l1.Turn)] 57, vec enc_Gapi_Cell 52 3 hd13.v (t10 ++ [x1]), vec (encI (.i64)) 3 1 hd14.v t13, vec (encI (.i64)) 3 1 hd12.v t12, emp]) (cons_eq rfl (cons_eq rfl (cons_eq rfl (cons_eq rfl (cons_eq (eD_miss (fun hD => hn (hcl 6 _ rfl (hcl 7 _ rfl hD 6 dc) 5 dc)) eD_nil) (cons_eq (eD_miss (fun hD => hn (hcl 6 _ rfl hD 5 dc)) eD_nil) rfl)))))) ?_
     refine TO.move rfl dc (dl_old (by rfl) rfl) ?_
     exact TX.valG (b12, hd17) 5 (by rfl) (by rfl) rfl (dl_cons_eq (fun _ => rfl) (dl_cons_eq (fun _ => rfl) (dl_cons_eq (fun _ => rfl) (dl_cons_eq (fun _ => rfl) (dl_cons_eq (fun _ => rfl) (dl_cons_eq (fun _ => rfl) (dl_cons_eq (fun _ => rfl) (dl_cons_eq (fun _ => rfl) rfl)))))))) (cons_eq rfl (cons_eq rfl (cons_eq rfl (cons_eq rfl (cons_eq ((eD_skip (by rfl)).trans (eD_miss (fun hD => hn (hcl 6 _ rfl (hcl 7 _ rfl hD 6 dc) 5 dc)) eD_nil)) (cons_eq ((eD_skip (by rfl)).trans (eD_miss (fun hD => hn (hcl 6 _ rfl hD 5 dc)) eD_nil)) rfl))))))
    ·
     intro D b hn hd hcl
     obtain ⟨_, hd17⟩ := b
     refine TO.rewL (L' := [cells b7 [.pointer (some ⟨b6, 0, none⟩)] 53, cells b6 [.string s1, hd13.v, hd14.v, hd12.v, .int .i64 (max 1 (l1.Width - indent1)), .int .i64 (l1.Width - l1.Turn)] 57, vec enc_Gapi_Cell 52 3 hd13.v (t10 ++ [x1]), vec (encI (.i64)) 3 1 hd14.v t13, vec (encI (.i64)) 3 1 hd12.v t12, emp]) (cons_eq rfl (cons_eq rfl (cons_eq rfl (cons_eq rfl (cons_eq (eD_miss (fun hD => hn (hcl 7 _ rfl hD 6 dc)) eD_nil) (cons_eq (eD_miss hn eD_nil) rfl)))))) ?_
     refine TO.buildSlice (cs := [.int .i64 end1]) (te := 3) (ps := [(0, .tmp 81)]) rfl dc (evP.cons (dl_lookup (m := 5) rfl rfl (hd 5 dc)) evP.nil) (fun _ => by kernel_rfl) (fun b12 => ?_)
     refine TO.place 5 rfl rfl ?_
     show TO _ _ _ _ _ _ _ _ _ _ [cells b7 [.pointer (some ⟨b6, 0, none⟩)] 53, cells b6 [.string s1, hd13.v, hd14.v, hd12.v, .int .i64 (max 1 (l1.Width - indent1)), .int .i64 (l1.Width - l1.Turn)] 57, vec enc_Gapi_Cell 52 3 hd13.v (t10 ++ [x1]), vec (encI (.i64)) 3 1 hd14.v t13, vec (encI (.i64)) 3 1 hd12.v t12, cells b12 [.int .i64 end1] 3]
     exact TX.valG (b12, hd17) 6 (by rfl) (by rfl) rfl (dl_cons_eq (fun _ => rfl) (dl_cons_eq (fun _ => rfl) (dl_cons_eq (fun _ => rfl) (dl_cons_eq (fun _ => rfl) (dl_cons_eq (fun _ => rfl) (dl_cons_eq (fun _ => rfl) (dl_cons_eq (fun hD => absurd hD hn) (dl_cons_eq (fun _ => rfl) rfl)))))))) (cons_eq rfl (cons_eq rfl (cons_eq rfl (cons_eq rfl (cons_eq ((eD_skip (by rfl)).trans (eD_miss (fun hD => hn (hcl 7 _ rfl hD 6 dc)) eD_nil)) (cons_eq (eD_hit (Or.inr rfl) rfl) rfl))))))
    ·
     intro D b hn hd hcl
     obtain ⟨b12, _⟩ := b
     refine TO.rewL (L' := [cells b7 [.pointer (some ⟨b6, 0, none⟩)] 53, cells b6 [.string s1, hd13.v, hd14.v, hd12.v, .int .i64 (max 1 (l1.Width - indent1)), .int .i64 (l1.Width - l1.Turn)] 57, vec enc_Gapi_Cell 52 3 hd13.v (t10 ++ [x1]), vec (encI (.i64)) 3 1 hd14.v t13, vec (encI (.i64)) 3 1 hd12.v t12, cells b12 [.int .i64 end1] 3]) (cons_eq rfl (cons_eq rfl (cons_eq rfl (cons_eq rfl (cons_eq (eD_miss hn eD_nil) (cons_eq (eD_hit (hd 6 dc) rfl) rfl)))))) ?_
     refine TO.appendVec (k := 4) (k2 := 5) (ys := [end1]) Try.underlying39 el_3 encI_len encI_one rfl dc (dl_lookup (m := 4) rfl rfl (hd 4 dc)) (dl_lookup (m := 6) rfl rfl (hd 6 dc)) rfl rfl rfl rfl hg8 (fun v3 => ?_)
     refine TO.nameHd (k := 4) rfl (fun hd17 he3 => ?_)
     subst he3
     exact TX.valG (b12, hd17) 7 (by rfl) (by rfl) rfl (dl_cons_eq (fun _ => rfl) (dl_cons_eq (fun _ => rfl) (dl_cons_eq (fun _ => rfl) (dl_cons_eq (fun _ => rfl) (dl_cons_eq (fun _ => rfl) (dl_cons_eq (fun _ => rfl) (dl_cons_eq (fun _ => rfl) (dl_cons_eq (fun hD => absurd hD hn) rfl)))))))) (cons_eq rfl (cons_eq rfl (cons_eq rfl (cons_eq rfl (cons_eq (eD_hit (Or.inr rfl) rfl) (cons_eq ((eD_skip (by rfl)).trans (eD_hit (hd 6 dc) rfl)) rfl))))))
    intro D b hall
    obtain ⟨b12, hd17⟩ := b
    refine TO.rewL (L' := [cells b7 [.pointer (some ⟨b6, 0, none⟩)] 53, cells b6 [.string s1, hd13.v, hd14.v, hd12.v, .int .i64 (max 1 (l1.Width - indent1)), .int .i64 (l1.Width - l1.Turn)] 57, vec enc_Gapi_Cell 52 3 hd13.v (t10 ++ [x1]), vec (encI (.i64)) 3 1 hd14.v t13, vec (encI (.i64)) 3 1 hd17.v (t12 ++ [end1]), cells b12 [.int .i64 end1] 3]) (cons_eq rfl (cons_eq rfl (cons_eq rfl (cons_eq rfl (cons_eq (eD_hit (hall 7 dc) rfl) (cons_eq (eD_hit (hall 6 dc) rfl) rfl)))))) (TO.nilCheck rfl dc rfl (TO.fieldAddr fl_57_3 rfl dc rfl (show _ = 3 from rfl) ?_))
    refine TO.store (k := 1) (l' := [.string s1, hd13.v, hd14.v, hd17.v, .int .i64 (max 1 (l1.Width - indent1)), .int .i64 (l1.Width - l1.Turn)]) sz_39 rfl rfl rfl rfl rfl (fun _ _ => rfl) rfl ?_
    refine TO.nil (TX.blockNormal ?_)
    exact TX.round (t10 ++ [x1], t13, t12 ++ [end1], hd13, hd14, hd17) (fun post2 e2 => by have e9 := snoc_post hxs1 e2; subst e9; subst hag1; exact h) (Splits.of [0, 1, 2, 3, 4] kr rfl)
  ·
   rintro dm1 ⟨t10, t11, t12, hd10, hd11, hd12⟩ hinv
   have h : d1 t10 t11 t12 = some r := hinv [] (List.append_nil _).symm
   rw [hd1] at h
   show TX _ _ _ _ _ _ _ [star ((([] : List Nat) : List Nat).map mark), cells b3 [.int .i64 l1.Width, .int .i64 l1.Height, .int .i64 l1.Turn, .int .i64 l1.Every] 23, emp, emp, emp, emp, cells b8 [.string r1] 9, emp, cells b7 [.pointer (some ⟨b6, 0, none⟩)] 53, cells b6 [.string s1, hd10.v, hd11.v, hd12.v, .int .i64 (max 1 (l1.Width - indent1)), .int .i64 (l1.Width - l1.Turn)] 57, vec enc_Gapi_Cell 52 3 hd10.v t10, vec (encI (.i64)) 3 1 hd11.v t11, vec (encI (.i64)) 3 1 hd12.v t12, mark dm1]
   refine TX.starCons (k := 13) (j := 0) rfl rfl dc ?_
   show TX _ _ _ _ _ _ _ [star ((dm1 :: ([] : List Nat) : List Nat).map mark), cells b3 [.int .i64 l1.Width, .int .i64 l1.Height, .int .i64 l1.Turn, .int .i64 l1.Every] 23, emp, emp, emp, emp, cells b8 [.string r1] 9, emp, cells b7 [.pointer (some ⟨b6, 0, none⟩)] 53, cells b6 [.string s1, hd10.v, hd11.v, hd12.v, .int .i64 (max 1 (l1.Width - indent1)), .int .i64 (l1.Width - l1.Turn)] 57, vec enc_Gapi_Cell 52 3 hd10.v t10, vec (encI (.i64)) 3 1 hd11.v t11, vec (encI (.i64)) 3 1 hd12.v t12, emp]
   refine TX.blockNormal ?_
   exact TX.meetD (t10, t11, t12, b7, b6, hd10, hd11, hd12, dm1 :: ([] : List Nat)) h rfl (Sbs.cons rfl (Sbs.nil)) (Splits.of [8, 9, 10, 11, 12, 0] kr rfl)
  ·
   rintro dm1 c pre x1 post g hxs hX
   exact (show False from hX).elim
 ·
  rintro ⟨t1, t2, t3, b1, b2, hd1, hd2, hd3, ds1⟩ h
  rw [hj1] at h
  show TC _ _ _ _ _ (marksOf ds1) _ _ [(7, .pointer (some ⟨b1, 0, none⟩))] [cells b1 [.pointer (some ⟨b2, 0, none⟩)] 53, cells b2 [.string s1, hd1.v, hd2.v, hd3.v, .int .i64 (max 1 (l1.Width - indent1)), .int .i64 (l1.Width - l1.Turn)] 57, vec enc_Gapi_Cell 52 3 hd1.v t1, vec (encI (.i64)) 3 1 hd2.v t2, vec (encI (.i64)) 3 1 hd3.v t3, star ((ds1 : List Nat).map mark)]
  refine TC.seq (TC.region (TO.load (k := 0) sc_53 rfl dc rfl rfl rfl (TO.assign rfl dc rfl (TO.nil (TX.next (TC.ret ?_))))))
  cases h
  exact TX.finM (rs := [.tmp 6]) ds1 (b2, hd1, hd2, hd3) (.inl rfl) (Splits.open0 (k := 5) rfl) Try.results20 (.cons (.tmp rfl) .nil) rfl (Splits.of [1, 2, 3, 4] kr rfl)
def page_turn_s1 (j1 : Int → (List ByteArray) → Option ((List ByteArray) × Int)) (r1 : Gpage_turner) (r2 : ((List Int) × Int)) (ag1 : (List ByteArray) → Int → Int → Option ((List ByteArray) × Int)) (out4 : List ByteArray) (from3 : Int) (x3 : Int) : Option ((List ByteArray) × Int) := bcond (decide ((x3 : Int) < (r2.1.length : Int))) ( andThen (getO r2.1 x3) fun (q1 : Int) => andThen (page_turner_text_v r1 from3 q1) fun (r3 : ByteArray) => grd (out4.length + 1 ≤ 2147483648) <| grd (I64 (x3 + 1)) <| ag1 (out4 ++ [r3]) q1 (x3 + 1)
) ( j1 r2.2 out4
)
def page_turn_v (s1 : ByteArray) (indent1 : Int) (l1 : Gapi_Layout) : Option ((List ByteArray) × Int) := joinK (fun (j1 : Int → (List ByteArray) → Option ((List ByteArray) × Int)) => andThen (page_newTurner_v s1 indent1 l1) fun (r1 : Gpage_turner) => andThen (page_turner_rows_v r1) fun (r2 : ((List Int) × Int)) => loopG (fun _ _ _ => none) (page_turn_s1 j1 r1 r2) fuel ([] : List ByteArray) 0 0
) (fun (cost1 : Int) (out1 : List ByteArray) => some (out1, cost1)
)
set_option maxRecDepth 100000 in
set_option maxHeartbeats 4000000 in
theorem page_turn_fn {s1 : ByteArray} {indent1 : Int} {l1 : Gapi_Layout} {r : ((List ByteArray) × Int)} (h : page_turn_v s1 indent1 l1 = some r) : Fn Try.prog 14 [.string s1, .int .i64 indent1, .agg #[.int .i64 l1.Width, .int .i64 l1.Height, .int .i64 l1.Turn, .int .i64 l1.Every]] [] (fun v0 : Value => .tuple #[v0, .int .i64 r.2]) (fun v0 => [vec encS 9 1 v0 r.1]) := by
 unfold page_turn_v at h
 refine Fn.intro Try.func14 rfl Try.ntmps14 (by simp) ?_
 intro w0 K
 obtain ⟨j1, hj1, h⟩ := joinE h
 refine TC.cutN (β := Int × (List ByteArray) × Hd) 5 rfl (fun b => j1 b.1 b.2.1 = some r) (fun b => []) (fun b => [(10, .int .i64 b.1), (11, b.2.2.v)]) (fun b => [vec encS 9 1 b.2.2.v b.2.1]) (fun cut => ?_) ?_
 ·
  refine TC.seq (TC.region ?_)
  refine TO.box rfl dc rfl (fun b1 => ?_)
  refine TO.assign rfl dc rfl (TO.assign rfl dc rfl (TO.nil (TX.next (TC.seq (TC.region (TO.move rfl dc rfl (TO.move rfl dc rfl (TO.loads (k := 0) (cs := [.int .i64 l1.Width, .int .i64 l1.Height, .int .i64 l1.Turn, .int .i64 l1.Every]) rw_23 rfl dc rfl rfl rfl rfl ?_))))))))
  obtain ⟨r1, hq1, h⟩ := andE h
  refine TO.call (vs := [.string s1, .int .i64 indent1, .agg #[.int .i64 l1.Width, .int .i64 l1.Height, .int .i64 l1.Turn, .int .i64 l1.Every]]) rfl dc rfl rfl rfl en_20 (page_newTurner_fn (l1 := l1) hq1) Splits.nil ?_
  rintro ⟨b2, hd2, hd3, hd4⟩
  show TO _ _ _ _ _ _ _ _ _ _ [cells b1 [.int .i64 l1.Width, .int .i64 l1.Height, .int .i64 l1.Turn, .int .i64 l1.Every] 23, cells b2 [.string r1.s, hd2.v, hd3.v, hd4.v, .int .i64 r1.first, .int .i64 r1.rest] 57, vec enc_Gapi_Cell 52 3 hd2.v r1.cells, vec (encI (.i64)) 3 1 hd3.v r1.wide, vec (encI (.i64)) 3 1 hd4.v r1.ends]
  refine TO.weakenL (L' := [cells b1 [.int .i64 l1.Width, .int .i64 l1.Height, .int .i64 l1.Turn, .int .i64 l1.Every] 23, cells b2 [.string r1.s, hd2.v, hd3.v, hd4.v, .int .i64 r1.first, .int .i64 r1.rest] 57, vec enc_Gapi_Cell 52 3 hd2.v r1.cells, vec (encI (.i64)) 3 1 hd3.v r1.wide, vec (encI (.i64)) 3 1 hd4.v r1.ends]) (Splits.of [0, 1, 2, 3, 4] kr rfl) (TO.assign rfl dc rfl (TO.nil (TX.next (TC.seq (TC.region (TO.move rfl dc rfl ?_))))))
  obtain ⟨r2, hq2, h⟩ := andE h
  refine TO.callR (vs := [.pointer (some ⟨b2, 0, none⟩)]) (Rd.nil : Rd _ _ []) rfl dc rfl rfl rfl en_24 (page_turner_rows_fn (bt1 := b2) (t1 := r1) (t1_h0 := hd2) (t1_h1 := hd3) (t1_h2 := hd4) hq2) Splits.nil (.own (Splits.of [1] (by kernel_rfl) rfl) (fun _ _ h => sepL.one1.1 h) (.own (Splits.of [2] (by kernel_rfl) rfl) (fun _ _ h => sepL.one1.1 h) (.own (Splits.of [3] (by kernel_rfl) rfl) (fun _ _ h => sepL.one1.1 h) (.own (Splits.of [4] (by kernel_rfl) rfl) (fun _ _ h => sepL.one1.1 h) .nil)))) ?_
  rintro v1
  show TO _ _ _ _ _ _ _ _ _ _ [cells b1 [.int .i64 l1.Width, .int .i64 l1.Height, .int .i64 l1.Turn, .int .i64 l1.Every] 23, cells b2 [.string r1.s, hd2.v, hd3.v, hd4.v, .int .i64 r1.first, .int .i64 r1.rest] 57, vec enc_Gapi_Cell 52 3 hd2.v r1.cells, vec (encI (.i64)) 3 1 hd3.v r1.wide, vec (encI (.i64)) 3 1 hd4.v r1.ends, vec (encI (.i64)) 3 1 v1 r2.1]
  refine TO.weakenL (L' := [cells b1 [.int .i64 l1.Width, .int .i64 l1.Height, .int .i64 l1.Turn, .int .i64 l1.Every] 23, cells b2 [.string r1.s, hd2.v, hd3.v, hd4.v, .int .i64 r1.first, .int .i64 r1.rest] 57, vec enc_Gapi_Cell 52 3 hd2.v r1.cells, vec (encI (.i64)) 3 1 hd3.v r1.wide, vec (encI (.i64)) 3 1 hd4.v r1.ends, vec (encI (.i64)) 3 1 v1 r2.1]) (Splits.of [0, 1, 2, 3, 4, 5] kr rfl) ?_
  refine TO.nameHd (k := 5) rfl (fun hd5 he1 => ?_)
  subst he1
  refine TO.move rfl dc rfl (TO.extract rfl dc rfl rfl (TO.extract rfl dc rfl rfl (TO.assign rfl dc rfl (TO.assign rfl dc rfl (TO.nil (TX.next (TC.seq (TC.region (TO.assign rfl dc rfl (TO.nil (TX.next (TC.seq (TC.region ?_)))))))))))))
  refine TO.assign rfl dc rfl (TO.nil (TX.next (cut (TC.seq (TC.region (TO.move rfl dc rfl (TO.lenVec (k := 5) rfl dc rfl rfl Try.underlying39 (TO.move rfl dc rfl (TO.nil (TX.next (TC.block (TC.newVec (enc := encS) (e := 9) (size := 1) ?_))))))))))))
  show TC _ _ _ _ _ _ _ _ _ [cells b1 [.int .i64 l1.Width, .int .i64 l1.Height, .int .i64 l1.Turn, .int .i64 l1.Every] 23, cells b2 [.string r1.s, hd2.v, hd3.v, hd4.v, .int .i64 r1.first, .int .i64 r1.rest] 57, vec enc_Gapi_Cell 52 3 hd2.v r1.cells, vec (encI (.i64)) 3 1 hd3.v r1.wide, vec (encI (.i64)) 3 1 hd4.v r1.ends, vec (encI (.i64)) 3 1 hd5.v r2.1, vec encS 9 1 (.slice none 0 0) ([] : List ByteArray)]
  refine TC.loopD (β := Nat × (List ByteArray) × Int × Int × Hd) (fun b => loopG (fun _ _ _ => none) (page_turn_s1 j1 r1 r2) b.1 b.2.1 b.2.2.1 b.2.2.2.1 = some r) (fun b => []) (fun b => [(8, .pointer (some ⟨b2, 0, none⟩)), (10, .int .i64 r2.2), (11, b.2.2.2.2.v), (12, .int .i64 b.2.2.1), (24, hd5.v), (25, .int .i64 (r2.1.length : Int)), (26, .int .i64 b.2.2.2.1)]) (fun b => [cells b2 [.string r1.s, hd2.v, hd3.v, hd4.v, .int .i64 r1.first, .int .i64 r1.rest] 57, vec enc_Gapi_Cell 52 3 hd2.v r1.cells, vec (encI (.i64)) 3 1 hd3.v r1.wide, vec (encI (.i64)) 3 1 hd4.v r1.ends, vec encS 9 1 b.2.2.2.2.v b.2.1, vec (encI (.i64)) 3 1 hd5.v r2.1]) (fun b => b.1) (fuel, ([] : List ByteArray), 0, 0, Hd.nil) h rfl (Sbs.cons rfl (Sbs.cons rfl (Sbs.cons rfl (Sbs.cons rfl (Sbs.cons rfl (Sbs.cons rfl (Sbs.cons rfl (Sbs.nil)))))))) (Splits.of [1, 2, 3, 4, 6, 5] kr rfl) ?_
  rintro ⟨n1, out4, from3, x3, hd8⟩ h
  cases n1 with
  | zero => exact noneE h
  | succ n1 =>
   obtain ⟨ag1, hag1⟩ : ∃ ag, ag = loopG (fun _ _ _ => none) (page_turn_s1 j1 r1 r2) n1 := ⟨_, rfl⟩
   have h : page_turn_s1 j1 r1 r2 ag1 out4 from3 x3 = some r := by rw [hag1]; exact h
   unfold page_turn_s1 at h
   show TC _ _ _ _ _ ([]) _ _ [(8, .pointer (some ⟨b2, 0, none⟩)), (10, .int .i64 r2.2), (11, hd8.v), (12, .int .i64 from3), (24, hd5.v), (25, .int .i64 (r2.1.length : Int)), (26, .int .i64 x3)] [cells b2 [.string r1.s, hd2.v, hd3.v, hd4.v, .int .i64 r1.first, .int .i64 r1.rest] 57, vec enc_Gapi_Cell 52 3 hd2.v r1.cells, vec (encI (.i64)) 3 1 hd3.v r1.wide, vec (encI (.i64)) 3 1 hd4.v r1.ends, vec encS 9 1 hd8.v out4, vec (encI (.i64)) 3 1 hd5.v r2.1]
   refine TC.seq (TC.region (TO.bin rfl dc rfl rfl bin_lss (TO.nil (TX.next (TC.seq ?_)))))
   refine TC.condB rfl (fun hb1 => ?_) (fun hb1 => ?_)
   ·
    have h := condT hb1 h
    refine TC.skip (TX.next (TC.seq (TC.block (TC.seq (TC.region ?_)))))
    obtain ⟨q1, hq3, h⟩ := andE h
    refine TO.indexVecI (k := 5) hq3 Try.underlying39 sz_3 rfl dc rfl rfl rfl rfl (TO.loadVec (i := (x3 : Int).toNat) (j := 0) (k := 5) (q := q1) sc_3 encI_len rfl dc rfl rfl (getO_get hq3) rfl dc rfl (TO.assign rfl dc rfl (TO.nil (TX.next (TC.seq (TC.region (TO.move rfl dc rfl (TO.move rfl dc rfl (TO.move rfl dc rfl (TO.move rfl dc rfl ?_))))))))))
    obtain ⟨r3, hq4, h⟩ := andE h
    refine TO.callPR (v := .string r3) (vs := [.pointer (some ⟨b2, 0, none⟩), .int .i64 from3, .int .i64 q1]) (Rd.nil : Rd _ _ []) rfl dc rfl rfl rfl en_25 (page_turner_text_fn (bt1 := b2) (t1 := r1) (t1_h0 := hd2) (t1_h1 := hd3) (t1_h2 := hd4) hq4) (.own (Splits.of [0] (by kernel_rfl) rfl) (fun _ _ h => sepL.one1.1 h) (.own (Splits.of [1] (by kernel_rfl) rfl) (fun _ _ h => sepL.one1.1 h) (.own (Splits.of [2] (by kernel_rfl) rfl) (fun _ _ h => sepL.one1.1 h) (.own (Splits.of [3] (by kernel_rfl) rfl) (fun _ _ h => sepL.one1.1 h) .nil)))) ?_
    refine TO.buildSlice (cs := [.string r3]) (te := 9) (ps := [(0, .tmp 34)]) rfl dc rfl (fun _ => by kernel_rfl) (fun b3 => ?_)
    obtain ⟨hg1, h⟩ := grdE h
    refine TO.appendVec (k := 4) (k2 := 6) (ys := [r3]) Try.underlying25 el_9 encS_len encS_one rfl dc rfl rfl rfl rfl rfl rfl hg1 (fun v2 => ?_)
    refine TO.nameHd (k := 4) rfl (fun hd9 he2 => ?_)
    subst he2
    show TO _ _ _ _ _ _ _ _ _ _ [cells b2 [.string r1.s, hd2.v, hd3.v, hd4.v, .int .i64 r1.first, .int .i64 r1.rest] 57, vec enc_Gapi_Cell 52 3 hd2.v r1.cells, vec (encI (.i64)) 3 1 hd3.v r1.wide, vec (encI (.i64)) 3 1 hd4.v r1.ends, vec encS 9 1 hd9.v (out4 ++ [r3]), vec (encI (.i64)) 3 1 hd5.v r2.1, cells b3 [.string r3] 9]
    refine TO.assign rfl dc rfl (TO.nil (TX.next (TC.region (TO.move rfl dc rfl (TO.assign rfl dc rfl (TO.nil (TX.blockNormal (TX.next (TC.region ?_)))))))))
    obtain ⟨hg2, h⟩ := grdE h
    refine TO.bin rfl dc rfl rfl (bin_add (r := x3 + 1) (IntWalk.i64_in _ hg2)) (TO.move rfl dc rfl (TO.nil ?_))
    subst hag1
    exact TX.againD (n1, out4 ++ [r3], q1, x3 + 1, hd9) h (Nat.lt_succ_self _) rfl (Sbs.cons rfl (Sbs.cons rfl (Sbs.cons rfl (Sbs.cons rfl (Sbs.cons rfl (Sbs.cons rfl (Sbs.cons rfl (Sbs.nil)))))))) (Splits.of [0, 1, 2, 3, 4, 5] kr rfl)
   ·
    have h := condF hb1 h
    refine TC.exit (TX.thenExit (TX.thenExit (TX.blockHere ?_)))
    exact TX.meetD (r2.2, out4, hd8) h rfl (Sbs.cons rfl (Sbs.cons rfl (Sbs.nil))) (Splits.of [4] kr rfl)
 ·
  rintro ⟨cost1, out1, hd1⟩ h
  rw [hj1] at h
  show TC _ _ _ _ _ ([]) _ _ [(10, .int .i64 cost1), (11, hd1.v)] [vec encS 9 1 hd1.v out1]
  refine TC.seq (TC.region (TO.move rfl dc rfl (TO.move rfl dc rfl (TO.assign rfl dc rfl (TO.assign rfl dc rfl (TO.nil (TX.next (TC.ret ?_))))))))
  cases h
  exact TX.fin (rs := [.tmp 6, .tmp 7]) hd1.v (.inl rfl) Try.results14 (.cons (.tmp rfl) (.cons (.tmp rfl) .nil)) rfl (Splits.of [0] kr rfl)
def page_Turn_v (text1 : ByteArray) (indent1 : Int) (l1 : Gapi_Layout) : Option ((List ByteArray) × Int × Int) := andThen (page_may_v l1) fun (r1 : Bool) => bcond (!r1) ( some (([] : List ByteArray), 0, 2)
) ( bcond (decide ((indent1 : Int) < 0)) ( some (([] : List ByteArray), 0, 2)
) ( bcond (decide ((1024 : Int) < indent1)) ( some (([] : List ByteArray), 0, 2)
) ( bcond (decide ((1024 : Int) < (text1.size : Int))) ( some (([] : List ByteArray), 0, 2)
) ( andThen (page_turn_v text1 indent1 l1) fun (r2 : ((List ByteArray) × Int)) => some (r2.1, r2.2, 0)
)
)
)
)
set_option maxRecDepth 100000 in
set_option maxHeartbeats 4000000 in
theorem page_Turn_fn {text1 : ByteArray} {indent1 : Int} {l1 : Gapi_Layout} {r : ((List ByteArray) × Int × Int)} (h : page_Turn_v text1 indent1 l1 = some r) : Fn Try.prog 7 [.string text1, .int .i64 indent1, .agg #[.int .i64 l1.Width, .int .i64 l1.Height, .int .i64 l1.Turn, .int .i64 l1.Every]] [] (fun v0 : Value => .tuple #[v0, .int .i64 r.2.1, .int .i64 r.2.2]) (fun v0 => [vec encS 9 1 v0 r.1]) := by
 unfold page_Turn_v at h
 refine Fn.intro Try.func7 rfl Try.ntmps7 (by simp) ?_
 intro w0 K
 refine TC.seq (TC.region ?_)
 refine TO.box rfl dc rfl (fun b1 => ?_)
 refine TO.assign rfl dc rfl (TO.assign rfl dc rfl (TO.assign rfl dc rfl (TO.nil (TX.next (TC.seq (TC.seq (TC.region (TO.loads (k := 0) (cs := [.int .i64 l1.Width, .int .i64 l1.Height, .int .i64 l1.Turn, .int .i64 l1.Every]) rw_23 rfl dc rfl rfl rfl rfl ?_))))))))
 obtain ⟨r1, hq1, h⟩ := andE h
 refine TO.callP (v := .bool r1) (vs := [.agg #[.int .i64 l1.Width, .int .i64 l1.Height, .int .i64 l1.Turn, .int .i64 l1.Every]]) rfl dc rfl rfl rfl en_13 (page_may_fn (l1 := l1) hq1) (TO.un rfl dc rfl un_not (TO.move rfl dc rfl ?_))
 refine TO.split (s := 14) rfl (fun hb1 => ?_) (fun hb1 => ?_)
 ·
  have h := condT hb1 h
  refine TO.skip rfl dc (TO.skip rfl dc (TO.pick (b := true) rfl dc rfl rfl (TO.move rfl dc rfl (TO.skip rfl dc (TO.skip rfl dc (TO.pick (b := true) rfl dc rfl rfl (TO.move rfl dc rfl (TO.skip rfl dc (TO.skip rfl dc (TO.skip rfl dc (TO.pick (b := true) rfl dc rfl rfl (TO.nil (TX.next ?_)))))))))))))
  refine TC.condT rfl (TC.seq (TC.region (TO.assign rfl dc rfl (TO.assign rfl dc rfl (TO.assign rfl dc rfl (TO.nil (TX.next (TC.ret (TX.thenRet (TX.newVec (enc := encS) (e := 9) (size := 1) ?_))))))))))
  show TX _ _ _ _ _ _ _ [cells b1 [.int .i64 l1.Width, .int .i64 l1.Height, .int .i64 l1.Turn, .int .i64 l1.Every] 23, vec encS 9 1 (.slice none 0 0) ([] : List ByteArray)]
  cases h
  exact TX.fin (rs := [.tmp 6, .tmp 7, .tmp 8]) (.slice none 0 0) (.inl rfl) Try.results7 (.cons (.tmp rfl) (.cons (.tmp rfl) (.cons (.tmp rfl) .nil))) rfl (Splits.of [1] kr rfl)
 ·
  have h := condF hb1 h
  refine TO.move rfl dc rfl (TO.bin rfl dc rfl rfl bin_lss (TO.pick (b := false) rfl dc rfl rfl (TO.move rfl dc rfl ?_)))
  refine TO.split (s := 18) rfl (fun hb2 => ?_) (fun hb2 => ?_)
  ·
   have h := condT hb2 h
   refine TO.skip rfl dc (TO.skip rfl dc (TO.pick (b := true) rfl dc rfl rfl (TO.move rfl dc rfl (TO.skip rfl dc (TO.skip rfl dc (TO.skip rfl dc (TO.pick (b := true) rfl dc rfl rfl (TO.nil (TX.next (TC.condT rfl (TC.seq (TC.region (TO.assign rfl dc rfl ?_)))))))))))))
   refine TO.assign rfl dc rfl (TO.assign rfl dc rfl (TO.nil (TX.next (TC.ret (TX.thenRet (TX.newVec (enc := encS) (e := 9) (size := 1) ?_))))))
   show TX _ _ _ _ _ _ _ [cells b1 [.int .i64 l1.Width, .int .i64 l1.Height, .int .i64 l1.Turn, .int .i64 l1.Every] 23, vec encS 9 1 (.slice none 0 0) ([] : List ByteArray)]
   cases h
   exact TX.fin (rs := [.tmp 6, .tmp 7, .tmp 8]) (.slice none 0 0) (.inl rfl) Try.results7 (.cons (.tmp rfl) (.cons (.tmp rfl) (.cons (.tmp rfl) .nil))) rfl (Splits.of [1] kr rfl)
  ·
   have h := condF hb2 h
   refine TO.move rfl dc rfl (TO.bin rfl dc rfl rfl bin_gtr (TO.pick (b := false) rfl dc rfl rfl (TO.move rfl dc rfl ?_)))
   refine TO.split (s := 22) rfl (fun hb3 => ?_) (fun hb3 => ?_)
   ·
    have h := condT hb3 h
    refine TO.skip rfl dc (TO.skip rfl dc (TO.skip rfl dc (TO.pick (b := true) rfl dc rfl rfl (TO.nil (TX.next (TC.condT rfl (TC.seq (TC.region (TO.assign rfl dc rfl (TO.assign rfl dc rfl (TO.assign rfl dc rfl (TO.nil (TX.next ?_)))))))))))))
    refine TC.ret (TX.thenRet (TX.newVec (enc := encS) (e := 9) (size := 1) ?_))
    show TX _ _ _ _ _ _ _ [cells b1 [.int .i64 l1.Width, .int .i64 l1.Height, .int .i64 l1.Turn, .int .i64 l1.Every] 23, vec encS 9 1 (.slice none 0 0) ([] : List ByteArray)]
    cases h
    exact TX.fin (rs := [.tmp 6, .tmp 7, .tmp 8]) (.slice none 0 0) (.inl rfl) Try.results7 (.cons (.tmp rfl) (.cons (.tmp rfl) (.cons (.tmp rfl) .nil))) rfl (Splits.of [1] kr rfl)
   ·
    have h := condF hb3 h
    refine TO.move rfl dc rfl (TO.lenStr rfl dc rfl Try.underlying9 (TO.bin rfl dc rfl rfl bin_gtr (TO.pick (b := false) rfl dc rfl rfl (TO.nil (TX.next ?_)))))
    refine TC.condB rfl (fun hb4 => ?_) (fun hb4 => ?_)
    ·
     have h := condT hb4 h
     refine TC.seq (TC.region (TO.assign rfl dc rfl (TO.assign rfl dc rfl (TO.assign rfl dc rfl (TO.nil (TX.next (TC.ret (TX.thenRet (TX.newVec (enc := encS) (e := 9) (size := 1) ?_)))))))))
     show TX _ _ _ _ _ _ _ [cells b1 [.int .i64 l1.Width, .int .i64 l1.Height, .int .i64 l1.Turn, .int .i64 l1.Every] 23, vec encS 9 1 (.slice none 0 0) ([] : List ByteArray)]
     cases h
     exact TX.fin (rs := [.tmp 6, .tmp 7, .tmp 8]) (.slice none 0 0) (.inl rfl) Try.results7 (.cons (.tmp rfl) (.cons (.tmp rfl) (.cons (.tmp rfl) .nil))) rfl (Splits.of [1] kr rfl)
    ·
     have h := condF hb4 h
     refine TC.skip (TX.next (TC.seq (TC.region (TO.move rfl dc rfl (TO.move rfl dc rfl (TO.loads (k := 0) (cs := [.int .i64 l1.Width, .int .i64 l1.Height, .int .i64 l1.Turn, .int .i64 l1.Every]) rw_23 rfl dc rfl rfl rfl rfl ?_))))))
     obtain ⟨r2, hq2, h⟩ := andE h
     refine TO.call (vs := [.string text1, .int .i64 indent1, .agg #[.int .i64 l1.Width, .int .i64 l1.Height, .int .i64 l1.Turn, .int .i64 l1.Every]]) rfl dc rfl rfl rfl en_14 (page_turn_fn (l1 := l1) hq2) Splits.nil ?_
     rintro v1
     show TO _ _ _ _ _ _ _ _ _ _ [cells b1 [.int .i64 l1.Width, .int .i64 l1.Height, .int .i64 l1.Turn, .int .i64 l1.Every] 23, vec encS 9 1 v1 r2.1]
     refine TO.move rfl dc rfl (TO.extract rfl dc rfl rfl (TO.extract rfl dc rfl rfl (TO.assign rfl dc rfl (TO.assign rfl dc rfl (TO.nil (TX.next (TC.seq (TC.region (TO.move rfl dc rfl (TO.move rfl dc rfl (TO.assign rfl dc rfl (TO.assign rfl dc rfl (TO.assign rfl dc rfl ?_)))))))))))))
     refine TO.nil (TX.next (TC.ret ?_))
     cases h
     exact TX.fin (rs := [.tmp 6, .tmp 7, .tmp 8]) v1 (.inl rfl) Try.results7 (.cons (.tmp rfl) (.cons (.tmp rfl) (.cons (.tmp rfl) .nil))) rfl (Splits.of [1] kr rfl)
end Go.Proofs.Ytnhdnpdbmgeheaa
namespace Go.Proofs.Ytnhdnpdbmgeheaa
open Go.RowKit Go.Lib
set_option linter.unusedVariables false
set_option linter.unusedSimpArgs false
abbrev Cell := Gapi_Cell
def spB (s : ByteArray) (c : Cell) : Bool := if c.Span_To = c.Span_From + 1 then getB s c.Span_From == some 32 else false
def colsum (l : List Cell) : Int := (l.map (·.Columns)).sum
theorem colsum_app (a b : List Cell) : colsum (a ++ b) = colsum a + colsum b := by unfold colsum; rw [List.map_append, List.sum_append]
theorem colsum_one (c : Cell) : colsum [c] = c.Columns := by simp [colsum]
/-- How many cells stand ahead of the spaces at the end. -/
def eN (sp : Cell → Bool) (l : List Cell) : Nat := (l.reverse.dropWhile sp).length
theorem eN_nil (sp : Cell → Bool) : eN sp [] = 0 := rfl
theorem eN_snoc (sp : Cell → Bool) (l : List Cell) (x : Cell) : eN sp (l ++ [x]) = if sp x then eN sp l else l.length + 1 := by
  unfold eN
  rw [List.reverse_append, List.reverse_singleton, List.singleton_append, List.dropWhile_cons]
  split
  · rfl
  · simp
theorem eN_le (sp : Cell → Bool) (l : List Cell) : eN sp l ≤ l.length := by
  unfold eN
  have := (List.dropWhile_suffix sp (l := l.reverse)).length_le
  rwa [List.length_reverse] at this
theorem take_snocP {α : Type} {l : List α} {k : Nat} {x : α} (h : l[k]? = some x) : l.take (k + 1) = l.take k ++ [x] := by
  rw [List.take_add_one, h]; rfl
theorem eN_mono (sp : Cell → Bool) (C : List Cell) : ∀ (d k : Nat), eN sp (C.take k) ≤ eN sp (C.take (k + d))
  | 0, k => Nat.le_refl _
  | d + 1, k => by
    refine Nat.le_trans (eN_mono sp C d k) ?_
    by_cases h : k + d < C.length
    · rw [show k + (d + 1) = k + d + 1 by omega, take_snocP (List.getElem?_eq_getElem h), eN_snoc]
      split
      · exact Nat.le_refl _
      · have := eN_le sp (C.take (k + d)); omega
    · rw [List.take_of_length_le (by omega), List.take_of_length_le (by omega)]; exact Nat.le_refl _
def wl (P : List Cell) : List Int := (List.range (P.length + 1)).map fun k => colsum (P.take k)
def el (sp : Cell → Bool) (P : List Cell) : List Int := (List.range (P.length + 1)).map fun k => ((eN sp (P.take k) : Nat) : Int)
theorem wl_get (P : List Cell) (k : Nat) (h : k ≤ P.length) : (wl P)[k]? = some (colsum (P.take k)) := by
  unfold wl; rw [List.getElem?_map, List.getElem?_range (by omega)]; rfl
theorem el_get (sp : Cell → Bool) (P : List Cell) (k : Nat) (h : k ≤ P.length) : (el sp P)[k]? = some ((eN sp (P.take k) : Nat) : Int) := by
  unfold el; rw [List.getElem?_map, List.getElem?_range (by omega)]; rfl
theorem wl_len (P : List Cell) : (wl P).length = P.length + 1 := by unfold wl; simp
theorem el_len (sp : Cell → Bool) (P : List Cell) : (el sp P).length = P.length + 1 := by unfold el; simp
theorem tab_snoc {β : Type} (f : List Cell → β) (P : List Cell) (x : Cell) : (List.range ((P ++ [x]).length + 1)).map (fun k => f ((P ++ [x]).take k)) = (List.range (P.length + 1)).map (fun k => f (P.take k)) ++ [f (P ++ [x])] := by
  rw [show (P ++ [x]).length + 1 = (P.length + 1) + 1 by simp, List.range_succ, List.map_append, List.map_singleton]
  congr 1
  · refine List.map_congr_left fun k hk => ?_
    rw [List.take_append_of_le_length (by have := List.mem_range.1 hk; omega)]
  · rw [List.take_of_length_le (by simp)]
theorem wl_snoc (P : List Cell) (x : Cell) : wl (P ++ [x]) = wl P ++ [colsum P + x.Columns] := by
  unfold wl; rw [tab_snoc colsum, colsum_app, colsum_one]
theorem el_snoc (sp : Cell → Bool) (P : List Cell) (x : Cell) : el sp (P ++ [x]) = el sp P ++ [(((if sp x then eN sp P else P.length + 1) : Nat) : Int)] := by
  unfold el; rw [tab_snoc (fun l => ((eN sp l : Nat) : Int)), eN_snoc]
theorem Cov.mem : ∀ {cs : List Cell} {a b : Int}, Cov a cs b → ∀ c ∈ cs, a ≤ c.Span_From ∧ c.Span_From < c.Span_To ∧ c.Span_To ≤ b ∧ 0 ≤ c.Columns ∧ c.Columns ≤ 2
  | [], a, b, _, c, hc => by cases hc
  | d :: cs, a, b, h, c, hc => by
    obtain ⟨h1, h2, h3, h4⟩ := h
    have hle : ∀ (cs : List Cell) (a b : Int), Cov a cs b → a ≤ b := by
      intro cs
      induction cs with
      | nil => intro a b h; have : a = b := h; omega
      | cons e es ih => intro a b h; have := ih _ _ h.2.2.2; have := h.2.1; omega
    have := hle _ _ _ h4
    rcases List.mem_cons.1 hc with rfl | hc
    · exact ⟨by omega, by omega, this, h3.1, h3.2⟩
    · have := Cov.mem h4 c hc; omega
theorem colsum_rng : ∀ {l : List Cell}, (∀ c ∈ l, 0 ≤ c.Columns ∧ c.Columns ≤ 2) → 0 ≤ colsum l ∧ colsum l ≤ 2 * l.length
  | [], _ => ⟨Int.le_refl _, by simp [colsum]⟩
  | c :: l, h => by
    have h1 := h c (List.mem_cons_self ..)
    have h2 := colsum_rng (l := l) fun d hd => h d (List.mem_cons_of_mem _ hd)
    have e : colsum (c :: l) = c.Columns + colsum l := by simp [colsum]
    rw [e, List.length_cons]; omega
theorem space_v (t : Gpage_turner) (k : Nat) (c : Cell) (hc : t.cells[k]? = some c) (h0 : 0 ≤ c.Span_From) (h1 : c.Span_From < t.s.size) (hs : t.s.size ≤ 100000) : page_turner_space_v t (k : Int) = some (spB t.s c) := by
  unfold page_turner_space_v spB
  refine thenI (lp_get hc) (grdI ⟨by omega, by omega⟩ ?_)
  by_cases h : c.Span_To = c.Span_From + 1
  · rw [if_pos h]
    obtain ⟨m, hm⟩ : ∃ m : Nat, c.Span_From = m := ⟨c.Span_From.toNat, by omega⟩
    have hg := getB_of hm (show m < t.s.size by omega)
    refine condTI (beqI h) (thenI hg ?_)
    rw [hg]
    show some _ = some _
    congr 1
  · rw [if_neg h]; exact condFI (beqF h) rfl
/-- A text's turner. -/
def turnT (s : ByteArray) (first rest : Int) : Gpage_turner := ⟨s, cellsS s, wl (cellsS s), el (spB s) (cellsS s), first, rest⟩
theorem newT_go (s : ByteArray) (hs : s.size ≤ 100000) (ind : Int) (l : Gapi_Layout) (C : List Cell) (hC : ∀ c ∈ C, 0 ≤ c.Span_From ∧ c.Span_From < (s.size : Int) ∧ 0 ≤ c.Columns ∧ c.Columns ≤ 2) (hl : C.length ≤ 100000) (d : List Cell → List Int → List Int → Option Gpage_turner) :
    ∀ (xs P : List Cell), C = P ++ xs → rangeG d (page_newTurner_s1 s ind l) xs P (wl P) (el (spB s) P) = d C (wl C) (el (spB s) C)
  | [], P, h => by rw [List.append_nil] at h; subst h; rfl
  | x :: xs, P, h => by
    have ih := newT_go s hs ind l C hC hl d xs (P ++ [x]) (by rw [h]; simp)
    obtain ⟨c1, c2, c3, c4⟩ := hC x (by rw [h]; simp)
    have hPl : P.length + 1 + xs.length = C.length := by rw [h]; simp; omega
    have hPs := colsum_rng (l := P) fun c hc => by have := hC c (by rw [h]; simp [hc]); omega
    rw [rangeG_cons]
    generalize rangeG d (page_newTurner_s1 s ind l) xs = ag at ih ⊢
    unfold page_newTurner_s1
    have e1 : ((P ++ [x]).length : Int) - 1 = (P.length : Int) := by simp
    have hg1 : getO (wl P) (P.length : Int) = some (colsum P) := by
      have := lp_get (wl_get P P.length (Nat.le_refl _)); rwa [List.take_length] at this
    have hg2 : getO (el (spB s) P) (P.length : Int) = some ((eN (spB s) P : Nat) : Int) := by
      have := lp_get (el_get (spB s) P P.length (Nat.le_refl _)); rwa [List.take_length] at this
    have hwl := wl_len P
    have hel := el_len (spB s) P
    refine joinI (grdI (by omega) ?_)
    rw [e1]
    refine grdI ⟨by omega, by omega⟩ (thenI hg1 (grdI ⟨by omega, by omega⟩ (grdI (by omega) (grdI ⟨by omega, by omega⟩ ?_))))
    refine thenI (space_v ⟨s, P ++ [x], wl P ++ [colsum P + x.Columns], el (spB s) P, max 1 (l.Width - ind), l.Width - l.Turn⟩ P.length x (by simp) c1 c2 hs) ?_
    rw [← ih, wl_snoc, el_snoc]
    show bcond (spB s x) _ _ = _
    cases hsp : spB s x with
    | true => exact condTI rfl (thenI hg2 (grdI (by omega) rfl))
    | false => exact condFI rfl (grdI (by omega) rfl)
theorem newTurner_v (s : ByteArray) (hs : s.size ≤ 100000) (ind : Int) (l : Gapi_Layout) (h1 : I64 (l.Width - ind)) (h2 : I64 (l.Width - l.Turn)) : page_newTurner_v s ind l = some (turnT s (max 1 (l.Width - ind)) (l.Width - l.Turn)) := by
  unfold page_newTurner_v
  refine joinI (grdI h1 (grdI h2 (thenI rfl (thenI (each_v s (by omega)) (joinI ?_)))))
  have hl := cellsS_len s
  have hm := (cellsS_cov s).mem
  have := newT_go s hs ind l (cellsS s) (fun c hc => by have := hm c hc; omega) (by omega) (fun t10 t11 t12 => some (⟨s, t10, t11, t12, max 1 (l.Width - ind), l.Width - l.Turn⟩ : Gpage_turner)) (cellsS s) [] rfl
  exact this
/-! ### Rows -/
def colN (sp : Cell → Bool) (C : List Cell) (f t : Nat) : Int := colsum (C.take (max f (eN sp (C.take t)))) - colsum (C.take f)
def roomN (a b : Int) (f : Nat) : Int := if f = 0 then a else b
def spAt (sp : Cell → Bool) (C : List Cell) (k : Nat) : Bool := match C[k]? with | some c => sp c | none => false
def rowN (sp : Cell → Bool) (C : List Cell) (a b : Int) (f t : Nat) : Bool := !(decide (0 < f) && spAt sp C f) && (decide (colN sp C f t ≤ roomN a b f) || decide (eN sp (C.take t) ≤ f + 1))
def costN (sp : Cell → Bool) (C : List Cell) (a b : Int) (f t : Nat) : Int := (if 0 < roomN a b f - colN sp C f t then (roomN a b f - colN sp C f t) * (roomN a b f - colN sp C f t) else 0) + (if spAt sp C (t - 1) then 0 else 1000)
theorem roomT_v {s : ByteArray} {a b : Int} (f : Nat) : page_turner_room_v (turnT s a b) (f : Int) = some (roomN a b f) := by
  unfold page_turner_room_v roomN
  by_cases h : f = 0
  · rw [if_pos h]; exact condTI (beqI (by omega)) rfl
  · rw [if_neg h]; exact condFI (beqF (by omega)) rfl
theorem room_rng {a b : Int} (ha : 0 ≤ a ∧ a ≤ 1000000) (hb : 0 ≤ b ∧ b ≤ 1000000) (f : Nat) : 0 ≤ roomN a b f ∧ roomN a b f ≤ 1000000 := by unfold roomN; split <;> omega
section
variable {s : ByteArray} {a b : Int} (hs : s.size ≤ 100000) (ha : 0 ≤ a ∧ a ≤ 1000000) (hb : 0 ≤ b ∧ b ≤ 1000000)
include hs
theorem cs_le : (cellsS s).length ≤ 100000 := Nat.le_trans (cellsS_len s) hs
theorem cs_sum (k : Nat) : 0 ≤ colsum ((cellsS s).take k) ∧ colsum ((cellsS s).take k) ≤ 200000 := by
  have hm := (cellsS_cov s).mem
  have hl := cs_le hs
  have := colsum_rng (l := (cellsS s).take k) fun c hc => by have := hm c (List.mem_of_mem_take hc); omega
  have hk : ((cellsS s).take k).length ≤ (cellsS s).length := by rw [List.length_take]; omega
  omega
theorem columnsT_v (f t : Nat) (hf : f ≤ t) (ht : t ≤ (cellsS s).length) : page_turner_columns_v (turnT s a b) (f : Int) (t : Int) = some (colN (spB s) (cellsS s) f t) := by
  unfold page_turner_columns_v
  have he := eN_le (spB s) ((cellsS s).take t)
  rw [List.length_take] at he
  have h1 := cs_sum hs (max f (eN (spB s) ((cellsS s).take t)))
  have h2 := cs_sum hs f
  refine thenI (lp_get (el_get (spB s) (cellsS s) t ht)) (thenI (getO_of (n := max f (eN (spB s) ((cellsS s).take t))) (by omega) (wl_get _ _ (by omega))) (thenI (lp_get (wl_get _ f (by omega))) (grdI ⟨by omega, by omega⟩ rfl)))
theorem spaceT_v (k : Nat) (hk : k < (cellsS s).length) : page_turner_space_v (turnT s a b) (k : Int) = some (spAt (spB s) (cellsS s) k) := by
  have hx : (cellsS s)[k]? = some (cellsS s)[k] := List.getElem?_eq_getElem hk
  have := (cellsS_cov s).mem _ (List.mem_of_getElem? hx)
  unfold spAt
  rw [hx]
  exact space_v (turnT s a b) k _ hx (by omega) (by show _ < (s.size : Int); omega) hs
theorem rowT_v (f t : Nat) (hf : f < t) (ht : t ≤ (cellsS s).length) : page_turner_row_v (turnT s a b) (f : Int) (t : Int) = some (rowN (spB s) (cellsS s) a b f t) := by
  unfold page_turner_row_v rowN
  have hle := cs_le hs
  have tail : (andThen (page_turner_columns_v (turnT s a b) (f : Int) (t : Int)) fun (r2 : Int) => andThen (page_turner_room_v (turnT s a b) (f : Int)) fun (r3 : Int) => bcond (decide ((r2 : Int) ≤ r3)) (some true) (andThen (getO (turnT s a b).ends (t : Int)) fun (q1 : Int) => grd (I64 ((f : Int) + 1)) <| some (decide ((q1 : Int) ≤ ((f : Int) + 1))))) =
      some (decide (colN (spB s) (cellsS s) f t ≤ roomN a b f) || decide (eN (spB s) ((cellsS s).take t) ≤ f + 1)) := by
    refine thenI (columnsT_v hs f t (by omega) ht) (thenI (roomT_v f) ?_)
    by_cases h : colN (spB s) (cellsS s) f t ≤ roomN a b f
    · rw [decide_eq_true h]; exact condTI rfl rfl
    · rw [decide_eq_false h]
      refine condFI rfl (thenI (lp_get (el_get (spB s) (cellsS s) t ht)) (grdI ⟨by omega, by omega⟩ ?_))
      rw [Bool.false_or]
      congr 1
      by_cases h2 : eN (spB s) ((cellsS s).take t) ≤ f + 1
      · rw [decide_eq_true h2, decide_eq_true (by omega)]
      · rw [decide_eq_false h2, decide_eq_false (by omega)]
  refine joinI ?_
  by_cases h0 : 0 < f
  · rw [decide_eq_true h0]
    refine condTI (decide_eq_true (by omega)) (thenI (spaceT_v hs f (by omega)) ?_)
    cases spAt (spB s) (cellsS s) f with
    | true => exact condTI rfl rfl
    | false => exact condFI rfl tail
  · rw [decide_eq_false h0]
    exact condFI (decide_eq_false (by omega)) tail
theorem colN_rng (f t : Nat) : -200000 ≤ colN (spB s) (cellsS s) f t ∧ colN (spB s) (cellsS s) f t ≤ 200000 := by
  have h1 := cs_sum hs (max f (eN (spB s) ((cellsS s).take t)))
  have h2 := cs_sum hs f
  unfold colN; omega
include ha hb
theorem costN_rng (f t : Nat) : 0 ≤ costN (spB s) (cellsS s) a b f t ∧ costN (spB s) (cellsS s) a b f t ≤ 2000000000000 := by
  have h1 := room_rng ha hb f
  have h2 := colN_rng hs f t
  have hz : roomN a b f - colN (spB s) (cellsS s) f t ≤ 1200000 := by omega
  have hq : (if spAt (spB s) (cellsS s) (t - 1) then (0 : Int) else 1000) ≤ 1000 ∧ 0 ≤ (if spAt (spB s) (cellsS s) (t - 1) then (0 : Int) else 1000) := by split <;> omega
  unfold costN
  generalize roomN a b f - colN (spB s) (cellsS s) f t = z at *
  by_cases h : 0 < z
  · rw [if_pos h]
    have g1 : 0 ≤ z * z := Int.mul_nonneg (by omega) (by omega)
    have g2 : z * z ≤ 1200000 * 1200000 := Int.mul_le_mul hz hz (by omega) (by omega)
    omega
  · rw [if_neg h]; omega
theorem costT_v (f t : Nat) (hf : f < t) (ht : t ≤ (cellsS s).length) : page_turner_cost_v (turnT s a b) (f : Int) (t : Int) = some (costN (spB s) (cellsS s) a b f t) := by
  have h1 := room_rng ha hb f
  have h2 := colN_rng hs f t
  have h3 := costN_rng hs ha hb f t
  have hle := cs_le hs
  unfold page_turner_cost_v
  refine joinI (thenI (roomT_v f) (thenI (columnsT_v hs f t (by omega) ht) (grdI ⟨by omega, by omega⟩ ?_)))
  have tail : ∀ n : Int, 0 ≤ n → n ≤ 2000000000000 → joinK (fun (j2 : Int → Option Int) => grd (I64 ((t : Int) - 1)) <| andThen (page_turner_space_v (turnT s a b) ((t : Int) - 1)) fun (r3 : Bool) => bcond (!r3) (grd (I64 (n + 1000)) <| j2 (n + 1000)) (j2 n)) (fun (n2 : Int) => some n2) = some (n + (if spAt (spB s) (cellsS s) (t - 1) then 0 else 1000)) := by
    intro n hn1 hn2
    have hsp := spaceT_v (a := a) (b := b) hs (t - 1) (by omega)
    rw [show (((t - 1 : Nat)) : Int) = (t : Int) - 1 by omega] at hsp
    refine joinI (grdI ⟨by omega, by omega⟩ (thenI hsp ?_))
    cases spAt (spB s) (cellsS s) (t - 1) with
    | true => exact condFI rfl (congrArg some (Int.add_zero n).symm)
    | false => exact condTI rfl (grdI ⟨by omega, by omega⟩ rfl)
  unfold costN at h3 ⊢
  have hq : (if spAt (spB s) (cellsS s) (t - 1) then (0 : Int) else 1000) ≤ 1000 ∧ 0 ≤ (if spAt (spB s) (cellsS s) (t - 1) then (0 : Int) else 1000) := by split <;> omega
  by_cases h : 0 < roomN a b f - colN (spB s) (cellsS s) f t
  · rw [if_pos h] at h3 ⊢
    have hm : 0 ≤ (roomN a b f - colN (spB s) (cellsS s) f t) * (roomN a b f - colN (spB s) (cellsS s) f t) := Int.mul_nonneg (by omega) (by omega)
    refine condTI (decide_eq_true h) (grdI ⟨by omega, by omega⟩ (tail _ hm (by omega)))
  · rw [if_neg h]
    exact condFI (decide_eq_false h) (tail 0 (by omega) (by omega))
end
end Go.Proofs.Ytnhdnpdbmgeheaa
namespace Go.Proofs.Ytnhdnpdbmgeheaa
open Go.RowKit Go.Lib
set_option linter.unusedVariables false
set_option linter.unusedSimpArgs false
abbrev Bst := Gpage_best
def b0 : Bst := ⟨0, 0, 0⟩
def bm : Bst := ⟨0, -1, 0⟩
section
variable (R : Nat → Nat → Bool) (K : Nat → Nat → Int) (n : Nat)
def cndB (T : Nat → Bst) (f t : Nat) : Option Bst :=
  if R f t then (if t < n then (if (T t).rows < 0 then none else some ⟨K f t + (T t).cost, (T t).rows + 1, (t : Int)⟩) else some ⟨0, 1, (t : Int)⟩) else none
def updB (x : Bst) : Option Bst → Bst
  | none => x
  | some y => if x.rows < 0 ∨ y.cost < x.cost ∨ (y.cost = x.cost ∧ y.rows ≤ x.rows) then y else x
def foldB (T : Nat → Bst) (f : Nat) : Nat → Nat → Bst → Bst
  | 0, _, x => x
  | d + 1, t, x => foldB T f d (t + 1) (updB x (cndB R K n T f t))
def Bf : Nat → Nat → Bst
  | 0, _ => b0
  | k + 1, f => if f + (k + 1) = n then foldB R K n (Bf k) f (n - f) (f + 1) bm else Bf k f
end
section
variable {R : Nat → Nat → Bool} {K : Nat → Nat → Int} {n : Nat}
theorem foldB_none {T : Nat → Bst} {f : Nat} : ∀ (d t : Nat) (x : Bst), (∀ t', t ≤ t' → t' < t + d → cndB R K n T f t' = none) → foldB R K n T f d t x = x
  | 0, t, x, _ => rfl
  | d + 1, t, x, h => by
    unfold foldB
    rw [h t (Nat.le_refl _) (by omega)]
    exact foldB_none d (t + 1) x fun t' h1 h2 => h t' (by omega) (by omega)
theorem updB_some (x y : Bst) : updB x (some y) = if x.rows < 0 ∨ y.cost < x.cost ∨ (y.cost = x.cost ∧ y.rows ≤ x.rows) then y else x := rfl
theorem updB_or (x : Bst) (c : Option Bst) : updB x c = x ∨ c = some (updB x c) := by
  cases c with
  | none => exact .inl rfl
  | some y =>
    rw [updB_some]
    split
    · exact .inr rfl
    · exact .inl rfl
theorem foldB_mem {T : Nat → Bst} {f : Nat} : ∀ (d t : Nat) (x : Bst), foldB R K n T f d t x = x ∨ ∃ t', t ≤ t' ∧ t' < t + d ∧ cndB R K n T f t' = some (foldB R K n T f d t x)
  | 0, t, x => .inl rfl
  | d + 1, t, x => by
    unfold foldB
    rcases foldB_mem (T := T) (f := f) d (t + 1) (updB x (cndB R K n T f t)) with h | ⟨t', h1, h2, h3⟩
    · rw [h]
      rcases updB_or x (cndB R K n T f t) with h' | h'
      · exact .inl h'
      · exact .inr ⟨t, Nat.le_refl _, by omega, h'⟩
    · exact .inr ⟨t', by omega, by omega, h3⟩
def le1 (x y : Bst) : Prop := 0 ≤ x.rows ∧ x.cost ≤ y.cost
theorem updB_le {x y : Bst} (h : 0 ≤ x.rows) {c : Option Bst} (hc : ∀ y, c = some y → 0 ≤ y.rows) : le1 (updB x c) x := by
  cases c with
  | none => exact ⟨h, Int.le_refl _⟩
  | some y =>
    have hy := hc y rfl
    rw [updB_some]
    split
    · exact ⟨hy, by omega⟩
    · exact ⟨h, Int.le_refl _⟩
theorem updB_le2 {x y : Bst} (hy : 0 ≤ y.rows) : le1 (updB x (some y)) y := by
  rw [updB_some]
  split
  · exact ⟨hy, Int.le_refl _⟩
  · exact ⟨by omega, by omega⟩
theorem foldB_le {T : Nat → Bst} {f : Nat} (hT : ∀ t y, cndB R K n T f t = some y → 0 ≤ y.rows) : ∀ (d t : Nat) (x : Bst), (0 ≤ x.rows → le1 (foldB R K n T f d t x) x) ∧ ∀ t' y, t ≤ t' → t' < t + d → cndB R K n T f t' = some y → le1 (foldB R K n T f d t x) y
  | 0, t, x => ⟨fun h => ⟨h, Int.le_refl _⟩, fun t' y h1 h2 => by omega⟩
  | d + 1, t, x => by
    have ih := foldB_le hT d (t + 1) (updB x (cndB R K n T f t))
    unfold foldB
    refine ⟨fun h => ?_, fun t' y h1 h2 hc => ?_⟩
    · have h1 := updB_le (y := x) h (hT t)
      have h2 := ih.1 h1.1
      exact ⟨h2.1, Int.le_trans h2.2 h1.2⟩
    · by_cases e : t' = t
      · subst e
        have hy := hT t' y hc
        have h1 : le1 (updB x (cndB R K n T f t')) y := by rw [hc]; exact updB_le2 hy
        have h2 := ih.1 h1.1
        exact ⟨h2.1, Int.le_trans h2.2 h1.2⟩
      · exact ih.2 t' y (by omega) (by omega) hc
theorem Bf_succ (k f : Nat) : Bf R K n (k + 1) f = if f + (k + 1) = n then foldB R K n (Bf R K n k) f (n - f) (f + 1) bm else Bf R K n k f := rfl
theorem Bf_lt : ∀ (k f : Nat), f + k < n → Bf R K n k f = b0
  | 0, f, _ => rfl
  | k + 1, f, h => by rw [Bf_succ, if_neg (by omega)]; exact Bf_lt k f (by omega)
theorem Bf_more : ∀ (k j f : Nat), n ≤ f + k → Bf R K n (k + j) f = Bf R K n k f
  | k, 0, f, _ => rfl
  | k, j + 1, f, h => by
    rw [show k + (j + 1) = (k + j) + 1 by omega, Bf_succ, if_neg (by omega)]
    exact Bf_more k j f h
/-- The whole table. -/
def BB (R : Nat → Nat → Bool) (K : Nat → Nat → Int) (n : Nat) : Nat → Bst := Bf R K n n
theorem cndB_congr {T T' : Nat → Bst} {f t : Nat} (h : T t = T' t) : cndB R K n T f t = cndB R K n T' f t := by unfold cndB; rw [h]
theorem foldB_congr {T T' : Nat → Bst} {f : Nat} : ∀ (d t : Nat) (x : Bst), (∀ t', t ≤ t' → t' < t + d → T t' = T' t') → foldB R K n T f d t x = foldB R K n T' f d t x
  | 0, t, x, _ => rfl
  | d + 1, t, x, h => by
    unfold foldB
    rw [cndB_congr (h t (Nat.le_refl _) (by omega))]
    exact foldB_congr d (t + 1) _ fun t' h1 h2 => h t' (by omega) (by omega)
theorem BB_n : BB R K n n = b0 := by
  unfold BB
  cases n with
  | zero => rfl
  | succ m => rw [Bf_succ, if_neg (by omega)]; have := Bf_more (R := R) (K := K) (n := m + 1) 0 m (m + 1) (by omega); rw [Nat.zero_add] at this; exact this
theorem BB_eq {f : Nat} (h : f < n) : BB R K n f = foldB R K n (BB R K n) f (n - f) (f + 1) bm := by
  have h1 : Bf R K n n f = Bf R K n (n - f) f := by
    have := Bf_more (R := R) (K := K) (n := n) (n - f) f f (by omega)
    rwa [show n - f + f = n by omega] at this
  unfold BB
  rw [h1]
  obtain ⟨k, hk⟩ : ∃ k, n - f = k + 1 := ⟨n - f - 1, by omega⟩
  rw [hk]
  rw [Bf_succ, if_pos (by omega), hk]
  refine foldB_congr _ _ _ fun t' h1 h2 => ?_
  have := Bf_more (R := R) (K := K) (n := n) k (n - k) t' (by omega)
  rw [show k + (n - k) = n by omega] at this
  exact this.symm
/-- What the table's numbers may be. -/
def okB (k : Nat) (x : Bst) : Prop := 0 ≤ x.cost ∧ x.cost ≤ 2000000000000 * k ∧ -1 ≤ x.rows ∧ x.rows ≤ k
theorem cndB_ok {T : Nat → Bst} {f t k : Nat} {y : Bst} (hK : ∀ f t, 0 ≤ K f t ∧ K f t ≤ 2000000000000) (hT : ∀ t, okB k (T t)) (h : cndB R K n T f t = some y) : okB (k + 1) y ∧ 0 ≤ y.rows := by
  unfold cndB at h
  have h1 := hK f t
  obtain ⟨t1, t2, t3, t4⟩ := hT t
  split at h
  · split at h
    · split at h
      · cases h
      · cases h
        refine ⟨⟨?_, ?_, ?_, ?_⟩, ?_⟩ <;> (try simp only) <;> (try push_cast) <;> (try omega)
    · cases h
      refine ⟨⟨?_, ?_, ?_, ?_⟩, ?_⟩ <;> (try simp only) <;> (try push_cast) <;> (try omega)
  · cases h
theorem okB_bm (k : Nat) : okB k bm := ⟨Int.le_refl _, by show (0 : Int) ≤ _; omega, Int.le_refl _, by show (-1 : Int) ≤ _; omega⟩
theorem okB_mono {k j : Nat} {x : Bst} (h : okB k x) (hj : k ≤ j) : okB j x := by obtain ⟨h1, h2, h3, h4⟩ := h; exact ⟨h1, by omega, h3, by omega⟩
theorem foldB_ok {T : Nat → Bst} {f k : Nat} (hK : ∀ f t, 0 ≤ K f t ∧ K f t ≤ 2000000000000) (hT : ∀ t, okB k (T t)) (d t : Nat) {x : Bst} (hx : okB (k + 1) x) : okB (k + 1) (foldB R K n T f d t x) := by
  rcases foldB_mem (R := R) (K := K) (n := n) (T := T) (f := f) d t x with h | ⟨t', _, _, h⟩
  · rw [h]; exact hx
  · exact (cndB_ok hK hT h).1
theorem Bf_ok (hK : ∀ f t, 0 ≤ K f t ∧ K f t ≤ 2000000000000) : ∀ (k f : Nat), okB k (Bf R K n k f)
  | 0, f => by show okB 0 b0; unfold okB b0; simp
  | k + 1, f => by
    rw [Bf_succ]
    split
    · exact foldB_ok hK (Bf_ok hK k) _ _ (okB_bm _)
    · exact okB_mono (Bf_ok hK k f) (by omega)
theorem BB_cand (hK : ∀ f t, 0 ≤ K f t ∧ K f t ≤ 2000000000000) {f t : Nat} {y : Bst} (h : cndB R K n (BB R K n) f t = some y) : 0 ≤ y.rows := (cndB_ok hK (Bf_ok hK n) h).2
/-- Where a row that is taken ends. -/
theorem BB_to (hK : ∀ f t, 0 ≤ K f t ∧ K f t ≤ 2000000000000) {f : Nat} (hf : f < n) (hr : 0 ≤ (BB R K n f).rows) : ∃ t : Nat, (BB R K n f).to_ = (t : Int) ∧ f < t ∧ t ≤ n ∧ R f t = true ∧ (t < n → 0 ≤ (BB R K n t).rows ∧ (BB R K n f).cost = K f t + (BB R K n t).cost) ∧ (t = n → (BB R K n f).cost = 0) := by
  have he := BB_eq (R := R) (K := K) hf
  rcases foldB_mem (R := R) (K := K) (n := n) (T := BB R K n) (f := f) (n - f) (f + 1) bm with h | ⟨t, h1, h2, h3⟩
  · rw [← he] at h; rw [h] at hr; exact absurd hr (by decide)
  · rw [← he] at h3
    generalize BB R K n f = x at h3 hr ⊢
    refine ⟨t, ?_⟩
    unfold cndB at h3
    by_cases hR : R f t = true
    · rw [if_pos hR] at h3
      by_cases ht : t < n
      · rw [if_pos ht] at h3
        by_cases hn : (BB R K n t).rows < 0
        · rw [if_pos hn] at h3; cases h3
        · rw [if_neg hn] at h3
          cases h3
          exact ⟨rfl, by omega, by omega, hR, fun _ => ⟨by omega, rfl⟩, fun h => by omega⟩
      · rw [if_neg ht] at h3
        cases h3
        exact ⟨rfl, by omega, by omega, hR, fun h => absurd h ht, fun _ => rfl⟩
    · rw [if_neg hR] at h3; cases h3
/-- No row costs less. -/
theorem BB_min (hK : ∀ f t, 0 ≤ K f t ∧ K f t ≤ 2000000000000) {f t : Nat} (hf : f < t) (ht : t ≤ n) (hR : R f t = true) : (t = n → 0 ≤ (BB R K n f).rows ∧ (BB R K n f).cost ≤ 0) ∧ (t < n → 0 ≤ (BB R K n t).rows → 0 ≤ (BB R K n f).rows ∧ (BB R K n f).cost ≤ K f t + (BB R K n t).cost) := by
  have he := BB_eq (R := R) (K := K) (show f < n by omega)
  have hl := (foldB_le (R := R) (K := K) (n := n) (T := BB R K n) (f := f) (fun t y h => BB_cand hK h) (n - f) (f + 1) bm).2
  rw [← he] at hl
  refine ⟨fun e => ?_, fun h hr => ?_⟩
  · have hc : cndB R K n (BB R K n) f t = some ⟨0, 1, (t : Int)⟩ := by unfold cndB; rw [if_pos hR, if_neg (by omega)]
    exact hl t _ (by omega) (by omega) hc
  · have hc : cndB R K n (BB R K n) f t = some ⟨K f t + (BB R K n t).cost, (BB R K n t).rows + 1, (t : Int)⟩ := by unfold cndB; rw [if_pos hR, if_pos h, if_neg (by omega)]
    exact hl t _ (by omega) (by omega) hc
end
theorem joinQ {R T : Type} {t : T → Option R} {k : T} {x : Option R} (Q : T → Prop) (hk : Q k) (h : ∀ j, Q j → t j = x) : joinK t k = x := h k hk
/-! ### The program -/
section
variable {s : ByteArray} {a b : Int} (hs : s.size ≤ 100000) (ha : 0 ≤ a ∧ a ≤ 1000000) (hb : 0 ≤ b ∧ b ≤ 1000000)
abbrev Rs (s : ByteArray) (a b : Int) : Nat → Nat → Bool := rowN (spB s) (cellsS s) a b
abbrev Ks (s : ByteArray) (a b : Int) : Nat → Nat → Int := costN (spB s) (cellsS s) a b
def tabB (T : Nat → Bst) (n : Nat) : List Bst := (List.range (n + 1)).map T
theorem tabB_get (T : Nat → Bst) (n k : Nat) (h : k ≤ n) : (tabB T n)[k]? = some (T k) := by unfold tabB; rw [List.getElem?_map, List.getElem?_range (by omega)]; rfl
theorem tabB_len (T : Nat → Bst) (n : Nat) : (tabB T n).length = n + 1 := by unfold tabB; simp
theorem colN_mono (sp : Cell → Bool) (C : List Cell) (hC : ∀ c ∈ C, 0 ≤ c.Columns ∧ c.Columns ≤ 2) (f t d : Nat) : colN sp C f t ≤ colN sp C f (t + d) := by
  have he := eN_mono sp C d t
  unfold colN
  have key : ∀ i j : Nat, i ≤ j → colsum (C.take i) ≤ colsum (C.take j) := by
    intro i j h
    have : C.take j = C.take i ++ (C.take j).drop i := by
      have := (List.take_append_drop i (C.take j)).symm
      rwa [List.take_take, show min i j = i by omega] at this
    rw [this, colsum_app]
    have := colsum_rng (l := (C.take j).drop i) fun c hc => hC c (List.mem_of_mem_take (List.mem_of_mem_drop hc))
    omega
  have := key (max f (eN sp (C.take t))) (max f (eN sp (C.take (t + d)))) (by omega)
  omega
/-- Behind a row that is too wide there is none. -/
theorem row_brk (sp : Cell → Bool) (C : List Cell) (hC : ∀ c ∈ C, 0 ≤ c.Columns ∧ c.Columns ≤ 2) {f t : Nat} (h : rowN sp C a b f t = false) (h2 : roomN a b f < colN sp C f t) (d : Nat) : rowN sp C a b f (t + d) = false := by
  have hm := colN_mono sp C hC f t d
  have he := eN_mono sp C d t
  unfold rowN at h ⊢
  cases h0 : (decide (0 < f) && spAt sp C f) with
  | true => rfl
  | false =>
    rw [h0] at h
    simp only [Bool.not_false, Bool.true_and, Bool.or_eq_false_iff, decide_eq_false_iff_not] at h ⊢
    omega
theorem set_same {α : Type} {l : List α} {i : Nat} {x : α} (h : l[i]? = some x) : l.set i x = l := by
  apply List.ext_getElem?
  intro j
  by_cases e : i = j
  · subst e; rw [List.getElem?_set_self (List.getElem?_eq_some_iff.1 h).1, h]
  · rw [List.getElem?_set_ne e]
include hs ha hb
theorem rows_in (k f : Nat) (hf : f < (cellsS s).length) (hk : k ≤ 100000) (j2 : List Bst → Option ((List Int) × Int)) :
    ∀ (d t m : Nat) (x : Bst), f < t → t + d = (cellsS s).length + 1 → d < m → okB (k + 1) x → loopG (fun _ _ => none) (page_turner_rows_s2 (turnT s a b) (f : Int) j2) m ((tabB (Bf (Rs s a b) (Ks s a b) (cellsS s).length k) (cellsS s).length).set f x) (t : Int) =
      j2 ((tabB (Bf (Rs s a b) (Ks s a b) (cellsS s).length k) (cellsS s).length).set f (foldB (Rs s a b) (Ks s a b) (cellsS s).length (Bf (Rs s a b) (Ks s a b) (cellsS s).length k) f d t x)) := by
  have hle := cs_le hs
  have hK := costN_rng hs ha hb
  have hcol : ∀ c ∈ cellsS s, 0 ≤ c.Columns ∧ c.Columns ≤ 2 := fun c hc => by have := (cellsS_cov s).mem c hc; omega
  have hok := Bf_ok (R := Rs s a b) (K := Ks s a b) (n := (cellsS s).length) hK k
  intro d
  induction d with
  | zero =>
    intro t m x hft htd hm hx
    obtain ⟨m, rfl⟩ : ∃ q, m = q + 1 := ⟨m - 1, by omega⟩
    rw [loopI]
    generalize loopG (fun _ _ => none) (page_turner_rows_s2 (turnT s a b) (f : Int) j2) m = ag
    unfold page_turner_rows_s2
    exact condFI (decide_eq_false (by show ¬ ((t : Int) ≤ ((cellsS s).length : Int)); omega)) rfl
  | succ d ih =>
    intro t m x hft htd hm hx
    obtain ⟨m, rfl⟩ : ∃ q, m = q + 1 := ⟨m - 1, by omega⟩
    have ih' := fun y hy => ih (t + 1) m y (by omega) (by omega) (by omega) hy
    rw [loopI]
    generalize loopG (fun _ _ => none) (page_turner_rows_s2 (turnT s a b) (f : Int) j2) m = ag at ih' ⊢
    have hn1 : ((t + 1 : Nat) : Int) = (t : Int) + 1 := by omega
    rw [hn1] at ih'
    unfold page_turner_rows_s2
    have htl := tabB_len (Bf (Rs s a b) (Ks s a b) (cellsS s).length k) (cellsS s).length
    have hgt : ∀ y : Bst, getO ((tabB (Bf (Rs s a b) (Ks s a b) (cellsS s).length k) (cellsS s).length).set f y) (t : Int) = some (Bf (Rs s a b) (Ks s a b) (cellsS s).length k t) := fun y => lp_get (by rw [List.getElem?_set_ne (by omega)]; exact tabB_get _ _ _ (by omega))
    have hgf : ∀ y : Bst, getO ((tabB (Bf (Rs s a b) (Ks s a b) (cellsS s).length k) (cellsS s).length).set f y) (f : Int) = some y := fun y => lp_get (by rw [List.getElem?_set_self (by omega)])
    have hnext : ∀ y, okB (k + 1) y → (grd (I64 ((t : Int) + 1)) <| ag ((tabB (Bf (Rs s a b) (Ks s a b) (cellsS s).length k) (cellsS s).length).set f y) ((t : Int) + 1)) = j2 ((tabB (Bf (Rs s a b) (Ks s a b) (cellsS s).length k) (cellsS s).length).set f (foldB (Rs s a b) (Ks s a b) (cellsS s).length (Bf (Rs s a b) (Ks s a b) (cellsS s).length k) f d (t + 1) y)) := fun y hy => grdI ⟨by omega, by omega⟩ (ih' y hy)
    refine condTI (decide_eq_true (by show (t : Int) ≤ ((cellsS s).length : Int); omega)) (joinI (thenI (rowT_v hs f t hft (by omega)) ?_))
    unfold foldB
    cases hR : rowN (spB s) (cellsS s) a b f t with
    | false =>
      have hc : cndB (Rs s a b) (Ks s a b) (cellsS s).length (Bf (Rs s a b) (Ks s a b) (cellsS s).length k) f t = none := by unfold cndB; rw [if_neg (by show ¬ (rowN (spB s) (cellsS s) a b f t = true); rw [hR]; decide)]
      rw [hc]
      refine condTI rfl (thenI (columnsT_v hs f t (by omega) (by omega)) (thenI (roomT_v f) ?_))
      by_cases hw : roomN a b f < colN (spB s) (cellsS s) f t
      · refine condTI (decide_eq_true hw) ?_
        rw [foldB_none d (t + 1) (updB x none) (fun t' h1 h2 => by
          have := row_brk (a := a) (b := b) (spB s) (cellsS s) hcol hR hw (t' - t)
          rw [show t + (t' - t) = t' by omega] at this
          unfold cndB; rw [if_neg (by show ¬ (rowN (spB s) (cellsS s) a b f t' = true); rw [this]; decide)])]
        rfl
      · exact condFI (decide_eq_false hw) (hnext x hx)
    | true =>
      refine condFI rfl (joinQ (fun j4 => ∀ y : Bst, okB (k + 1) y → y.to_ = (t : Int) → j4 y.cost y.rows = j2 ((tabB (Bf (Rs s a b) (Ks s a b) (cellsS s).length k) (cellsS s).length).set f (foldB (Rs s a b) (Ks s a b) (cellsS s).length (Bf (Rs s a b) (Ks s a b) (cellsS s).length k) f d (t + 1) (updB x (some y))))) ?_ ?_)
      · intro y hy hto
        have ey : (⟨y.cost, y.rows, (t : Int)⟩ : Gpage_best) = y := by rw [← hto]
        have hput : (grd (I64 ((t : Int) + 1)) <| ag (((tabB (Bf (Rs s a b) (Ks s a b) (cellsS s).length k) (cellsS s).length).set f x).set (f : Int).toNat (⟨y.cost, y.rows, (t : Int)⟩ : Gpage_best)) ((t : Int) + 1)) = j2 ((tabB (Bf (Rs s a b) (Ks s a b) (cellsS s).length k) (cellsS s).length).set f (foldB (Rs s a b) (Ks s a b) (cellsS s).length (Bf (Rs s a b) (Ks s a b) (cellsS s).length k) f d (t + 1) y)) := by
          rw [ey, Int.toNat_natCast, List.set_set]; exact hnext y hy
        have hkeep := hnext x hx
        refine thenI (hgf x) ?_
        rw [updB_some]
        by_cases h1 : x.rows < 0
        · rw [if_pos (.inl h1)]; exact condTI (decide_eq_true h1) (thenI (hgf x) hput)
        refine condFI (decide_eq_false h1) ?_
        by_cases h2 : y.cost < x.cost
        · rw [if_pos (.inr (.inl h2))]; exact condTI (decide_eq_true h2) (thenI (hgf x) hput)
        refine condFI (decide_eq_false h2) ?_
        by_cases h3 : y.cost = x.cost
        · refine condTI (beqI h3) ?_
          by_cases h4 : y.rows ≤ x.rows
          · rw [if_pos (.inr (.inr ⟨h3, h4⟩))]; exact condTI (decide_eq_true h4) (thenI (hgf x) hput)
          · rw [if_neg (by omega)]; exact condFI (decide_eq_false h4) hkeep
        · rw [if_neg (by omega)]; exact condFI (beqF h3) hkeep
      intro j4 held
      by_cases ht : t < (cellsS s).length
      · refine condTI (decide_eq_true (by show (t : Int) < ((cellsS s).length : Int); omega)) (thenI (hgt x) ?_)
        obtain ⟨o1, o2, o3, o4⟩ := hok t
        have hk2 := hK f t
        by_cases hn : (Bf (Rs s a b) (Ks s a b) (cellsS s).length k t).rows < 0
        · have hc : cndB (Rs s a b) (Ks s a b) (cellsS s).length (Bf (Rs s a b) (Ks s a b) (cellsS s).length k) f t = none := by unfold cndB; rw [if_pos hR, if_pos ht, if_pos hn]
          rw [hc]
          exact condTI (decide_eq_true hn) (hnext x hx)
        · have hc : cndB (Rs s a b) (Ks s a b) (cellsS s).length (Bf (Rs s a b) (Ks s a b) (cellsS s).length k) f t = some ⟨Ks s a b f t + (Bf (Rs s a b) (Ks s a b) (cellsS s).length k t).cost, (Bf (Rs s a b) (Ks s a b) (cellsS s).length k t).rows + 1, (t : Int)⟩ := by unfold cndB; rw [if_pos hR, if_pos ht, if_neg hn]
          have hyok := (cndB_ok hK hok hc).1
          rw [hc]
          refine condFI (decide_eq_false hn) (thenI (costT_v hs ha hb f t hft (by omega)) (thenI (hgt x) (grdI ⟨by omega, by omega⟩ (grdI ⟨by omega, by omega⟩ ?_))))
          exact held _ hyok rfl
      · have hc : cndB (Rs s a b) (Ks s a b) (cellsS s).length (Bf (Rs s a b) (Ks s a b) (cellsS s).length k) f t = some ⟨0, 1, (t : Int)⟩ := by unfold cndB; rw [if_pos hR, if_neg ht]
        have hyok := (cndB_ok hK hok hc).1
        rw [hc]
        refine condFI (decide_eq_false (by show ¬ ((t : Int) < ((cellsS s).length : Int)); omega)) ?_
        exact held _ hyok rfl
end
end Go.Proofs.Ytnhdnpdbmgeheaa
namespace Go.Proofs.Ytnhdnpdbmgeheaa
open Go.RowKit Go.Lib
set_option linter.unusedVariables false
set_option linter.unusedSimpArgs false
/-! ### There is a way -/
theorem next_sp (sp : Cell → Bool) (C : List Cell) : ∀ (d f : Nat), f + d = C.length → f < C.length → ∃ t, f < t ∧ t ≤ C.length ∧ (t = C.length ∨ spAt sp C t = false) ∧ ∀ j, f < j → j < t → spAt sp C j = true
  | 0, f, h, hf => by omega
  | d + 1, f, h, hf => by
    by_cases h1 : f + 1 = C.length
    · exact ⟨f + 1, by omega, by omega, .inl h1, fun j a b => by omega⟩
    · cases h2 : spAt sp C (f + 1) with
      | false => exact ⟨f + 1, by omega, by omega, .inr h2, fun j a b => by omega⟩
      | true =>
        obtain ⟨t, g1, g2, g3, g4⟩ := next_sp sp C d (f + 1) (by omega) (by omega)
        refine ⟨t, by omega, g2, g3, fun j a b => ?_⟩
        by_cases e : j = f + 1
        · rw [e]; exact h2
        · exact g4 j (by omega) b
theorem eN_spaces (sp : Cell → Bool) (C : List Cell) (f : Nat) : ∀ (i : Nat), f + 1 + i ≤ C.length → (∀ j, f < j → j < f + 1 + i → spAt sp C j = true) → eN sp (C.take (f + 1 + i)) ≤ f + 1
  | 0, h, _ => by have := eN_le sp (C.take (f + 1)); rw [List.length_take] at this; show eN sp (C.take (f + 1)) ≤ _; omega
  | i + 1, h, hsp => by
    have hx : C[f + 1 + i]? = some C[f + 1 + i] := List.getElem?_eq_getElem (by omega)
    have h1 := hsp (f + 1 + i) (by omega) (by omega)
    unfold spAt at h1
    rw [hx] at h1
    rw [show f + 1 + (i + 1) = f + 1 + i + 1 by omega, take_snocP hx, eN_snoc, if_pos h1]
    exact eN_spaces sp C f i (by omega) fun j a b => hsp j a (by omega)
theorem feas {sp : Cell → Bool} {C : List Cell} {a b : Int} {K : Nat → Nat → Int} (hK : ∀ f t, 0 ≤ K f t ∧ K f t ≤ 2000000000000) : ∀ (d f : Nat), C.length ≤ f + d → f < C.length → (f = 0 ∨ spAt sp C f = false) → 0 ≤ (BB (rowN sp C a b) K C.length f).rows
  | 0, f, h, hf, _ => by omega
  | d + 1, f, h, hf, h0 => by
    obtain ⟨t, g1, g2, g3, g4⟩ := next_sp sp C (C.length - f) f (by omega) hf
    have he := eN_spaces sp C f (t - (f + 1)) (by omega) (fun j x y => g4 j x (by omega))
    rw [show f + 1 + (t - (f + 1)) = t by omega] at he
    have hR : rowN sp C a b f t = true := by
      unfold rowN
      have : (decide (0 < f) && spAt sp C f) = false := by
        rcases h0 with h0 | h0
        · subst h0; rfl
        · rw [h0, Bool.and_false]
      rw [this, decide_eq_true he, Bool.or_true]; rfl
    have hm := BB_min (R := rowN sp C a b) (K := K) (n := C.length) hK g1 g2 hR
    by_cases e : t = C.length
    · exact (hm.1 e).1
    · have := feas (a := a) (b := b) hK d t (by omega) (by omega) (.inr (g3.resolve_left e))
      exact (hm.2 (by omega) this).1
section
variable {s : ByteArray} {a b : Int} (hs : s.size ≤ 100000) (ha : 0 ≤ a ∧ a ≤ 1000000) (hb : 0 ≤ b ∧ b ≤ 1000000)
abbrev TT (s : ByteArray) (a b : Int) : Nat → Bst := BB (Rs s a b) (Ks s a b) (cellsS s).length
def feasA (s : ByteArray) (a b : Int) (f : Nat) : Prop := f = (cellsS s).length ∨ f < (cellsS s).length ∧ 0 ≤ (TT s a b f).rows
def endsF (s : ByteArray) (a b : Int) : Nat → Nat → List Nat
  | 0, _ => []
  | m + 1, f => if f < (cellsS s).length then (TT s a b f).to_.toNat :: endsF s a b m (TT s a b f).to_.toNat else []
theorem tab_succ {T T' : Nat → Bst} {n f : Nat} (hf : f ≤ n) (h1 : ∀ j, j ≠ f → T' j = T j) : (tabB T n).set f (T' f) = tabB T' n := by
  apply List.ext_getElem?
  intro j
  by_cases hj : j ≤ n
  · rw [tabB_get T' n j hj]
    by_cases e : f = j
    · subst e; rw [List.getElem?_set_self (by rw [tabB_len]; omega)]
    · rw [List.getElem?_set_ne e, tabB_get T n j hj, h1 j (fun h => e h.symm)]
  · rw [List.getElem?_eq_none (by rw [List.length_set, tabB_len]; omega), List.getElem?_eq_none (by rw [tabB_len]; omega)]
include hs ha hb
theorem rows_out (j1 : List Bst → Option ((List Int) × Int)) : ∀ (d k m : Nat), k + d = (cellsS s).length → d < m → loopG (fun _ _ => none) (page_turner_rows_s1 (turnT s a b) j1) m (tabB (Bf (Rs s a b) (Ks s a b) (cellsS s).length k) (cellsS s).length) (((cellsS s).length : Int) - 1 - (k : Int)) =
    j1 (tabB (TT s a b) (cellsS s).length) := by
  have hle := cs_le hs
  intro d
  induction d with
  | zero =>
    intro k m hk hm
    obtain ⟨m, rfl⟩ : ∃ q, m = q + 1 := ⟨m - 1, by omega⟩
    rw [loopI]
    generalize loopG (fun _ _ => none) (page_turner_rows_s1 (turnT s a b) j1) m = ag
    unfold page_turner_rows_s1
    refine condFI (decide_eq_false (by omega)) ?_
    rw [show k = (cellsS s).length by omega]; rfl
  | succ d ih =>
    intro k m hk hm
    obtain ⟨m, rfl⟩ : ∃ q, m = q + 1 := ⟨m - 1, by omega⟩
    have ih' := ih (k + 1) m (by omega) (by omega)
    rw [loopI]
    generalize loopG (fun _ _ => none) (page_turner_rows_s1 (turnT s a b) j1) m = ag at ih' ⊢
    obtain ⟨f, hf⟩ : ∃ f : Nat, f + (k + 1) = (cellsS s).length := ⟨d, by omega⟩
    rw [show ((cellsS s).length : Int) - 1 - (k : Int) = (f : Int) by omega]
    rw [show ((cellsS s).length : Int) - 1 - ((k + 1 : Nat) : Int) = (f : Int) - 1 by omega] at ih'
    unfold page_turner_rows_s1
    have hg : getO (tabB (Bf (Rs s a b) (Ks s a b) (cellsS s).length k) (cellsS s).length) (f : Int) = some b0 := by
      rw [lp_get (tabB_get _ _ f (by omega)), Bf_lt k f (by omega)]
    refine condTI (decide_eq_true (by omega)) (joinI (thenI hg (grdI ⟨by omega, by omega⟩ ?_)))
    have hin := rows_in hs ha hb k f (by omega) (by omega) (fun (all5 : List Gpage_best) => grd (I64 ((f : Int) - 1)) <| ag all5 ((f : Int) - 1)) ((cellsS s).length - f) (f + 1) fuel bm (by omega) (by omega) (by have := big_fuel (n := (cellsS s).length) (by omega); omega) (okB_bm _)
    rw [show ((f + 1 : Nat) : Int) = (f : Int) + 1 by omega] at hin
    have et : (tabB (Bf (Rs s a b) (Ks s a b) (cellsS s).length k) (cellsS s).length).set f (foldB (Rs s a b) (Ks s a b) (cellsS s).length (Bf (Rs s a b) (Ks s a b) (cellsS s).length k) f ((cellsS s).length - f) (f + 1) bm) = tabB (Bf (Rs s a b) (Ks s a b) (cellsS s).length (k + 1)) (cellsS s).length := by
      have e1 : Bf (Rs s a b) (Ks s a b) (cellsS s).length (k + 1) f = foldB (Rs s a b) (Ks s a b) (cellsS s).length (Bf (Rs s a b) (Ks s a b) (cellsS s).length k) f ((cellsS s).length - f) (f + 1) bm := by rw [Bf_succ, if_pos hf]
      rw [← e1]
      exact tab_succ (by omega) fun j hj => by rw [Bf_succ, if_neg (by omega)]
    rw [et] at hin
    refine hin.trans (grdI ⟨by omega, by omega⟩ ih')
theorem feas_to {f : Nat} (h : feasA s a b f) (hf : f < (cellsS s).length) : ∃ t : Nat, (TT s a b f).to_ = (t : Int) ∧ f < t ∧ t ≤ (cellsS s).length ∧ Rs s a b f t = true ∧ feasA s a b t ∧ (t < (cellsS s).length → (TT s a b f).cost = Ks s a b f t + (TT s a b t).cost) ∧ (t = (cellsS s).length → (TT s a b f).cost = 0) := by
  have hr : 0 ≤ (TT s a b f).rows := by
    rcases h with h | h
    · omega
    · exact h.2
  obtain ⟨t, h1, h2, h3, h4, h5, h6⟩ := BB_to (costN_rng hs ha hb) hf hr
  refine ⟨t, h1, h2, h3, h4, ?_, fun h => (h5 h).2, h6⟩
  by_cases e : t = (cellsS s).length
  · exact .inl e
  · exact .inr ⟨by omega, (h5 (by omega)).1⟩
theorem rows_ext (j5 : List Int → Option ((List Int) × Int)) : ∀ (m f N : Nat) (out : List Int), feasA s a b f → (cellsS s).length ≤ f + m → m < N → out.length ≤ f → f ≤ (cellsS s).length → loopG (fun _ _ => none) (page_turner_rows_s3 (turnT s a b) (tabB (TT s a b) (cellsS s).length) j5) N out (f : Int) = j5 (out ++ (endsF s a b m f).map (fun t => ((t : Nat) : Int))) := by
  have hle := cs_le hs
  intro m
  induction m with
  | zero =>
    intro f N out hfe hm hN ho hf
    obtain ⟨N, rfl⟩ : ∃ q, N = q + 1 := ⟨N - 1, by omega⟩
    rw [loopI]
    generalize loopG (fun _ _ => none) (page_turner_rows_s3 (turnT s a b) (tabB (TT s a b) (cellsS s).length) j5) N = ag
    unfold page_turner_rows_s3
    refine condFI (decide_eq_false (by show ¬ ((f : Int) < ((cellsS s).length : Int)); omega)) ?_
    show j5 out = j5 (out ++ [])
    rw [List.append_nil]
  | succ m ih =>
    intro f N out hfe hm hN ho hf
    obtain ⟨N, rfl⟩ : ∃ q, N = q + 1 := ⟨N - 1, by omega⟩
    rw [loopI]
    have ih' := fun t out => ih t N out
    generalize loopG (fun _ _ => none) (page_turner_rows_s3 (turnT s a b) (tabB (TT s a b) (cellsS s).length) j5) N = ag at ih' ⊢
    unfold page_turner_rows_s3 endsF
    by_cases h : f < (cellsS s).length
    · obtain ⟨t, h1, h2, h3, h4, h5, _⟩ := feas_to hs ha hb hfe h
      have hg : getO (tabB (TT s a b) (cellsS s).length) (f : Int) = some (TT s a b f) := lp_get (tabB_get _ _ f (by omega))
      rw [if_pos h, h1, Int.toNat_natCast]
      refine condTI (decide_eq_true (by show (f : Int) < ((cellsS s).length : Int); omega)) (thenI hg (grdI (by omega) (thenI hg ?_)))
      rw [h1]
      rw [ih' t (out ++ [(t : Int)]) h5 (by omega) (by omega) (by rw [List.length_append]; simp; omega) h3, List.append_assoc]; rfl
    · rw [if_neg h]
      refine condFI (decide_eq_false (by show ¬ ((f : Int) < ((cellsS s).length : Int)); omega)) ?_
      show j5 out = j5 (out ++ [])
      rw [List.append_nil]
theorem feas0 : feasA s a b 0 := by
  by_cases h : 0 < (cellsS s).length
  · exact .inr ⟨h, feas (costN_rng hs ha hb) (cellsS s).length 0 (by omega) h (.inl rfl)⟩
  · exact .inl (by omega)
abbrev endsS (s : ByteArray) (a b : Int) : List Nat := endsF s a b (cellsS s).length 0
theorem rowsT_v : page_turner_rows_v (turnT s a b) = some ((endsS s a b).map (fun t => ((t : Nat) : Int)), (TT s a b 0).cost) := by
  have hle := cs_le hs
  unfold page_turner_rows_v
  refine joinI (grdI ⟨by show _ ≤ ((cellsS s).length : Int) + 1; omega, by show ((cellsS s).length : Int) + 1 ≤ _; omega⟩ (grdI ⟨by show _ ≤ ((cellsS s).length : Int) + 1; omega, by show ((cellsS s).length : Int) + 1 ≤ _; omega⟩ (grdI ⟨by show _ ≤ ((cellsS s).length : Int) - 1; omega, by show ((cellsS s).length : Int) - 1 ≤ _; omega⟩ ?_)))
  have e0 : List.replicate (((turnT s a b).cells.length : Int) + 1 : Int).toNat (⟨0, 0, 0⟩ : Gpage_best) = tabB (Bf (Rs s a b) (Ks s a b) (cellsS s).length 0) (cellsS s).length := by
    show List.replicate (((cellsS s).length : Int) + 1 : Int).toNat b0 = _
    rw [show (((cellsS s).length : Int) + 1 : Int).toNat = (cellsS s).length + 1 by omega]
    apply List.ext_getElem?
    intro j
    by_cases hj : j ≤ (cellsS s).length
    · rw [tabB_get _ _ j hj, List.getElem?_replicate, if_pos (by omega)]; rfl
    · rw [List.getElem?_eq_none (by rw [List.length_replicate]; omega), List.getElem?_eq_none (by rw [tabB_len]; omega)]
  rw [e0]
  have ho := rows_out hs ha hb (fun (all1 : List Gpage_best) => joinK (fun (j5 : (List Int) → Option ((List Int) × Int)) => loopG (fun _ _ => none) (page_turner_rows_s3 (turnT s a b) all1 j5) fuel ([] : List Int) 0) (fun (out1 : List Int) => andThen (getO all1 0) fun (q10 : Gpage_best) => some (out1, q10.cost))) (cellsS s).length 0 fuel (by omega) (by have := big_fuel (n := (cellsS s).length) (by omega); omega)
  rw [show ((cellsS s).length : Int) - 1 - ((0 : Nat) : Int) = ((cellsS s).length : Int) - 1 by omega] at ho
  refine ho.trans (joinI ?_)
  have he := rows_ext hs ha hb (fun (out1 : List Int) => andThen (getO (tabB (TT s a b) (cellsS s).length) 0) fun (q10 : Gpage_best) => some (out1, q10.cost)) (cellsS s).length 0 fuel [] (feas0 hs ha hb) (by omega) (by have := big_fuel (n := (cellsS s).length) (by omega); omega) (Nat.zero_le _) (Nat.zero_le _)
  rw [show ((0 : Nat) : Int) = 0 from rfl, List.nil_append] at he
  refine he.trans (thenI (getO_of (n := 0) rfl (tabB_get _ _ 0 (Nat.zero_le _))) rfl)
end
/-! ### Texts -/
def stN (s : ByteArray) (k : Nat) : Int := match (cellsS s)[k]? with | some c => c.Span_From | none => (s.size : Int)
theorem cov_next : ∀ (cs : List Cell) (a b : Int), Cov a cs b → ∀ (k : Nat) (c : Cell), cs[k]? = some c → c.Span_To = (match cs[k + 1]? with | some d => d.Span_From | none => b)
  | [], _, _, _, k, c, h => by simp at h
  | d :: cs, a, b, hc, k, c, h => by
    obtain ⟨h1, h2, h3, h4⟩ := hc
    cases k with
    | zero =>
      have e : d = c := by simpa using h
      subst e
      cases cs with
      | nil => exact h4
      | cons e es => exact h4.1.symm
    | succ k =>
      have := cov_next cs _ b h4 k c (by simpa using h)
      simpa using this
theorem stN_to (s : ByteArray) {k : Nat} {c : Cell} (h : (cellsS s)[k]? = some c) : stN s k = c.Span_From ∧ stN s (k + 1) = c.Span_To ∧ 0 ≤ c.Span_From ∧ c.Span_From < c.Span_To ∧ c.Span_To ≤ (s.size : Int) := by
  have hm := (cellsS_cov s).mem c (List.mem_of_getElem? h)
  refine ⟨by unfold stN; rw [h], ?_, hm.1, hm.2.1, hm.2.2.1⟩
  have := cov_next _ _ _ (cellsS_cov s) k c h
  unfold stN; exact this.symm
theorem stN_le (s : ByteArray) : ∀ (d f : Nat), f + d ≤ (cellsS s).length → stN s f + d ≤ stN s (f + d)
  | 0, f, h => by show stN s f + (0 : Int) ≤ stN s f; omega
  | d + 1, f, h => by
    have ih := stN_le s d f (by omega)
    have hx : (cellsS s)[f + d]? = some (cellsS s)[f + d] := List.getElem?_eq_getElem (by omega)
    obtain ⟨h1, h2, h3, h4, h5⟩ := stN_to s hx
    rw [show f + (d + 1) = f + d + 1 by omega, h2]
    rw [h1] at ih
    push_cast; omega
theorem stN_0 (s : ByteArray) : stN s 0 = 0 := by
  have h := cellsS_cov s
  unfold stN
  cases hc : cellsS s with
  | nil => rw [hc] at h; exact (show (0 : Int) = _ from h).symm
  | cons c cs => rw [hc] at h; exact h.1
theorem stN_n (s : ByteArray) : stN s (cellsS s).length = (s.size : Int) := by
  unfold stN; rw [List.getElem?_eq_none (Nat.le_refl _)]
theorem stN_rng (s : ByteArray) {k : Nat} (h : k ≤ (cellsS s).length) : 0 ≤ stN s k ∧ stN s k ≤ (s.size : Int) := by
  have h1 := stN_le s k 0 (by omega)
  have h2 := stN_le s ((cellsS s).length - k) k (by omega)
  rw [Nat.zero_add, stN_0] at h1
  rw [show k + ((cellsS s).length - k) = (cellsS s).length by omega, stN_n] at h2
  omega
def textN (s : ByteArray) (f t : Nat) : ByteArray := cutB s (stN s f) (stN s t)
theorem textT_v {s : ByteArray} {a b : Int} (hs : s.size ≤ 100000) (f t : Nat) (hf : f < t) (ht : t ≤ (cellsS s).length) : page_turner_text_v (turnT s a b) (f : Int) (t : Int) = some (textN s f t) := by
  have hle := cs_le hs
  unfold page_turner_text_v textN
  have hx : (cellsS s)[f]? = some (cellsS s)[f] := List.getElem?_eq_getElem (by omega)
  have hy : (cellsS s)[t - 1]? = some (cellsS s)[t - 1] := List.getElem?_eq_getElem (by omega)
  obtain ⟨h1, h2, h3, h4, h5⟩ := stN_to s hx
  obtain ⟨g1, g2, g3, g4, g5⟩ := stN_to s hy
  rw [show t - 1 + 1 = t by omega] at g2
  have hl := stN_le s (t - f) f (by omega)
  rw [show f + (t - f) = t by omega] at hl
  refine thenI (lp_get hx) (grdI ⟨by omega, by omega⟩ (thenI (getO_of (n := t - 1) (by omega) hy) (grdI ?_ ?_)))
  · show 0 ≤ (cellsS s)[f].Span_From ∧ (cellsS s)[f].Span_From ≤ (cellsS s)[t - 1].Span_To ∧ (cellsS s)[t - 1].Span_To ≤ (s.size : Int)
    rw [← h1, ← g2]; omega
  · show some (cutB s (cellsS s)[f].Span_From (cellsS s)[t - 1].Span_To) = _
    rw [h1, g2]
def textsF (s : ByteArray) : Nat → List Nat → List ByteArray
  | _, [] => []
  | f, t :: ts => textN s f t :: textsF s t ts
/-- Ends rise. -/
def Rise (n : Nat) : Nat → List Nat → Prop
  | _, [] => True
  | f, t :: ts => f < t ∧ t ≤ n ∧ Rise n t ts
section
variable {s : ByteArray} {a b : Int} (hs : s.size ≤ 100000) (ha : 0 ≤ a ∧ a ≤ 1000000) (hb : 0 ≤ b ∧ b ≤ 1000000)
include hs ha hb
theorem ends_rise : ∀ (m f : Nat), feasA s a b f → f ≤ (cellsS s).length → Rise (cellsS s).length f (endsF s a b m f)
  | 0, f, _, _ => trivial
  | m + 1, f, hfe, hf => by
    unfold endsF
    split
    · rename_i h
      obtain ⟨t, h1, h2, h3, h4, h5, _⟩ := feas_to hs ha hb hfe h
      rw [h1, Int.toNat_natCast]
      exact ⟨h2, h3, ends_rise m t h5 h3⟩
    · trivial
end
theorem turn_go (s : ByteArray) (hs : s.size ≤ 100000) (a b : Int) (c : Int) (j1 : Int → List ByteArray → Option ((List ByteArray) × Int)) (E : List Nat) : ∀ (ts pre : List Nat) (f m : Nat) (out : List ByteArray), E = pre ++ ts → Rise (cellsS s).length f ts → ts.length < m → out.length ≤ pre.length → E.length ≤ 100000 →
    loopG (fun _ _ _ => none) (page_turn_s1 j1 (turnT s a b) (E.map (fun t => ((t : Nat) : Int)), c)) m out (f : Int) (pre.length : Int) = j1 c (out ++ textsF s f ts)
  | [], pre, f, m, out, hE, _, hm, _, _ => by
    obtain ⟨m, rfl⟩ : ∃ q, m = q + 1 := ⟨m - 1, by simp at hm; omega⟩
    rw [loopI]
    generalize loopG (fun _ _ _ => none) (page_turn_s1 j1 (turnT s a b) (E.map (fun t => ((t : Nat) : Int)), c)) m = ag
    unfold page_turn_s1
    refine condFI (decide_eq_false (by rw [List.length_map, hE]; simp)) ?_
    show j1 c out = j1 c (out ++ [])
    rw [List.append_nil]
  | t :: ts, pre, f, m, out, hE, hr, hm, ho, hl => by
    obtain ⟨m, rfl⟩ : ∃ q, m = q + 1 := ⟨m - 1, by simp at hm; omega⟩
    obtain ⟨r1, r2, r3⟩ := hr
    have ih := turn_go s hs a b c j1 E ts (pre ++ [t]) t m (out ++ [textN s f t]) (by rw [hE]; simp) r3 (by simp at hm; omega) (by simp; omega) hl
    have hpl : pre.length < E.length := by rw [hE]; simp
    rw [loopI]
    generalize loopG (fun _ _ _ => none) (page_turn_s1 j1 (turnT s a b) (E.map (fun t => ((t : Nat) : Int)), c)) m = ag at ih ⊢
    have hg : (E.map (fun t => ((t : Nat) : Int)))[pre.length]? = some (t : Int) := by rw [List.getElem?_map, hE]; simp
    rw [show (((pre ++ [t]).length : Nat) : Int) = (pre.length : Int) + 1 by simp] at ih
    unfold page_turn_s1
    refine condTI (lp_lt hg) (thenI (lp_get hg) (thenI (textT_v hs f t r1 r2) (grdI (by omega) (grdI ⟨by omega, by omega⟩ ?_))))
    rw [ih, List.append_assoc]; rfl
theorem rise_len {n : Nat} : ∀ {ts : List Nat} {f : Nat}, Rise n f ts → f + ts.length ≤ max n f
  | [], f, _ => by simp; omega
  | t :: ts, f, h => by
    obtain ⟨h1, h2, h3⟩ := h
    have := rise_len h3
    rw [List.length_cons]; omega
theorem turn_v (s : ByteArray) (hs : s.size ≤ 100000) (ind : Int) (l : Gapi_Layout) (h1 : I64 (l.Width - ind)) (ha : 0 ≤ max 1 (l.Width - ind) ∧ max 1 (l.Width - ind) ≤ 1000000) (hb : 0 ≤ l.Width - l.Turn ∧ l.Width - l.Turn ≤ 1000000) :
    page_turn_v s ind l = some (textsF s 0 (endsS s (max 1 (l.Width - ind)) (l.Width - l.Turn)), (TT s (max 1 (l.Width - ind)) (l.Width - l.Turn) 0).cost) := by
  unfold page_turn_v
  refine joinI (thenI (newTurner_v s hs ind l h1 ⟨by omega, by omega⟩) (thenI (rowsT_v hs ha hb) ?_))
  have hr := ends_rise hs ha hb (cellsS s).length 0 (feas0 hs ha hb) (Nat.zero_le _)
  have hl : 0 + (endsS s (max 1 (l.Width - ind)) (l.Width - l.Turn)).length ≤ max (cellsS s).length 0 := rise_len hr
  have hle := cs_le hs
  have := turn_go s hs (max 1 (l.Width - ind)) (l.Width - l.Turn) (TT s (max 1 (l.Width - ind)) (l.Width - l.Turn) 0).cost (fun (cost1 : Int) (out1 : List ByteArray) => some (out1, cost1)) (endsS s (max 1 (l.Width - ind)) (l.Width - l.Turn)) (endsS s (max 1 (l.Width - ind)) (l.Width - l.Turn)) [] 0 fuel [] rfl hr (by have := big_fuel (n := (cellsS s).length) (by omega); omega) (Nat.le_refl _) (by omega)
  exact this
end Go.Proofs.Ytnhdnpdbmgeheaa
namespace Go.Proofs.Ytnhdnpdbmgeheaa
open Go.RowKit Go.Lib

/-- The slice value v owns the bytes b. -/
def Br (w : World) (base : Nat) (e : TypeId) (v : Value) (b : ByteArray) : Prop := w.ownsRow base e 1 v b.size (strCells b)
theorem Br.nil (w : World) (base : Nat) (e : TypeId) : Br w base e (.slice none 0 0) ⟨#[]⟩ := World.ownsRow_nil w base e 1
theorem Br.below {w w' : World} {base : Nat} {e : TypeId} {v : Value} {b : ByteArray} (h : Br w base e v b) (hb : Below w.heap.size w w') : Br w' base e v b := by
  refine ⟨h.1, ?_⟩
  rcases h.2 with hn | ⟨g, cap, cur, rfl, h2, h3, rest⟩
  · exact .inl hn
  · exact .inr ⟨g, cap, cur, rfl, h2, some_lt h3 hb, rest⟩
theorem Br.lt {w : World} {base : Nat} {e : TypeId} {v : Value} {b : ByteArray} (h : Br w base e v b) : ∀ k, v.ownBlock = some k → base ≤ k ∧ k < w.heap.size := World.ownsRow.lt h
theorem Br.conv {P : Program} {w : World} {base : Nat} {el : TypeId} {v : Value} {b : ByteArray} (h : Br w base el v b) (src dst e : TypeId) (hs : P.underlying src = some (.slice e)) (he : P.underlying e = some (.int .u8)) (hd : P.underlying dst = some .string) :
    (convert src dst v).run P w = .ok (.string b) w := by
  rcases h.2 with ⟨rfl, h2⟩ | ⟨g, cap, cur, rfl, _, _, _⟩
  · have hb : b = ⟨#[]⟩ := by
      apply ByteArray.ext; exact Array.eq_empty_of_size_eq_zero h2
    rw [hb]; exact run_convert_nil_bytes w src dst e 0 hs he hd
  · have hl : b.data.toList.length = b.size := by rw [Array.length_toList]; rfl
    have := run_convert_bytes_back (P := P) w src dst e ⟨g, 0, none⟩ cap b.data.toList hs he hd (fun j hj => by
      refine World.ownsRow.cells h rfl j _ ?_
      unfold strCells; rw [List.getElem?_map, List.getElem?_eq_getElem hj]; rfl)
    rw [hl] at this
    rw [this]

end Go.Proofs.Ytnhdnpdbmgeheaa
namespace Go.Proofs.Ytnhdnpdbmgeheaa
open Go.RowKit Go.Lib Go.Shelf
attribute [local go_sem] Oper.semAt_some
set_option linter.unusedVariables false
set_option linter.unusedSimpArgs false

theorem binfoB : (Try.prog.info? 5).map (fun i => (i.zero, i.size, i.bytes)) = some (some (.int .u8 0), 1, 1) := by kernel_rfl
theorem bSize : ∃ j, Try.prog.info? 76 = some j ∧ j.size ≠ 0 := by
  have h : (Try.prog.info? 76).map (fun j => decide (j.size ≠ 0)) = some true := by kernel_rfl
  cases hj : Try.prog.info? 76 with
  | none => rw [hj] at h; simp at h
  | some j => rw [hj] at h; exact ⟨j, rfl, by simpa using h⟩

set_option maxRecDepth 100000 in
set_option maxHeartbeats 4000000 in
theorem check_new (b : Nat) (v : Value) (w : World) (h : w.heap[b]? = some (.cells #[.pointer none, v] 76 (0, 0))) :
    Calls Try.prog 44 #[.pointer (some ⟨b, 0, none⟩)] w fun e w' => e = .returned (.tuple #[]) ∧ w' = w.setCell ⟨b, 0, none⟩ (.pointer (some ⟨b, 0, none⟩)) := by
  have c0 : w.cell? ⟨b, 0, none⟩ = some (.pointer none) := cell_at h rfl
  have f0 := frozen_at h 0
  have hsh : w.shape? b = some (76, 2) := by simp [World.shape?, h]
  obtain ⟨j, hj, hjs⟩ := bSize
  clear h
  go_enter Try.func44, Try.ntmps44
  go_wp2
  rw [Lib.run_to_unsafe w ⟨b, 0, none⟩ (t := 76) (by kernel_rfl) (by kernel_rfl) hj hjs hsh (Nat.zero_lt_succ 1)]
  simp only [Result.andThen]
  rw [Oper.upon_value]
  go_wp2
  rw [run_callFunc_extern Try.func53 (by kernel_rfl) (by kernel_rfl) (by kernel_rfl) (e := Extern.AbiNoEscape.same) (by kernel_rfl)]
  rw [Lib.run_noEscape]
  simp only [Result.andThen]
  rw [Oper.upon_value]
  go_wp2
  rw [Lib.run_from_unsafe w ⟨b, 0, none⟩ (u := 76) (by kernel_rfl) (by kernel_rfl) hj hsh (by kernel_rfl)]
  simp only [Result.andThen]
  rw [Oper.upon_value]
  go_wp2
  go_end0
  exact ⟨rfl, rfl⟩
set_option maxRecDepth 100000 in
set_option maxHeartbeats 4000000 in
theorem check_used (b : Nat) (v : Value) (w : World) (h : w.heap[b]? = some (.cells #[.pointer (some ⟨b, 0, none⟩), v] 76 (0, 0))) :
    Calls Try.prog 44 #[.pointer (some ⟨b, 0, none⟩)] w fun e w' => e = .returned (.tuple #[]) ∧ w' = w := by
  have c0 : w.cell? ⟨b, 0, none⟩ = some (.pointer (some ⟨b, 0, none⟩)) := cell_at h rfl
  obtain ⟨j, hj, hjs⟩ := bSize
  clear h
  go_enter Try.func44, Try.ntmps44
  go_wp2
  rw [Lib.run_neq_ptr_same w _ (te := 76) (by kernel_rfl) hj]
  go_wp2
  go_end0
  exact ⟨rfl, rfl⟩

/-- A builder in block b that holds the bytes bs; C: its blocks. -/
def Bld (b : Nat) (bs : ByteArray) (C : Nat → Prop) (w : World) : Prop :=
  ∃ p v D, w.heap[b]? = some (.cells #[p, v] 76 (0, 0)) ∧ (p = .pointer none ∨ p = .pointer (some ⟨b, 0, none⟩)) ∧ Byt 5 v bs D w ∧ ¬ D b ∧ C = (fun k => k = b ∨ D k)
theorem Bld.local {b : Nat} {bs : ByteArray} {C : Nat → Prop} {w w' : World} (h : Bld b bs C w) (hk : ∀ k, C k → w'.heap[k]? = w.heap[k]?) : Bld b bs C w' := by
  obtain ⟨p, v, D, h1, h2, h3, h4, rfl⟩ := h
  exact ⟨p, v, D, (hk b (.inl rfl)).trans h1, h2, h3.local (fun k h => hk k (.inr h)), h4, rfl⟩
theorem Bld.lt {b : Nat} {bs : ByteArray} {C : Nat → Prop} {w : World} (h : Bld b bs C w) : ∀ k, C k → k < w.heap.size := by
  obtain ⟨p, v, D, h1, h2, h3, h4, rfl⟩ := h
  rintro k (rfl | hk)
  · exact lt_of_some h1
  · exact h3.lt k hk
theorem Bld.ext {b : Nat} {bs : ByteArray} {C D D' : Nat → Prop} {w w' : World} (h : Bld b bs C w) (hx : Ext D D' w w') (hd : ∀ k, C k → ¬ D k) : Bld b bs C w' :=
  h.local (fun k hk => hx.1.keep k (h.lt k hk) (hd k hk))
theorem Bld.new (w : World) : Bld w.heap.size ⟨#[]⟩ (fun k => k = w.heap.size) (w.alloc (.cells #[.pointer none, .slice none 0 0] 76)) :=
  ⟨_, _, _, World.alloc_heap_new w _, .inl rfl, Byt.nil, by simp, by funext k; simp⟩

set_option maxRecDepth 100000 in
set_option maxHeartbeats 4000000 in
theorem writeString_any (b : Nat) (bs s : ByteArray) (C : Nat → Prop) (w : World) (h : Bld b bs C w) (hn : bs.size + s.size ≤ 140737488355328) :
    Calls Try.prog 32 #[.pointer (some ⟨b, 0, none⟩), .string s] w fun e w' => (∃ u, e = .returned u) ∧ ∃ C', Bld b (bs ++ s) C' w' ∧ Ext C C' w w' := by
  obtain ⟨p, v, D, hbk, hp, hbr, hne, rfl⟩ := h
  obtain ⟨ip, hpi, hpz, hps, hpb⟩ := info_parts binfoB
  obtain ⟨w1, hck, hb1, hbr1, hx1⟩ : ∃ w1, (Calls Try.prog 44 #[.pointer (some ⟨b, 0, none⟩)] w fun e w' => e = .returned (.tuple #[]) ∧ w' = w1) ∧
      w1.heap[b]? = some (.cells #[.pointer (some ⟨b, 0, none⟩), v] 76 (0, 0)) ∧ Byt 5 v bs D w1 ∧ Ext (fun k => k = b ∨ D k) (fun k => k = b ∨ D k) w w1 := by
    rcases hp with rfl | rfl
    · have hx : Ext (fun k => k = b) (fun k => k = b) w (w.setCell ⟨b, 0, none⟩ (.pointer (some ⟨b, 0, none⟩))) := Ext.setCell (C' := fun k => k = b) (Ext.refl _ _) (p := ⟨b, 0, none⟩) rfl _
      refine ⟨_, check_new b v w hbk, ?_, hbr.ext hx (by rintro k hk rfl; exact hne hk), Ext.setCell (C' := fun k => k = b ∨ D k) (Ext.refl _ _) (p := ⟨b, 0, none⟩) (.inl rfl) _⟩
      simp [World.setCell, Array.getElem?_modify, hbk]
    · exact ⟨w, check_used b v w hbk, hbk, hbr, Ext.refl _ _⟩
  have c1 : w1.cell? ⟨b, 1, none⟩ = some v := cell_at hb1 rfl
  have hlt : b < w1.heap.size := lt_of_some hb1
  have Hbk := Lib.hid hbk; have Hbr := Lib.hid hbr; have Hx1 := Lib.hid hx1
  clear hbk hbr hx1
  go_enter Try.func32, Try.ntmps32
  go_wp2_with (first | (go_at_call 44; refine hck.mono ?_; rintro e w' ⟨rfl, rfl⟩) | (refine wpList_append_byt _ rfl _ _ _ _ rfl 5 _ (by kernel_rfl) (by kernel_rfl) hpi hpz hps hpb _ _ _ rfl hbr1 _ rfl hn ?_))
  rintro v' w2 D' hr2 hx2
  have hb2 : w2.heap[b]? = some (.cells #[.pointer (some ⟨b, 0, none⟩), v] 76 (0, 0)) := (hx2.1.keep b hlt hne).trans hb1
  have f1 := frozen_at hb2 1
  have d1 : w2.cell? ⟨b, 1, none⟩ = some v := cell_at hb2 rfl
  have hne' : ¬ D' b := hx2.not hlt hne
  obtain ⟨ao, n', cap', rfl⟩ : ∃ ao n' cap', v' = .slice ao n' cap' := by
    rcases hr2.shape with ⟨rfl, _⟩ | ⟨g, cap, cur, rfl, _⟩ <;> exact ⟨_, _, _, rfl⟩
  have Hr2 := Lib.hid hr2; have Hx2 := Lib.hid hx2; have Hb2 := Lib.hid hb2
  clear hr2 hx2 hb2
  go_wp2
  go_ret2
  have hx3 : Ext (fun k => k = b ∨ D' k) (fun k => k = b ∨ D' k) w2 (w2.setCell ⟨b, 1, none⟩ (.slice ao n' cap')) := Ext.setCell (C' := fun k => k = b ∨ D' k) (Ext.refl _ _) (p := ⟨b, 1, none⟩) (.inl rfl) _
  have hx3' : Ext (fun k => k = b) (fun k => k = b) w2 (w2.setCell ⟨b, 1, none⟩ (.slice ao n' cap')) := Ext.setCell (C' := fun k => k = b) (Ext.refl _ _) (p := ⟨b, 1, none⟩) rfl _
  refine ⟨⟨_, rfl⟩, fun k => k = b ∨ D' k, ⟨_, _, D', ?_, .inr rfl, Hr2.out.ext hx3' (by rintro k hk rfl; exact hne' hk), hne', rfl⟩, ?_⟩
  · simp [World.setCell, Array.getElem?_modify, Hb2.out]
  · refine (Hx1.out.trans ?_).trans hx3
    exact ⟨Hx2.out.1.weaken (fun k _ h => .inr h), fun k hk => by
      rcases hk with rfl | hk
      · exact .inl (.inl rfl)
      · exact (Hx2.out.2 k hk).imp .inr id⟩

/-- The string of a builder. -/
theorem freeze_ext {C C' : Nat → Prop} {a w : World} (h : Ext C C' a w) {g : Nat} (hg : C' g) (m : Nat) : Ext C C' a (w.freeze ⟨g, 0, none⟩ m) := by
  unfold World.freeze
  split
  · exact h
  · have hs : ∀ f : Obj → Obj, ({ w with heap := w.heap.modify g f } : World).heap.size = w.heap.size := fun f => by simp
    refine ⟨⟨h.1.os, h.1.tape, h.1.output, by simpa using h.1.size, fun k hk hn => ?_⟩, fun k hk => by simpa using h.2 k hk⟩
    rw [Array.getElem?_modify]
    rw [if_neg]
    · exact h.1.keep k hk hn
    · intro e
      have e' : g = k := e
      subst e'
      rcases h.2 _ hg with h' | h'
      · exact hn h'
      · omega

set_option maxRecDepth 100000 in
set_option maxHeartbeats 4000000 in
theorem bstring_any (b : Nat) (bs : ByteArray) (C : Nat → Prop) (w : World) (h : Bld b bs C w) :
    Calls Try.prog 33 #[.pointer (some ⟨b, 0, none⟩)] w fun e w' => e = .returned (.string bs) ∧ Ext C C w w' := by
  obtain ⟨p, v, D, hbk, hp, hbr, hne, rfl⟩ := h
  rcases hbr.shape with ⟨rfl, rfl, rfl⟩ | ⟨g, cap, cur, rfl, hgl, hbc, hcm, rfl, hg⟩
  · have c1 : w.drew.cell? ⟨b, 1, none⟩ = some (.slice none 0 0) := cell_at (w := w.drew) hbk rfl
    have hSD : (Builtin.unsafeSliceData_ #[74] 103 #[.slice none 0 0]).run Try.prog w.drew = .ok (.pointer none) w.drew := rfl
    have hUS : ∀ W q, (Builtin.unsafeString_ #[103, 3] 9 #[.pointer q, .int .i64 0]).run Try.prog W = .ok (.string .empty) W := fun W q => Lib.run_unsafeString_none W _ _ _ q
    clear hbk hbr
    go_enter Try.func33, Try.ntmps33
    go_wp2
    go_region
    all_goals (go_wp2; go_ret; exact ⟨rfl, (Ext.refl _ _).drew⟩)
  · by_cases h0 : bs.size = 0
    · have hbs : bs = ⟨#[]⟩ := by apply ByteArray.ext; exact Array.eq_empty_of_size_eq_zero h0
      subst hbs
      have h00 : (⟨#[]⟩ : ByteArray).size = 0 := rfl
      rw [h00] at hbk hbr
      have hUS : ∀ W q, (Builtin.unsafeString_ #[103, 3] 9 #[.pointer q, .int .i64 0]).run Try.prog W = .ok (.string .empty) W := fun W q => Lib.run_unsafeString_none W _ _ _ q
      have c1 : w.drew.cell? ⟨b, 1, none⟩ = some (.slice (some ⟨g, 0, none⟩) 0 cap) := cell_at (w := w.drew) hbk rfl
      by_cases hc0 : cap = 0
      · subst hc0
        have hSD : (Builtin.unsafeSliceData_ #[74] 103 #[.slice (some ⟨g, 0, none⟩) 0 0]).run Try.prog w.drew = .ok (.pointer (some ⟨w.drew.heap.size, 0, none⟩)) (w.drew.alloc (.view ⟨g, 0, none⟩ 5)) :=
          Lib.run_unsafeSliceData_zero w.drew _ _ 5 (by kernel_rfl) ⟨g, 0, none⟩ 0 (5, cur.size) (by have hg' : w.drew.heap[g]? = some (.cells cur 5 (0, 0)) := hg; simp [World.shape?, hg'])
        have hlt := lt_of_some hbk
        have c2 : (w.drew.alloc (.view ⟨g, 0, none⟩ 5)).cell? ⟨b, 1, none⟩ = some (.slice (some ⟨g, 0, none⟩) 0 0) := cell_at (w := w.drew.alloc _) ((Below.heap_alloc w.drew _ b hlt).trans hbk) rfl
        have c3 : (w.alloc (.view ⟨g, 0, none⟩ 5)).drew.cell? ⟨b, 1, none⟩ = some (.slice (some ⟨g, 0, none⟩) 0 0) := c2
        have c0 : w.cell? ⟨b, 1, none⟩ = some (.slice (some ⟨g, 0, none⟩) 0 0) := c1
        clear hbk hbr hg
        go_enter Try.func33, Try.ntmps33
        go_wp2
        go_region
        all_goals (go_wp2; go_ret; exact ⟨rfl, (Ext.refl _ _).drew.alloc _⟩)
      · have hSD : (Builtin.unsafeSliceData_ #[74] 103 #[.slice (some ⟨g, 0, none⟩) 0 cap]).run Try.prog w.drew = .ok (.pointer (some ⟨g, 0, none⟩)) w.drew := Lib.run_unsafeSliceData_row _ _ _ _ _ _ hc0
        clear hbk hbr hg hc0
        go_enter Try.func33, Try.ntmps33
        go_wp2
        go_region
        all_goals (go_wp2; go_ret; exact ⟨rfl, (Ext.refl _ _).drew⟩)
    · obtain ⟨l, hl⟩ : ∃ l, l = bs.data.toList := ⟨_, rfl⟩
      have hll : l.length = bs.size := by rw [hl, Array.length_toList]; rfl
      have hbs : bs = ⟨l.toArray⟩ := by rw [hl]
      have hl0 : l ≠ [] := by intro e; rw [e] at hll; exact h0 hll.symm
      rw [← hll] at hbk hbc hbr
      have c1 : w.drew.cell? ⟨b, 1, none⟩ = some (.slice (some ⟨g, 0, none⟩) l.length cap) := cell_at (w := w.drew) hbk rfl
      have hSD : (Builtin.unsafeSliceData_ #[74] 103 #[.slice (some ⟨g, 0, none⟩) l.length cap]).run Try.prog w.drew = .ok (.pointer (some ⟨g, 0, none⟩)) w.drew :=
        Lib.run_unsafeSliceData_row _ _ _ _ _ _ (by omega)
      have hcs : cur.size = cap * 1 := by
        rcases hbr.1.2 with ⟨h1, _⟩ | ⟨g', cap', cur', h1, _, h3, _, _, h6, _⟩
        · cases h1
        · have e1 : g = g' := by injection h1 with q1 q2 q3; injection q1 with q1; injection q1
          have e2 : cap = cap' := by injection h1
          subst e1; subst e2
          rw [hg] at h3; injection h3 with h3; injection h3 with h3
          rw [h3]; exact h6
      have hUS : (Builtin.unsafeString_ #[103, 3] 9 #[.pointer (some ⟨g, 0, none⟩), .int .i64 l.length]).run Try.prog w.drew = .ok (.string ⟨l.toArray⟩) (w.drew.freeze ⟨g, 0, none⟩ l.length) := by
        refine Lib.run_unsafeString_row w.drew 103 3 9 5 (by kernel_rfl) (by kernel_rfl) g cur.size (by have hg' : w.drew.heap[g]? = some (.cells cur 5 (0, 0)) := hg; simp [World.shape?, hg']) l hl0 (by omega) (by unfold maxLen at hcm; omega) ?_
        intro j x hx
        refine World.ownsRow.cells hbr.1 (g := g) rfl j (.int .u8 x.toNat) ?_
        unfold strCells
        rw [List.getElem?_map, ← hl, hx]; rfl
      rw [hbs]
      have hx : Ext (fun k => k = b ∨ k = g) (fun k => k = b ∨ k = g) w (w.drew.freeze ⟨g, 0, none⟩ l.length) := freeze_ext ((Ext.refl _ _).drew) (.inr rfl) _
      have Hx := Lib.hid hx
      clear hbk hbr hg hx hbs hll hcs
      clear hl
      go_enter Try.func33, Try.ntmps33
      go_wp2
      go_region
      all_goals (go_wp2; go_ret; exact ⟨rfl, Hx.out⟩)

end Go.Proofs.Ytnhdnpdbmgeheaa
namespace Go.Proofs.Ytnhdnpdbmgeheaa
open Go.RowKit Go.Lib Go.Shelf
attribute [local go_sem] Oper.semAt_some
set_option linter.unusedVariables false
set_option linter.unusedSimpArgs false
theorem grown_bld {b : Nat} {p : Value} {w : World} {cs : Array Value} (hp : p = .pointer none ∨ p = .pointer (some ⟨b, 0, none⟩)) (hbk : w.heap[b]? = some (.cells #[p, .slice none 0 0] 76 (0, 0))) (hm : cs.size ≤ maxLen) :
    ∃ C', Bld b ⟨#[]⟩ C' ((w.setCell ⟨b, 1, none⟩ (.slice (some ⟨w.heap.size, 0, none⟩) 0 cs.size)).alloc (.cells cs 5)).drew.drew.drew ∧ Ext (fun k => k = b) C' w ((w.setCell ⟨b, 1, none⟩ (.slice (some ⟨w.heap.size, 0, none⟩) 0 cs.size)).alloc (.cells cs 5)).drew.drew.drew := by
  have hlt : b < w.heap.size := lt_of_some hbk
  have hsz : (w.setCell ⟨b, 1, none⟩ (.slice (some ⟨w.heap.size, 0, none⟩) 0 cs.size)).heap.size = w.heap.size := by simp [World.setCell]
  have hb2 : (w.setCell ⟨b, 1, none⟩ (.slice (some ⟨w.heap.size, 0, none⟩) 0 cs.size)).heap[b]? = some (.cells #[p, .slice (some ⟨w.heap.size, 0, none⟩) 0 cs.size] 76 (0, 0)) := by
    simp [World.setCell, Array.getElem?_modify, hbk]
  have hx : Ext (fun k => k = b) (fun k => k = b) w (w.setCell ⟨b, 1, none⟩ (.slice (some ⟨w.heap.size, 0, none⟩) 0 cs.size)) := Ext.setCell (C' := fun k => k = b) (Ext.refl _ _) (p := ⟨b, 1, none⟩) rfl _
  generalize w.setCell ⟨b, 1, none⟩ (.slice (some ⟨w.heap.size, 0, none⟩) 0 cs.size) = W at hsz hb2 hx ⊢
  refine ⟨fun k => k = b ∨ k = w.heap.size, ⟨p, .slice (some ⟨w.heap.size, 0, none⟩) 0 cs.size, fun k => k = w.heap.size, ?_, hp, ?_, (fun e : b = w.heap.size => by omega), rfl⟩, ?_⟩
  · exact (Lib.alloc_old W _ b (by omega)).trans hb2
  · refine ⟨⟨rfl, .inr ⟨w.heap.size, cs.size, cs, rfl, Nat.zero_le _, ?_, Nat.zero_le _, hm, (Nat.mul_one _).symm, ?_⟩⟩, ?_⟩
    · show (W.alloc (.cells cs 5)).heap[w.heap.size]? = _
      rw [← hsz]; exact World.alloc_heap_new W _
    · show cs.toList.take (0 * 1) = _
      rw [Nat.zero_mul, List.take_zero]; rfl
    · funext k; simp [Value.ownBlock, eq_comm]
  · have h1 : Ext (fun k => k = b) (fun k => k = b ∨ k = w.heap.size) w (W.alloc (.cells cs 5)) :=
      ⟨hx.1.alloc _, fun k hk => by
        rcases hk with rfl | rfl
        · exact .inl rfl
        · exact .inr ⟨Nat.le_refl _, by simp; omega⟩⟩
    exact h1.drew.drew.drew
set_option maxHeartbeats 4000000 in
set_option maxRecDepth 100000 in
theorem bgrow_new (b n : Nat) (w : World) (hbk : w.heap[b]? = some (.cells #[.pointer (some ⟨b, 0, none⟩), .slice none 0 0] 76 (0, 0))) (hn : n ≤ 140737488355328) :
    Calls Try.prog 45 #[.pointer (some ⟨b, 0, none⟩), .int .i64 n] w fun e w' => e = .returned (.tuple #[]) ∧ ∃ C', Bld b ⟨#[]⟩ C' w' ∧ Ext (fun k => k = b) C' w w' := by
  obtain ⟨cs, hrun, hle, hmax⟩ := Lib.run_makeNoZero (P := Try.prog) w.drew #[3] 74 5 Try.underlying74 n (by omega)
  have hw : IntKind.i64.wrap (IntKind.i64.wrap 0 + (n : Int)) = n := by
    rw [IntKind.wrap_i64, IntKind.wrap_i64]
    omega
  have hcall : (callFunc 54 #[.int .i64 (IntKind.i64.wrap (IntKind.i64.wrap 0 + (n : Int)))]).run Try.prog w.drew = .ok (.value (.slice (some ⟨w.drew.heap.size, 0, none⟩) n cs.size)) (w.drew.drew.drew.alloc (.cells cs 5)) := by
    rw [hw, run_callFunc_extern Try.func54 (by kernel_rfl) (by kernel_rfl) (by kernel_rfl) (e := Extern.BytealgMakeNoZero.makeNoZero #[3] #[74]) (by kernel_rfl), hrun]
    rfl
  have hlt : b < w.heap.size := lt_of_some hbk
  have c1 : w.drew.cell? ⟨b, 1, none⟩ = some (.slice none 0 0) := cell_at (w := w.drew) hbk rfl
  have c2 : (w.alloc (.cells cs 5)).cell? ⟨b, 1, none⟩ = some (.slice none 0 0) := cell_at ((Lib.alloc_old w _ b hlt).trans hbk) rfl
  have f2 : (w.alloc (.cells cs 5)).frozen? ⟨b, 1, none⟩ = false := frozen_at ((Lib.alloc_old w _ b hlt).trans hbk) 1
  have hcopy : ∀ W : World, (Builtin.copy_ #[74, 74] 3 #[.slice (some ⟨w.heap.size, 0, none⟩) 0 cs.size, .slice none 0 0]).run Try.prog W = .ok (goInt 0) W :=
    fun W => run_copy_none W 74 74 3 5 _ _ 0 cs.size 0 0 Try.underlying74 (by kernel_rfl) rfl
  clear hw
  have hfin := grown_bld (cs := cs) (.inr rfl) hbk (hmax (by unfold maxLen; omega))
  clear hbk
  go_enter Try.func45, Try.ntmps45
  go_wp2
  go_region
  all_goals (go_wp2; go_end0; exact ⟨rfl, hfin⟩)
theorem Bld.drew {b : Nat} {bs : ByteArray} {C : Nat → Prop} {w : World} (h : Bld b bs C w) : Bld b bs C w.drew := h.local (fun _ _ => rfl)
set_option maxHeartbeats 4000000 in
set_option maxRecDepth 100000 in
theorem bGrow_new (b n : Nat) (w : World) (hbk : w.heap[b]? = some (.cells #[.pointer none, .slice none 0 0] 76 (0, 0))) (hn : n ≤ 140737488355328) :
    Calls Try.prog 31 #[.pointer (some ⟨b, 0, none⟩), .int .i64 n] w fun e w' => e = .returned (.tuple #[]) ∧ ∃ C', Bld b ⟨#[]⟩ C' w' ∧ Ext (fun k => k = b) C' w w' := by
  have hck := check_new b (.slice none 0 0) w hbk
  have hbk1 : (w.setCell ⟨b, 0, none⟩ (.pointer (some ⟨b, 0, none⟩))).heap[b]? = some (.cells #[.pointer (some ⟨b, 0, none⟩), .slice none 0 0] 76 (0, 0)) := by
    simp [World.setCell, Array.getElem?_modify, hbk]
  have hx : Ext (fun k => k = b) (fun k => k = b) w (w.setCell ⟨b, 0, none⟩ (.pointer (some ⟨b, 0, none⟩))) := Ext.setCell (C' := fun k => k = b) (Ext.refl _ _) (p := ⟨b, 0, none⟩) rfl _
  have hU : Bld b ⟨#[]⟩ (fun k => k = b) (w.setCell ⟨b, 0, none⟩ (.pointer (some ⟨b, 0, none⟩))) := ⟨_, _, _, hbk1, .inr rfl, Byt.nil, by simp, by funext k; simp⟩
  have hG := bgrow_new b n (w.setCell ⟨b, 0, none⟩ (.pointer (some ⟨b, 0, none⟩))).drew hbk1 hn
  have c1 : (w.setCell ⟨b, 0, none⟩ (.pointer (some ⟨b, 0, none⟩))).cell? ⟨b, 1, none⟩ = some (.slice none 0 0) := cell_at hbk1 rfl
  have c1' : (w.setCell ⟨b, 0, none⟩ (.pointer (some ⟨b, 0, none⟩))).drew.cell? ⟨b, 1, none⟩ = some (.slice none 0 0) := c1
  clear hbk hbk1
  go_enter Try.func31, Try.ntmps31
  go_wp2_with (go_at_call 44; refine hck.mono ?_; rintro e w' ⟨rfl, rfl⟩)
  go_region
  all_goals go_wp2_with (go_at_call 45; refine hG.mono ?_; rintro e w' ⟨rfl, C', h1, h2⟩)
  all_goals first
    | (go_end0; exact ⟨rfl, C', h1, hx.drew.trans h2⟩)
    | (go_end0; exact ⟨rfl, _, hU.drew, hx.drew⟩)
/-! ### As contracts -/
def bldA (b : Nat) (bs : ByteArray) : Asn := ⟨fun C w => Bld b bs C w, fun h => h.lt, fun h _ hk => h.local hk⟩
theorem grow_fn (b : Nat) (n : Int) (h0 : 0 ≤ n) (hn : n ≤ 140737488355328) : Fn Try.prog 31 [.pointer (some ⟨b, 0, none⟩), .int .i64 n] [cells b [.pointer none, .slice none 0 0] 76] (fun _ : Unit => .tuple #[]) (fun _ => [bldA b ⟨#[]⟩]) := by
  intro w C hA
  have h := sepL.one1.1 hA
  have hC : C = fun k => k = b := funext fun k => propext (h.1 k)
  subst hC
  obtain ⟨m, rfl⟩ : ∃ m : Nat, n = m := ⟨n.toNat, by omega⟩
  refine (bGrow_new b m w h.2 (by omega)).mono ?_
  rintro e w' ⟨rfl, C', h1, h2⟩
  exact ⟨(), rfl, C', sepL.one1.2 h1, h2⟩
theorem wstr_fn (b : Nat) (bs s : ByteArray) (hn : bs.size + s.size ≤ 140737488355328) : Fn Try.prog 32 [.pointer (some ⟨b, 0, none⟩), .string s] [bldA b bs] (fun u : Value => u) (fun _ => [bldA b (bs ++ s)]) := by
  intro w C hA
  refine (writeString_any b bs s C w (sepL.one1.1 hA) hn).mono ?_
  rintro e w' ⟨⟨u, rfl⟩, C', h1, h2⟩
  exact ⟨u, rfl, C', sepL.one1.2 h1, h2⟩
theorem bstr_fn (b : Nat) (bs : ByteArray) : Fn Try.prog 33 [.pointer (some ⟨b, 0, none⟩)] [bldA b bs] (fun _ : Unit => .string bs) (fun _ => []) := by
  intro w C hA
  refine (bstring_any b bs C w (sepL.one1.1 hA)).mono ?_
  rintro e w' ⟨rfl, h2⟩
  exact ⟨(), rfl, fun _ => False, fun _ h => h, h2.1, fun k hk => hk.elim⟩
end Go.Proofs.Ytnhdnpdbmgeheaa
namespace Go.Proofs.Ytnhdnpdbmgeheaa
open Go.RowKit Go.Lib
set_option linter.unusedVariables false
set_option linter.unusedSimpArgs false
def strings_Join_s1 (elems1 : List ByteArray) (j2 : Int → Option ByteArray) (ag1 : Int → Int → Option ByteArray) (n5 : Int) (x3 : Int) : Option ByteArray := bcond (decide ((x3 : Int) < (elems1.length : Int))) ( andThen (getO elems1 x3) fun (q2 : ByteArray) => grd (I64 (9223372036854775807 - n5)) <| bcond (decide (((9223372036854775807 - n5) : Int) < (q2.size : Int))) ( none
) ( grd (I64 (n5 + (q2.size : Int))) <| grd (I64 (x3 + 1)) <| ag1 (n5 + (q2.size : Int)) (x3 + 1)
)
) ( j2 n5
)
def strings_Join_s2 (elems1 : List ByteArray) (sep1 : ByteArray) (j3 : ByteArray → Option ByteArray) (ag2 : ByteArray → Int → Option ByteArray) (b6 : ByteArray) (x6 : Int) : Option ByteArray := bcond (decide ((x6 : Int) < ((cutL elems1 1 (elems1.length : Int)).length : Int))) ( andThen (getO (cutL elems1 1 (elems1.length : Int)) x6) fun (q4 : ByteArray) => grd (b6.size + sep1.size ≤ 140737488355328) <| grd ((b6 ++ sep1).size + q4.size ≤ 140737488355328) <| grd (I64 (x6 + 1)) <| ag2 ((b6 ++ sep1) ++ q4) (x6 + 1)
) ( j3 b6
)
def strings_Join_v (elems1 : List ByteArray) (sep1 : ByteArray) : Option ByteArray := bcond (((elems1.length : Int) : Int) == 0) ( some (⟨#[]⟩ : ByteArray)
) ( bcond (((elems1.length : Int) : Int) == 1) ( andThen (getO elems1 0) fun (q1 : ByteArray) => some q1
) ( joinK (fun (j1 : Int → Option ByteArray) => bcond (decide ((0 : Int) < (sep1.size : Int))) ( grd (I64 ((elems1.length : Int) - 1)) <| grd (((elems1.length : Int) - 1) ≠ 0) <| grd (I64 (Int.tdiv 9223372036854775807 ((elems1.length : Int) - 1))) <| bcond (decide (((Int.tdiv 9223372036854775807 ((elems1.length : Int) - 1)) : Int) ≤ (sep1.size : Int))) ( none
) ( grd (I64 ((elems1.length : Int) - 1)) <| grd (I64 ((sep1.size : Int) * ((elems1.length : Int) - 1))) <| grd (I64 (0 + ((sep1.size : Int) * ((elems1.length : Int) - 1)))) <| j1 (0 + ((sep1.size : Int) * ((elems1.length : Int) - 1)))
)
) ( j1 0
)
) (fun (n1 : Int) => joinK (fun (j2 : Int → Option ByteArray) => loopG (fun _ _ => none) (strings_Join_s1 elems1 j2) fuel n1 0
) (fun (n2 : Int) => joinK (fun (j3 : ByteArray → Option ByteArray) => grd (0 ≤ (n2 : Int) ∧ (n2 : Int) ≤ 140737488355328) <| andThen (getO elems1 0) fun (q3 : ByteArray) => grd ((⟨#[]⟩ : ByteArray).size + q3.size ≤ 140737488355328) <| grd (0 ≤ (1 : Int) ∧ (1 : Int) ≤ (elems1.length : Int) ∧ ((elems1.length : Int) : Int) ≤ (elems1.length : Int)) <| loopG (fun _ _ => none) (strings_Join_s2 elems1 sep1 j3) fuel ((⟨#[]⟩ : ByteArray) ++ q3) 0
) (fun (b2 : ByteArray) => some b2
)
)
)
)
)
set_option maxRecDepth 100000 in
set_option maxHeartbeats 4000000 in
theorem strings_Join_fn {vvelems1 velems1 : Value} {Lelems1 : List ByteArray} {kelems1 : Nat} {elems1 : List ByteArray} (hwelems1 : Vw vvelems1 Lelems1 1 kelems1 velems1 elems1) {sep1 : ByteArray} {r : ByteArray} (h : strings_Join_v elems1 sep1 = some r) : Fn Try.prog 21 [velems1, .string sep1] [vec encS 9 1 vvelems1 Lelems1] (fun _b : Unit => .string r) (fun _b => [vec encS 9 1 vvelems1 Lelems1]) := by
 unfold strings_Join_v at h
 refine Fn.intro Try.func21 rfl Try.ntmps21 (by simp) ?_
 intro w0 K
 refine TC.seq (TC.region (TO.assign rfl dc rfl (TO.nil (TX.next (TC.seq (TC.seq (TC.region (TO.move rfl dc rfl (TO.lenVw hwelems1 rfl dc rfl Try.underlying25 (TO.nil (TX.next (TC.block (TC.seq ?_)))))))))))))
 refine TC.region (TO.bin rfl dc rfl rfl bin_eql (TO.assign rfl dc rfl (TO.nil (TX.next ?_))))
 refine TC.condB rfl (fun hb1 => ?_) (fun hb1 => ?_)
 ·
  have h := condT hb1 h
  refine TC.seq (TC.region (TO.assign rfl dc rfl (TO.nil (TX.next (TC.ret (TX.blockRet (TX.thenRet ?_)))))))
  cases h
  exact TX.fin (rs := [.tmp 4]) () (.inl rfl) Try.results21 (.cons (.tmp rfl) .nil) rfl (Splits.of [0] kr rfl)
 ·
  have h := condF hb1 h
  refine TC.seq (TC.region (TO.bin rfl dc rfl rfl bin_eql (TO.assign rfl dc rfl (TO.nil (TX.next ?_)))))
  refine TC.condB rfl (fun hb2 => ?_) (fun hb2 => ?_)
  ·
   have h := condT hb2 h
   refine TC.seq (TC.region (TO.move rfl dc rfl ?_))
   obtain ⟨q1, hq1, h⟩ := andE h
   refine TO.indexVw hwelems1 hq1 Try.underlying25 sz_9 rfl dc rfl rfl rfl (TO.loadVec (i := kelems1 + (0 : Int).toNat) (j := 0) (k := 0) (q := q1) sc_9 encS_len rfl dc rfl rfl (Vw.get hwelems1 hq1) rfl dc rfl (TO.assign rfl dc rfl (TO.nil (TX.next (TC.ret (TX.blockRet (TX.thenRet ?_)))))))
   cases h
   exact TX.fin (rs := [.tmp 4]) () (.inl rfl) Try.results21 (.cons (.tmp rfl) .nil) rfl (Splits.of [0] kr rfl)
  ·
   have h := condF hb2 h
   refine TC.skip (TX.blockNormal (TX.next ?_))
   obtain ⟨j1, hj1, h⟩ := joinE h
   refine TC.cutN (β := Int) 1 rfl (fun b => j1 b = some r) (fun b => []) (fun b => [(0, velems1), (1, .string sep1), (5, .int .i64 b)]) (fun b => [vec encS 9 1 vvelems1 Lelems1]) (fun cut => ?_) ?_
   ·
    refine TC.seq (TC.region (TO.assign rfl dc rfl (TO.nil (TX.next (cut (TC.seq (TC.region (TO.move rfl dc rfl (TO.lenStr rfl dc rfl Try.underlying9 (TO.bin rfl dc rfl rfl bin_gtr (TO.nil (TX.next ?_))))))))))))
    refine TC.condB rfl (fun hb3 => ?_) (fun hb3 => ?_)
    ·
     have h := condT hb3 h
     refine TC.seq (TC.seq (TC.region (TO.move rfl dc rfl (TO.lenStr rfl dc rfl Try.underlying9 (TO.move rfl dc rfl (TO.lenVw hwelems1 rfl dc rfl Try.underlying25 ?_))))))
     obtain ⟨hg1, h⟩ := grdE h
     refine TO.bin rfl dc rfl rfl (bin_sub (r := (elems1.length : Int) - 1) (IntWalk.i64_in _ hg1)) ?_
     obtain ⟨hg2, h⟩ := grdE h
     obtain ⟨hg3, h⟩ := grdE h
     refine TO.bin rfl dc rfl rfl (bin_quo hg2 (IntWalk.i64_in _ hg3)) (TO.bin rfl dc rfl rfl bin_geq (TO.nil (TX.next ?_)))
     refine TC.condB rfl (fun hb4 => ?_) (fun hb4 => ?_)
     ·
      have h := condT hb4 h
      exact noneE h
     ·
      have h := condF hb4 h
      refine TC.skip (TX.next (TC.region (TO.move rfl dc rfl (TO.move rfl dc rfl (TO.lenStr rfl dc rfl Try.underlying9 (TO.move rfl dc rfl (TO.lenVw hwelems1 rfl dc rfl Try.underlying25 ?_)))))))
      obtain ⟨hg4, h⟩ := grdE h
      refine TO.bin rfl dc rfl rfl (bin_sub (r := (elems1.length : Int) - 1) (IntWalk.i64_in _ hg4)) ?_
      obtain ⟨hg5, h⟩ := grdE h
      refine TO.bin rfl dc rfl rfl (bin_mul (r := (sep1.size : Int) * ((elems1.length : Int) - 1)) (IntWalk.i64_in _ hg5)) ?_
      obtain ⟨hg6, h⟩ := grdE h
      refine TO.bin rfl dc rfl rfl (bin_add (r := 0 + ((sep1.size : Int) * ((elems1.length : Int) - 1))) (IntWalk.i64_in _ hg6)) (TO.assign rfl dc rfl (TO.nil ?_))
      exact TX.meetD (0 + ((sep1.size : Int) * ((elems1.length : Int) - 1))) h rfl (Sbs.cons rfl (Sbs.cons rfl (Sbs.cons rfl (Sbs.nil)))) (Splits.of [0] kr rfl)
    ·
     have h := condF hb3 h
     refine TC.skip ?_
     exact TX.meetD 0 h rfl (Sbs.cons rfl (Sbs.cons rfl (Sbs.cons rfl (Sbs.nil)))) (Splits.of [0] kr rfl)
   ·
    rintro n1 h
    rw [hj1] at h
    show TC _ _ _ _ _ ([]) _ _ [(0, velems1), (1, .string sep1), (5, .int .i64 n1)] [vec encS 9 1 vvelems1 Lelems1]
    obtain ⟨j2, hj2, h⟩ := joinE h
    refine TC.cutN (β := Int) 0 rfl (fun b => j2 b = some r) (fun b => []) (fun b => [(0, velems1), (1, .string sep1), (5, .int .i64 b)]) (fun b => [vec encS 9 1 vvelems1 Lelems1]) (fun cut => ?_) ?_
    ·
     refine cut (TC.seq (TC.region (TO.move rfl dc rfl (TO.lenVw hwelems1 rfl dc rfl Try.underlying25 (TO.move rfl dc rfl (TO.nil (TX.next (TC.block ?_))))))))
     refine TC.loopD (β := Nat × Int × Int) (fun b => loopG (fun _ _ => none) (strings_Join_s1 elems1 j2) b.1 b.2.1 b.2.2 = some r) (fun b => []) (fun b => [(0, velems1), (1, .string sep1), (5, .int .i64 b.2.1), (39, velems1), (40, .int .i64 (elems1.length : Int)), (41, .int .i64 b.2.2)]) (fun b => [vec encS 9 1 vvelems1 Lelems1]) (fun b => b.1) (fuel, n1, 0) h rfl (Sbs.cons rfl (Sbs.cons rfl (Sbs.cons rfl (Sbs.cons rfl (Sbs.cons rfl (Sbs.cons rfl (Sbs.nil))))))) (Splits.of [0] kr rfl) ?_
     rintro ⟨n6, n5, x3⟩ h
     cases n6 with
     | zero => exact noneE h
     | succ n6 =>
      obtain ⟨ag1, hag1⟩ : ∃ ag, ag = loopG (fun _ _ => none) (strings_Join_s1 elems1 j2) n6 := ⟨_, rfl⟩
      have h : strings_Join_s1 elems1 j2 ag1 n5 x3 = some r := by rw [hag1]; exact h
      unfold strings_Join_s1 at h
      show TC _ _ _ _ _ ([]) _ _ [(0, velems1), (1, .string sep1), (5, .int .i64 n5), (39, velems1), (40, .int .i64 (elems1.length : Int)), (41, .int .i64 x3)] [vec encS 9 1 vvelems1 Lelems1]
      refine TC.seq (TC.region (TO.bin rfl dc rfl rfl bin_lss (TO.nil (TX.next (TC.seq ?_)))))
      refine TC.condB rfl (fun hb5 => ?_) (fun hb5 => ?_)
      ·
       have h := condT hb5 h
       refine TC.skip (TX.next (TC.seq (TC.block (TC.seq (TC.region ?_)))))
       obtain ⟨q2, hq2, h⟩ := andE h
       refine TO.indexVw hwelems1 hq2 Try.underlying25 sz_9 rfl dc rfl rfl rfl (TO.loadVec (i := kelems1 + (x3 : Int).toNat) (j := 0) (k := 0) (q := q2) sc_9 encS_len rfl dc rfl rfl (Vw.get hwelems1 hq2) rfl dc rfl (TO.assign rfl dc rfl (TO.nil (TX.next (TC.seq (TC.seq (TC.region (TO.move rfl dc rfl (TO.lenStr rfl dc rfl Try.underlying9 (TO.move rfl dc rfl ?_))))))))))
       obtain ⟨hg7, h⟩ := grdE h
       refine TO.bin rfl dc rfl rfl (bin_sub (r := 9223372036854775807 - n5) (IntWalk.i64_in _ hg7)) (TO.bin rfl dc rfl rfl bin_gtr (TO.nil (TX.next ?_)))
       refine TC.condB rfl (fun hb6 => ?_) (fun hb6 => ?_)
       ·
        have h := condT hb6 h
        exact noneE h
       ·
        have h := condF hb6 h
        refine TC.skip (TX.next (TC.region (TO.move rfl dc rfl (TO.move rfl dc rfl (TO.lenStr rfl dc rfl Try.underlying9 ?_)))))
        obtain ⟨hg8, h⟩ := grdE h
        refine TO.bin rfl dc rfl rfl (bin_add (r := n5 + (q2.size : Int)) (IntWalk.i64_in _ hg8)) (TO.assign rfl dc rfl (TO.nil (TX.blockNormal (TX.next (TC.region ?_)))))
        obtain ⟨hg9, h⟩ := grdE h
        refine TO.bin rfl dc rfl rfl (bin_add (r := x3 + 1) (IntWalk.i64_in _ hg9)) (TO.move rfl dc rfl (TO.nil ?_))
        subst hag1
        exact TX.againD (n6, n5 + (q2.size : Int), x3 + 1) h (Nat.lt_succ_self _) rfl (Sbs.cons rfl (Sbs.cons rfl (Sbs.cons rfl (Sbs.cons rfl (Sbs.cons rfl (Sbs.cons rfl (Sbs.nil))))))) (Splits.of [0] kr rfl)
      ·
       have h := condF hb5 h
       refine TC.exit (TX.thenExit (TX.thenExit (TX.blockHere ?_)))
       exact TX.meetD n5 h rfl (Sbs.cons rfl (Sbs.cons rfl (Sbs.cons rfl (Sbs.nil)))) (Splits.of [0] kr rfl)
    ·
     rintro n2 h
     rw [hj2] at h
     show TC _ _ _ _ _ ([]) _ _ [(0, velems1), (1, .string sep1), (5, .int .i64 n2)] [vec encS 9 1 vvelems1 Lelems1]
     obtain ⟨j3, hj3, h⟩ := joinE h
     refine TC.cutN (β := ByteArray × Nat) 3 rfl (fun b => j3 b.1 = some r) (fun b => []) (fun b => [(8, .pointer (some ⟨b.2, 0, none⟩))]) (fun b => [vec encS 9 1 vvelems1 Lelems1, bldA b.2 b.1]) (fun cut => ?_) ?_
     ·
      refine TC.seq (TC.region ?_)
      refine TO.alloc zr_76 rfl dc (fun b3 => ?_)
      refine TO.nil (TX.next (TC.seq (TC.region (TO.move rfl dc rfl ?_))))
      obtain ⟨hg10, h⟩ := grdE h
      refine TO.call (vs := [.pointer (some ⟨b3, 0, none⟩), .int .i64 n2]) rfl dc rfl rfl rfl en_31 (grow_fn b3 n2 hg10.1 hg10.2) (Splits.of [1] kr rfl) ?_
      rintro _
      show TO _ _ _ _ _ _ _ _ _ _ [vec encS 9 1 vvelems1 Lelems1, emp, bldA b3 (⟨#[]⟩ : ByteArray)]
      refine TO.nil (TX.next (TC.seq (TC.region (TO.move rfl dc rfl ?_))))
      obtain ⟨q3, hq3, h⟩ := andE h
      refine TO.indexVw hwelems1 hq3 Try.underlying25 sz_9 rfl dc rfl rfl rfl (TO.loadVec (i := kelems1 + (0 : Int).toNat) (j := 0) (k := 0) (q := q3) sc_9 encS_len rfl dc rfl rfl (Vw.get hwelems1 hq3) rfl dc rfl ?_)
      obtain ⟨hg11, h⟩ := grdE h
      refine TO.call (vs := [.pointer (some ⟨b3, 0, none⟩), .string q3]) rfl dc rfl rfl rfl en_32 (wstr_fn b3 (⟨#[]⟩ : ByteArray) q3 hg11) (Splits.of [2] kr rfl) ?_
      rintro u1
      show TO _ _ _ _ _ _ _ _ _ _ [vec encS 9 1 vvelems1 Lelems1, emp, emp, bldA b3 ((⟨#[]⟩ : ByteArray) ++ q3)]
      refine TO.nil (TX.next (cut (TC.seq (TC.region (TO.move rfl dc rfl ?_)))))
      obtain ⟨hg12, h⟩ := grdE h
      obtain ⟨v1, hv1, hs1⟩ := slice_Vw (lo := some (.int .i64 1)) (hi := none) hwelems1 Try.underlying25 sz_9 (.inr rfl) (.inl ⟨rfl, rfl⟩) hg12
      refine TO.slice rfl dc rfl rfl rfl hs1 (TO.lenVw hv1 rfl dc rfl Try.underlying25 (TO.move rfl dc rfl (TO.nil (TX.next (TC.block ?_)))))
      refine TC.loopD (β := Nat × ByteArray × Int) (fun b => loopG (fun _ _ => none) (strings_Join_s2 elems1 sep1 j3) b.1 b.2.1 b.2.2 = some r) (fun b => []) (fun b => [(1, .string sep1), (8, .pointer (some ⟨b3, 0, none⟩)), (63, v1), (64, .int .i64 ((cutL elems1 1 (elems1.length : Int)).length : Int)), (65, .int .i64 b.2.2)]) (fun b => [vec encS 9 1 vvelems1 Lelems1, bldA b3 b.2.1]) (fun b => b.1) (fuel, (⟨#[]⟩ : ByteArray) ++ q3, 0) h rfl (Sbs.cons rfl (Sbs.cons rfl (Sbs.cons rfl (Sbs.cons rfl (Sbs.cons rfl (Sbs.nil)))))) (Splits.of [0, 3] kr rfl) ?_
      rintro ⟨n7, b6, x6⟩ h
      cases n7 with
      | zero => exact noneE h
      | succ n7 =>
       obtain ⟨ag2, hag2⟩ : ∃ ag, ag = loopG (fun _ _ => none) (strings_Join_s2 elems1 sep1 j3) n7 := ⟨_, rfl⟩
       have h : strings_Join_s2 elems1 sep1 j3 ag2 b6 x6 = some r := by rw [hag2]; exact h
       unfold strings_Join_s2 at h
       show TC _ _ _ _ _ ([]) _ _ [(1, .string sep1), (8, .pointer (some ⟨b3, 0, none⟩)), (63, v1), (64, .int .i64 ((cutL elems1 1 (elems1.length : Int)).length : Int)), (65, .int .i64 x6)] [vec encS 9 1 vvelems1 Lelems1, bldA b3 b6]
       refine TC.seq (TC.region (TO.bin rfl dc rfl rfl bin_lss (TO.nil (TX.next (TC.seq ?_)))))
       refine TC.condB rfl (fun hb7 => ?_) (fun hb7 => ?_)
       ·
        have h := condT hb7 h
        refine TC.skip (TX.next (TC.seq (TC.block (TC.seq (TC.region ?_)))))
        obtain ⟨q4, hq4, h⟩ := andE h
        refine TO.indexVw hv1 hq4 Try.underlying25 sz_9 rfl dc rfl rfl rfl (TO.loadVec (i := kelems1 + (1 : Int).toNat + (x6 : Int).toNat) (j := 0) (k := 0) (q := q4) sc_9 encS_len rfl dc rfl rfl (Vw.get hv1 hq4) rfl dc rfl (TO.assign rfl dc rfl (TO.nil (TX.next (TC.seq (TC.region (TO.move rfl dc rfl ?_)))))))
        obtain ⟨hg13, h⟩ := grdE h
        refine TO.call (vs := [.pointer (some ⟨b3, 0, none⟩), .string sep1]) rfl dc rfl rfl rfl en_32 (wstr_fn b3 b6 sep1 hg13) (Splits.of [1] kr rfl) ?_
        rintro u2
        show TO _ _ _ _ _ _ _ _ _ _ [vec encS 9 1 vvelems1 Lelems1, emp, bldA b3 (b6 ++ sep1)]
        refine TO.nil (TX.next (TC.region (TO.move rfl dc rfl ?_)))
        obtain ⟨hg14, h⟩ := grdE h
        refine TO.call (vs := [.pointer (some ⟨b3, 0, none⟩), .string q4]) rfl dc rfl rfl rfl en_32 (wstr_fn b3 (b6 ++ sep1) q4 hg14) (Splits.of [2] kr rfl) ?_
        rintro u3
        show TO _ _ _ _ _ _ _ _ _ _ [vec encS 9 1 vvelems1 Lelems1, emp, emp, bldA b3 ((b6 ++ sep1) ++ q4)]
        refine TO.nil (TX.blockNormal (TX.next (TC.region ?_)))
        obtain ⟨hg15, h⟩ := grdE h
        refine TO.bin rfl dc rfl rfl (bin_add (r := x6 + 1) (IntWalk.i64_in _ hg15)) (TO.move rfl dc rfl (TO.nil ?_))
        subst hag2
        exact TX.againD (n7, (b6 ++ sep1) ++ q4, x6 + 1) h (Nat.lt_succ_self _) rfl (Sbs.cons rfl (Sbs.cons rfl (Sbs.cons rfl (Sbs.cons rfl (Sbs.cons rfl (Sbs.nil)))))) (Splits.of [0, 3] kr rfl)
       ·
        have h := condF hb7 h
        refine TC.exit (TX.thenExit (TX.thenExit (TX.blockHere ?_)))
        exact TX.meetD (b6, b3) h rfl (Sbs.cons rfl (Sbs.nil)) (Splits.of [0, 1] kr rfl)
     ·
      rintro ⟨b2, b1⟩ h
      rw [hj3] at h
      show TC _ _ _ _ _ ([]) _ _ [(8, .pointer (some ⟨b1, 0, none⟩))] [vec encS 9 1 vvelems1 Lelems1, bldA b1 b2]
      refine TC.seq (TC.region (TO.call (vs := [.pointer (some ⟨b1, 0, none⟩)]) rfl dc rfl rfl rfl en_33 (bstr_fn b1 b2) (Splits.of [1] kr rfl) ?_))
      rintro _
      show TO _ _ _ _ _ _ _ _ _ _ [vec encS 9 1 vvelems1 Lelems1, emp]
      refine TO.assign rfl dc rfl (TO.nil (TX.next (TC.ret ?_)))
      cases h
      exact TX.fin (rs := [.tmp 4]) () (.inl rfl) Try.results21 (.cons (.tmp rfl) .nil) rfl (Splits.of [0] kr rfl)
end Go.Proofs.Ytnhdnpdbmgeheaa
