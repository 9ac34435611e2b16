/-
  Texts laid together: LqI, PqI, PqJ, PqK, LqJ, LqK, PlPoemReads. Nothing is assumed.
-/
import Derived.Test.YtgfkogafkhbgnaaDoorPoemReads5
import Derived.Test.YtgfkogafkhbgnaaDoorPoemReads4
namespace Go.Proofs.YtgfkogafkhbgnaaDoor
open Go.RowKit Go.Lib
set_option linter.unusedVariables false
set_option linter.unusedSimpArgs false
def law17_works_v  : Option Bool :=
andThen (poem_Read_v (⟨#[35, 32, 65, 32, 115, 111, 110, 103, 10, 10, 111, 110, 101, 10, 32, 32, 116, 119, 111, 32, 10, 32, 10, 255, 116, 104, 114, 101, 101, 10, 102, 111, 117, 114, 10]⟩ : ByteArray)) fun (r1 : ((Option Gpoem_Poem) × Gapi_Spot)) =>
bcond (!(eq_Gapi_Spot r1.2 (⟨0, 0⟩ : Gapi_Spot))) (
some false
) (
andThen (r1.1) fun (p1 : Gpoem_Poem) =>
andThen (poem_Poem_Lines_v p1) fun (r2 : Int) =>
bcond ((r2 : Int) != 4) (
some false
) (
andThen (poem_Poem_Stanzas_v p1) fun (r3 : Int) =>
bcond ((r3 : Int) != 2) (
some false
) (
andThen (poem_Poem_Title_v p1) fun (r4 : ByteArray) =>
bcond (!decide (r4 = (⟨#[65, 32, 115, 111, 110, 103]⟩ : ByteArray))) (
some false
) (
andThen (poem_Poem_Set_v p1 1 (⟨#[120]⟩ : ByteArray)) fun (r5 : ((Option Gpoem_Poem) × Int)) =>
bcond ((r5.2 : Int) == 0) (
andThen (r5.1) fun (p2 : Gpoem_Poem) =>
andThen (poem_Poem_Print_v p2) fun (r6 : ByteArray) =>
bcond (decide (r6 = (⟨#[35, 32, 65, 32, 115, 111, 110, 103, 10, 10, 111, 110, 101, 10, 120, 10, 10, 255, 116, 104, 114, 101, 101, 10, 102, 111, 117, 114, 10]⟩ : ByteArray))) (
andThen (poem_Poem_Same_v p2 p1) fun (r7 : Bool) =>
bcond (!r7) (
andThen (poem_Poem_Same_v p1 p1) fun (r8 : Bool) =>
some r8
) (
some false
)
) (
some false
)
) (
some false
)
)
)
)
)
set_option maxRecDepth 100000 in
set_option maxHeartbeats 4000000 in
theorem law17_works_fn  {r : Bool} (h : law17_works_v = some r) : FnP Tryd.prog 12 [] (.bool r) := by
 unfold law17_works_v at h
 refine FnP.intro Tryd.func12 rfl Tryd.ntmps12 (by simp) ?_
 intro w0 K
 refine TC.seq (TC.region (TO.assign rfl dc rfl (TO.nil (TX.next (TC.seq (TC.region ?_))))))
 obtain ⟨r1, hq1, h⟩ := andE h
 refine TO.call (vs := [.string (⟨#[35, 32, 65, 32, 115, 111, 110, 103, 10, 10, 111, 110, 101, 10, 32, 32, 116, 119, 111, 32, 10, 32, 10, 255, 116, 104, 114, 101, 101, 10, 102, 111, 117, 114, 10]⟩ : ByteArray)]) rfl dc rfl rfl rfl en_13 (poem_Read_fn hq1) Splits.nil ?_
 rintro v1
 show TO _ _ _ _ _ _ _ _ _ _ [pobj encN_Gpoem_Poem nest_Gpoem_Poem 93 v1 r1.1]
 refine TO.weakenL (L' := [pobj encN_Gpoem_Poem nest_Gpoem_Poem 93 v1 r1.1]) (Splits.of [0] kr rfl) (TO.move rfl dc rfl (TO.extract rfl dc rfl rfl (TO.extract rfl dc rfl rfl ?_)))
 refine TO.alloc zr_26 rfl dc (fun b1 => ?_)
 refine TO.assign rfl dc rfl (TO.stores (k := 1) (vs := [.int .i64 r1.2.Err, .int .i64 r1.2.At]) (l' := [.int .i64 r1.2.Err, .int .i64 r1.2.At]) sz_26 rfl rfl rfl rfl rfl (show _ ≤ _ by simp) rfl rfl ?_)
 show TO _ _ _ _ _ _ _ _ _ _ [pobj encN_Gpoem_Poem nest_Gpoem_Poem 93 v1 r1.1, cells b1 [.int .i64 r1.2.Err, .int .i64 r1.2.At] 26]
 refine TO.nil (TX.next (TC.seq (TC.seq (TC.region (TO.loads (k := 1) (cs := [.int .i64 r1.2.Err, .int .i64 r1.2.At]) rw_26 rfl dc rfl rfl rfl rfl ?_)))))
 refine TO.build (v := .agg #[.int .i64 0, .int .i64 0]) (ps := []) rfl dc rfl (fun _ => by kernel_rfl) ?_
 refine TO.bin rfl dc rfl rfl (bin_neq_26 r1.2 (⟨0, 0⟩ : Gapi_Spot)) (TO.move rfl dc rfl ?_)
 refine TO.split (s := 12) rfl (fun hb1 => ?_) (fun hb1 => ?_)
 ·
  have h := condT hb1 h
  refine TO.skip rfl dc (TO.skip rfl dc (TO.skip rfl dc (TO.pick (b := true) rfl dc rfl rfl (TO.move rfl dc rfl (TO.skip rfl dc (TO.skip rfl dc (TO.skip rfl dc (TO.pick (b := true) rfl dc rfl rfl (TO.move rfl dc rfl (TO.skip rfl dc (TO.skip rfl dc (TO.skip rfl dc (TO.pick (b := true) rfl dc rfl rfl ?_)))))))))))))
  refine TO.nil (TX.next (TC.condT rfl (TC.seq (TC.region (TO.assign rfl dc rfl (TO.nil (TX.next (TC.ret (TX.thenRet ?_)))))))))
  cases h
  exact TX.fin (rs := [.tmp 0]) () (.inl rfl) Tryd.results12 (.cons (.tmp rfl) .nil) rfl Splits.nil
 ·
  have h := condF hb1 h
  refine TO.move rfl dc rfl ?_
  obtain ⟨p1, hq2, h⟩ := andE h
  refine TO.entl (As := [pobj encN_Gpoem_Poem nest_Gpoem_Poem 93 v1 r1.1]) (Splits.of [0] kr rfl) (Entl.objOpen hq2) ?_
  rintro ⟨b2, hd1, hd2⟩ hv1
  subst hv1
  show TO _ _ _ _ _ _ _ _ _ _ [emp, cells b1 [.int .i64 r1.2.Err, .int .i64 r1.2.At] 26, cells b2 [.string p1.told_title, hd1.v, hd2.v, .string p1.source] 93, vec enc_Gapi_Verse 36 6 hd1.v p1.told_lines, vec enc_Gapi_Span 34 2 hd2.v p1.told_stanzas]
  obtain ⟨r2, hq3, h⟩ := andE h
  refine TO.callPR (v := .int .i64 r2) (vs := [.pointer (some ⟨b2, 0, none⟩)]) (Rd.nil : Rd _ _ []) rfl dc rfl rfl rfl en_21 (poem_Poem_Lines_fn (bp1 := b2) (p1 := p1) (p1_h0 := hd1) (p1_h1 := hd2) hq3) (.own (Splits.of [2] (by kernel_rfl) rfl) (fun _ _ h => sepL.one1.1 h) (.own (Splits.of [3] (by kernel_rfl) rfl) (fun _ _ h => sepL.one1.1 h) (.own (Splits.of [4] (by kernel_rfl) rfl) (fun _ _ h => sepL.one1.1 h) .nil))) ?_
  refine TO.bin rfl dc rfl rfl bin_neq (TO.pick (b := false) rfl dc rfl rfl (TO.move rfl dc rfl ?_))
  refine TO.split (s := 17) rfl (fun hb2 => ?_) (fun hb2 => ?_)
  ·
   have h := condT hb2 h
   refine TO.skip rfl dc (TO.skip rfl dc (TO.skip rfl dc (TO.pick (b := true) rfl dc rfl rfl (TO.move rfl dc rfl (TO.skip rfl dc (TO.skip rfl dc (TO.skip rfl dc (TO.pick (b := true) rfl dc rfl rfl (TO.nil (TX.next (TC.condT rfl (TC.seq (TC.region ?_)))))))))))))
   refine TO.assign rfl dc rfl (TO.nil (TX.next (TC.ret (TX.thenRet ?_))))
   cases h
   exact TX.fin (rs := [.tmp 0]) () (.inl rfl) Tryd.results12 (.cons (.tmp rfl) .nil) rfl Splits.nil
  ·
   have h := condF hb2 h
   refine TO.move rfl dc rfl ?_
   obtain ⟨r3, hq4, h⟩ := andE h
   refine TO.callPR (v := .int .i64 r3) (vs := [.pointer (some ⟨b2, 0, none⟩)]) (Rd.nil : Rd _ _ []) rfl dc rfl rfl rfl en_23 (poem_Poem_Stanzas_fn (bp1 := b2) (p1 := p1) (p1_h0 := hd1) (p1_h1 := hd2) hq4) (.own (Splits.of [2] (by kernel_rfl) rfl) (fun _ _ h => sepL.one1.1 h) (.own (Splits.of [3] (by kernel_rfl) rfl) (fun _ _ h => sepL.one1.1 h) (.own (Splits.of [4] (by kernel_rfl) rfl) (fun _ _ h => sepL.one1.1 h) .nil))) ?_
   refine TO.bin rfl dc rfl rfl bin_neq (TO.pick (b := false) rfl dc rfl rfl (TO.move rfl dc rfl ?_))
   refine TO.split (s := 22) rfl (fun hb3 => ?_) (fun hb3 => ?_)
   ·
    have h := condT hb3 h
    refine TO.skip rfl dc (TO.skip rfl dc (TO.skip rfl dc (TO.pick (b := true) rfl dc rfl rfl (TO.nil (TX.next (TC.condT rfl (TC.seq (TC.region (TO.assign rfl dc rfl (TO.nil (TX.next (TC.ret (TX.thenRet ?_)))))))))))))
    cases h
    exact TX.fin (rs := [.tmp 0]) () (.inl rfl) Tryd.results12 (.cons (.tmp rfl) .nil) rfl Splits.nil
   ·
    have h := condF hb3 h
    refine TO.move rfl dc rfl ?_
    obtain ⟨r4, hq5, h⟩ := andE h
    refine TO.callPR (v := .string r4) (vs := [.pointer (some ⟨b2, 0, none⟩)]) (Rd.nil : Rd _ _ []) rfl dc rfl rfl rfl en_24 (poem_Poem_Title_fn (bp1 := b2) (p1 := p1) (p1_h0 := hd1) (p1_h1 := hd2) hq5) (.own (Splits.of [2] (by kernel_rfl) rfl) (fun _ _ h => sepL.one1.1 h) (.own (Splits.of [3] (by kernel_rfl) rfl) (fun _ _ h => sepL.one1.1 h) (.own (Splits.of [4] (by kernel_rfl) rfl) (fun _ _ h => sepL.one1.1 h) .nil))) ?_
    refine TO.bin rfl dc rfl rfl bin_sneq (TO.pick (b := false) rfl dc rfl rfl (TO.nil (TX.next ?_)))
    refine TC.condB rfl (fun hb4 => ?_) (fun hb4 => ?_)
    ·
     have h := condT hb4 h
     refine TC.seq (TC.region (TO.assign rfl dc rfl (TO.nil (TX.next (TC.ret (TX.thenRet ?_))))))
     cases h
     exact TX.fin (rs := [.tmp 0]) () (.inl rfl) Tryd.results12 (.cons (.tmp rfl) .nil) rfl Splits.nil
    ·
     have h := condF hb4 h
     refine TC.skip (TX.next (TC.seq (TC.region (TO.move rfl dc rfl ?_))))
     obtain ⟨r5, hq6, h⟩ := andE h
     refine TO.callR (vs := [.pointer (some ⟨b2, 0, none⟩), .int .i64 1, .string (⟨#[120]⟩ : ByteArray)]) (Rd.nil : Rd _ _ []) rfl dc rfl rfl rfl en_29 (poem_Poem_Set_fn (bp1 := b2) (p1 := p1) (p1_h0 := hd1) (p1_h1 := hd2) hq6) Splits.nil (.own (Splits.of [2] (by kernel_rfl) rfl) (fun _ _ h => sepL.one1.1 h) (.own (Splits.of [3] (by kernel_rfl) rfl) (fun _ _ h => sepL.one1.1 h) (.own (Splits.of [4] (by kernel_rfl) rfl) (fun _ _ h => sepL.one1.1 h) .nil))) ?_
     rintro v2
     show TO _ _ _ _ _ _ _ _ _ _ [emp, cells b1 [.int .i64 r1.2.Err, .int .i64 r1.2.At] 26, cells b2 [.string p1.told_title, hd1.v, hd2.v, .string p1.source] 93, vec enc_Gapi_Verse 36 6 hd1.v p1.told_lines, vec enc_Gapi_Span 34 2 hd2.v p1.told_stanzas, pobj encN_Gpoem_Poem nest_Gpoem_Poem 93 v2 r5.1]
     refine TO.weakenL (L' := [emp, cells b1 [.int .i64 r1.2.Err, .int .i64 r1.2.At] 26, cells b2 [.string p1.told_title, hd1.v, hd2.v, .string p1.source] 93, vec enc_Gapi_Verse 36 6 hd1.v p1.told_lines, vec enc_Gapi_Span 34 2 hd2.v p1.told_stanzas, pobj encN_Gpoem_Poem nest_Gpoem_Poem 93 v2 r5.1]) (Splits.of [0, 1, 2, 3, 4, 5] kr rfl) (TO.move rfl dc rfl (TO.extract rfl dc rfl rfl (TO.extract rfl dc rfl rfl (TO.assign rfl dc rfl (TO.assign rfl dc rfl (TO.nil (TX.next (TC.seq (TC.region (TO.move rfl dc rfl (TO.bin rfl dc rfl rfl bin_eql (TO.move rfl dc rfl ?_))))))))))))
     refine TO.split (s := 34) rfl (fun hb5 => ?_) (fun hb5 => ?_)
     ·
      have h := condT hb5 h
      refine TO.move rfl dc rfl ?_
      obtain ⟨p2, hq7, h⟩ := andE h
      refine TO.entl (As := [pobj encN_Gpoem_Poem nest_Gpoem_Poem 93 v2 r5.1]) (Splits.of [5] kr rfl) (Entl.objOpen hq7) ?_
      rintro ⟨b3, hd3, hd4⟩ hv2
      subst hv2
      show TO _ _ _ _ _ _ _ _ _ _ [emp, cells b1 [.int .i64 r1.2.Err, .int .i64 r1.2.At] 26, cells b2 [.string p1.told_title, hd1.v, hd2.v, .string p1.source] 93, vec enc_Gapi_Verse 36 6 hd1.v p1.told_lines, vec enc_Gapi_Span 34 2 hd2.v p1.told_stanzas, emp, cells b3 [.string p2.told_title, hd3.v, hd4.v, .string p2.source] 93, vec enc_Gapi_Verse 36 6 hd3.v p2.told_lines, vec enc_Gapi_Span 34 2 hd4.v p2.told_stanzas]
      obtain ⟨r6, hq8, h⟩ := andE h
      refine TO.callPR (v := .string r6) (vs := [.pointer (some ⟨b3, 0, none⟩)]) (Rd.nil : Rd _ _ []) rfl dc rfl rfl rfl en_18 (poem_Poem_Print_fn (bp1 := b3) (p1 := p2) (p1_h0 := hd3) (p1_h1 := hd4) hq8) (.own (Splits.of [6] (by kernel_rfl) rfl) (fun _ _ h => sepL.one1.1 h) (.own (Splits.of [7] (by kernel_rfl) rfl) (fun _ _ h => sepL.one1.1 h) (.own (Splits.of [8] (by kernel_rfl) rfl) (fun _ _ h => sepL.one1.1 h) .nil))) ?_
      refine TO.bin rfl dc rfl rfl bin_seql (TO.pick (b := true) rfl dc rfl rfl (TO.move rfl dc rfl ?_))
      refine TO.split (s := 39) rfl (fun hb6 => ?_) (fun hb6 => ?_)
      ·
       have h := condT hb6 h
       refine TO.move rfl dc rfl (TO.move rfl dc rfl ?_)
       obtain ⟨r7, hq9, h⟩ := andE h
       refine TO.callPR (v := .bool r7) (vs := [.pointer (some ⟨b3, 0, none⟩), .pointer (some ⟨b2, 0, none⟩)]) (Rd.nil : Rd _ _ []) rfl dc rfl rfl rfl en_19 (poem_Poem_Same_fn (bp1 := b3) (p1 := p2) (p1_h0 := hd3) (p1_h1 := hd4) (bq1 := b2) (q1 := p1) (q1_h0 := hd1) (q1_h1 := hd2) hq9) (.own (Splits.of [6] (by kernel_rfl) rfl) (fun _ _ h => sepL.one1.1 h) (.own (Splits.of [7] (by kernel_rfl) rfl) (fun _ _ h => sepL.one1.1 h) (.own (Splits.of [8] (by kernel_rfl) rfl) (fun _ _ h => sepL.one1.1 h) (.own (Splits.of [2] (by kernel_rfl) rfl) (fun _ _ h => sepL.one1.1 h) (.own (Splits.of [3] (by kernel_rfl) rfl) (fun _ _ h => sepL.one1.1 h) (.own (Splits.of [4] (by kernel_rfl) rfl) (fun _ _ h => sepL.one1.1 h) .nil)))))) ?_
       refine TO.un rfl dc rfl un_not (TO.pick (b := true) rfl dc rfl rfl (TO.move rfl dc rfl ?_))
       refine TO.split (s := 45) rfl (fun hb7 => ?_) (fun hb7 => ?_)
       ·
        have h := condT hb7 h
        refine TO.move rfl dc rfl (TO.move rfl dc rfl ?_)
        obtain ⟨r8, hq10, h⟩ := andE h
        refine TO.callPR (v := .bool r8) (vs := [.pointer (some ⟨b2, 0, none⟩), .pointer (some ⟨b2, 0, none⟩)]) (Rd.nil : Rd _ _ []) rfl dc rfl rfl rfl en_19 (poem_Poem_Same_fn (bp1 := b2) (p1 := p1) (p1_h0 := hd1) (p1_h1 := hd2) (bq1 := b2) (q1 := p1) (q1_h0 := hd1) (q1_h1 := hd2) hq10) (.own (Splits.of [2] (by kernel_rfl) rfl) (fun _ _ h => sepL.one1.1 h) (.own (Splits.of [3] (by kernel_rfl) rfl) (fun _ _ h => sepL.one1.1 h) (.own (Splits.of [4] (by kernel_rfl) rfl) (fun _ _ h => sepL.one1.1 h) (.own (Splits.of [2] (by kernel_rfl) rfl) (fun _ _ h => sepL.one1.1 h) (.own (Splits.of [3] (by kernel_rfl) rfl) (fun _ _ h => sepL.one1.1 h) (.own (Splits.of [4] (by kernel_rfl) rfl) (fun _ _ h => sepL.one1.1 h) .nil)))))) ?_
        refine TO.pick (b := true) rfl dc rfl rfl (TO.assign rfl dc rfl (TO.nil (TX.next (TC.ret ?_))))
        cases h
        exact TX.fin (rs := [.tmp 0]) () (.inl rfl) Tryd.results12 (.cons (.tmp rfl) .nil) rfl Splits.nil
       ·
        have h := condF hb7 h
        refine TO.skip rfl dc (TO.skip rfl dc (TO.skip rfl dc (TO.pick (b := false) rfl dc rfl rfl (TO.assign rfl dc rfl (TO.nil (TX.next (TC.ret ?_)))))))
        cases h
        exact TX.fin (rs := [.tmp 0]) () (.inl rfl) Tryd.results12 (.cons (.tmp rfl) .nil) rfl Splits.nil
      ·
       have h := condF hb6 h
       refine TO.skip rfl dc (TO.skip rfl dc (TO.skip rfl dc (TO.skip rfl dc (TO.pick (b := false) rfl dc rfl rfl (TO.move rfl dc rfl (TO.skip rfl dc (TO.skip rfl dc (TO.skip rfl dc (TO.pick (b := false) rfl dc rfl rfl (TO.assign rfl dc rfl (TO.nil (TX.next (TC.ret ?_)))))))))))))
       cases h
       exact TX.fin (rs := [.tmp 0]) () (.inl rfl) Tryd.results12 (.cons (.tmp rfl) .nil) rfl Splits.nil
     ·
      have h := condF hb5 h
      refine TO.skip rfl dc (TO.skip rfl dc (TO.skip rfl dc (TO.pick (b := false) rfl dc rfl rfl (TO.move rfl dc rfl (TO.skip rfl dc (TO.skip rfl dc (TO.skip rfl dc (TO.skip rfl dc (TO.pick (b := false) rfl dc rfl rfl (TO.move rfl dc rfl (TO.skip rfl dc (TO.skip rfl dc (TO.skip rfl dc ?_)))))))))))))
      refine TO.pick (b := false) rfl dc rfl rfl (TO.assign rfl dc rfl (TO.nil (TX.next (TC.ret ?_))))
      cases h
      exact TX.fin (rs := [.tmp 0]) () (.inl rfl) Tryd.results12 (.cons (.tmp rfl) .nil) rfl Splits.nil
def law17_is_nil_v (source1 : ByteArray) (wv1 : Gref17_Poem) (l1 : List Gapi_Verse) : Option Bool :=
some false
set_option maxRecDepth 100000 in
set_option maxHeartbeats 4000000 in
theorem law17_is_nil_fn {source1 : ByteArray} {wv1 : Gref17_Poem} {wv1_h0 : Hd} {vvwv10 : Value} {kwv10 : Nat} {Zwv10 zwv10 : List ((List ByteArray) × Hd)} (hwwv10 : Vw vvwv10 Zwv10 1 kwv10 wv1_h0.v zwv10) (hzwv10 : zwv10.map Prod.fst = wv1.Stanzas) {vvl1 vl1 : Value} {Ll1 : List Gapi_Verse} {kl1 : Nat} {l1 : List Gapi_Verse} (hwl1 : Vw vvl1 Ll1 6 kl1 vl1 l1) {r : Bool} (h : law17_is_nil_v source1 wv1 l1 = some r) : FnR Tryd.prog 31 [.pointer none, .string source1, .agg #[.string wv1.Title, wv1_h0.v], vl1] [roRow encN_T_string 1 vvwv10 kwv10 Zwv10, rdOwn nestR_T_string Zwv10, roRow enc_Gapi_Verse 6 vvl1 kl1 Ll1] [] (fun _ : Unit => (.bool r)) (fun _ => []) := by
 unfold law17_is_nil_v at h
 refine FnR.intro Tryd.func31 rfl Tryd.ntmps31 (by simp) ?_
 intro w0 K hrd
 refine TC.star0 ?_
 show TC _ _ _ _ _ _ _ _ _ [star ((([] : List Nat) : List Nat).map mark)]
 refine TC.seq (TC.region ?_)
 refine TO.box rfl dc rfl (fun b1 => ?_)
 refine TO.box rfl dc rfl (fun b2 => ?_)
 show TO _ _ _ _ _ _ _ _ _ _ [star ((([] : List Nat) : List Nat).map mark), cells b1 [.pointer none] 23, cells b2 [.string wv1.Title, wv1_h0.v] 56]
 refine TO.box1 (fun _ _ => Vw.one hwl1) rfl dc rfl (fun b3 => ?_)
 refine TO.alloc zr_4 rfl dc (fun b4 => ?_)
 show TO _ _ _ _ _ _ _ _ _ _ [star ((([] : List Nat) : List Nat).map mark), cells b1 [.pointer none] 23, cells b2 [.string wv1.Title, wv1_h0.v] 56, cells b3 [vl1] 57, cells b4 [.bool false] 4]
 refine TO.nil (TX.next (TC.seq (TC.seq ?_)))
 refine TC.drawN 34 [(0, 27, .pointer none), (1, 28, .bool true), (2, 29, .bool true), (3, 30, undef), (4, 31, undef), (5, 32, undef), (6, 33, undef), (7, 34, .bool true), (8, 35, .bool true), (9, 36, undef), (10, 37, undef), (11, 38, undef), (12, 39, undef), (13, 40, undef), (14, 41, .bool true), (15, 42, .bool true), (16, 43, undef), (17, 44, undef), (18, 45, undef), (19, 46, undef), (20, 47, undef), (21, 48, .bool true), (22, 49, .bool true), (23, 50, undef), (24, 51, undef), (25, 52, undef), (26, 53, undef), (27, 54, undef), (28, 55, undef), (29, 56, .bool true), (30, 57, .bool true), (31, 58, undef), (32, 59, undef), (33, 60, undef)] mixed kr kr dc (by rfl) kr kr (DrawPre.cons ?_ (DrawPre.cons ?_ (DrawPre.cons ?_ (DrawPre.cons ?_ (DrawPre.cons ?_ (DrawPre.cons ?_ (DrawPre.cons ?_ (DrawPre.cons ?_ (DrawPre.cons ?_ (DrawPre.cons ?_ (DrawPre.cons ?_ (DrawPre.cons ?_ (DrawPre.cons ?_ (DrawPre.cons ?_ (DrawPre.cons ?_ (DrawPre.cons ?_ (DrawPre.cons ?_ (DrawPre.cons ?_ (DrawPre.cons ?_ (DrawPre.cons ?_ (DrawPre.cons ?_ (DrawPre.cons ?_ (DrawPre.cons ?_ (DrawPre.cons ?_ (DrawPre.cons ?_ (DrawPre.cons ?_ (DrawPre.cons ?_ (DrawPre.cons ?_ (DrawPre.cons ?_ (DrawPre.cons ?_ (DrawPre.cons ?_ (DrawPre.cons ?_ (DrawPre.cons ?_ (DrawPre.cons ?_ DrawPre.nil)))))))))))))))))))))))))))))))))) ?_
 ·
  intro D hn hd hcl hu hi
  refine TO.load (k := 1) sc_23 rfl dc (dl_old (by rfl) rfl) rfl rfl ?_
  exact TX.quiet 0 hu hi rfl
 ·
  intro D hn hd hcl hu hi
  refine TO.bin rfl dc (dl_lookup (m := 0) hu rfl (hd 0 dc)) rfl (bin_objeql (m := (none : Option Unit)) Tryd.underlying23 (.inl ⟨rfl, rfl⟩)) ?_
  exact TX.quiet 1 hu hi rfl
 ·
  intro D hn hd hcl hu hi
  refine TO.move rfl dc (dl_lookup (m := 1) hu rfl (hd 1 dc)) ?_
  exact TX.quiet 2 hu hi rfl
 ·
  intro D hn hd hcl hu hi
  refine TO.skip (gd_F rfl (dl_lookup (m := 2) hu rfl (hd 2 dc))) dc ?_
  exact TX.quiet 3 hu hi rfl
 ·
  intro D hn hd hcl hu hi
  refine TO.skip (gd_F rfl (dl_lookup (m := 2) hu rfl (hd 2 dc))) dc ?_
  exact TX.quiet 4 hu hi rfl
 ·
  intro D hn hd hcl hu hi
  refine TO.skip (gd_F rfl (dl_lookup (m := 2) hu rfl (hd 2 dc))) dc ?_
  exact TX.quiet 5 hu hi rfl
 ·
  intro D hn hd hcl hu hi
  refine TO.skip (gd_F rfl (dl_lookup (m := 2) hu rfl (hd 2 dc))) dc ?_
  exact TX.quiet 6 hu hi rfl
 ·
  intro D hn hd hcl hu hi
  refine TO.pick (b := true) rfl dc (dl_lookup (m := 2) hu rfl (hd 2 dc)) rfl ?_
  exact TX.quiet 7 hu hi rfl
 ·
  intro D hn hd hcl hu hi
  refine TO.move rfl dc (dl_lookup (m := 7) hu rfl (hd 7 dc)) ?_
  exact TX.quiet 8 hu hi rfl
 ·
  intro D hn hd hcl hu hi
  refine TO.skip (gd_F rfl (dl_lookup (m := 8) hu rfl (hd 8 dc))) dc ?_
  exact TX.quiet 9 hu hi rfl
 ·
  intro D hn hd hcl hu hi
  refine TO.skip (gd_F rfl (dl_lookup (m := 8) hu rfl (hd 8 dc))) dc ?_
  exact TX.quiet 10 hu hi rfl
 ·
  intro D hn hd hcl hu hi
  refine TO.skip (gd_F rfl (dl_lookup (m := 8) hu rfl (hd 8 dc))) dc ?_
  exact TX.quiet 11 hu hi rfl
 ·
  intro D hn hd hcl hu hi
  refine TO.skip (gd_F rfl (dl_lookup (m := 8) hu rfl (hd 8 dc))) dc ?_
  exact TX.quiet 12 hu hi rfl
 ·
  intro D hn hd hcl hu hi
  refine TO.skip (gd_F rfl (dl_lookup (m := 8) hu rfl (hd 8 dc))) dc ?_
  exact TX.quiet 13 hu hi rfl
 ·
  intro D hn hd hcl hu hi
  refine TO.pick (b := true) rfl dc (dl_lookup (m := 8) hu rfl (hd 8 dc)) rfl ?_
  exact TX.quiet 14 hu hi rfl
 ·
  intro D hn hd hcl hu hi
  refine TO.move rfl dc (dl_lookup (m := 14) hu rfl (hd 14 dc)) ?_
  exact TX.quiet 15 hu hi rfl
 ·
  intro D hn hd hcl hu hi
  refine TO.skip (gd_F rfl (dl_lookup (m := 15) hu rfl (hd 15 dc))) dc ?_
  exact TX.quiet 16 hu hi rfl
 ·
  intro D hn hd hcl hu hi
  refine TO.skip (gd_F rfl (dl_lookup (m := 15) hu rfl (hd 15 dc))) dc ?_
  exact TX.quiet 17 hu hi rfl
 ·
  intro D hn hd hcl hu hi
  refine TO.skip (gd_F rfl (dl_lookup (m := 15) hu rfl (hd 15 dc))) dc ?_
  exact TX.quiet 18 hu hi rfl
 ·
  intro D hn hd hcl hu hi
  refine TO.skip (gd_F rfl (dl_lookup (m := 15) hu rfl (hd 15 dc))) dc ?_
  exact TX.quiet 19 hu hi rfl
 ·
  intro D hn hd hcl hu hi
  refine TO.skip (gd_F rfl (dl_lookup (m := 15) hu rfl (hd 15 dc))) dc ?_
  exact TX.quiet 20 hu hi rfl
 ·
  intro D hn hd hcl hu hi
  refine TO.pick (b := true) rfl dc (dl_lookup (m := 15) hu rfl (hd 15 dc)) rfl ?_
  exact TX.quiet 21 hu hi rfl
 ·
  intro D hn hd hcl hu hi
  refine TO.move rfl dc (dl_lookup (m := 21) hu rfl (hd 21 dc)) ?_
  exact TX.quiet 22 hu hi rfl
 ·
  intro D hn hd hcl hu hi
  refine TO.skip (gd_F rfl (dl_lookup (m := 22) hu rfl (hd 22 dc))) dc ?_
  exact TX.quiet 23 hu hi rfl
 ·
  intro D hn hd hcl hu hi
  refine TO.skip (gd_F rfl (dl_lookup (m := 22) hu rfl (hd 22 dc))) dc ?_
  exact TX.quiet 24 hu hi rfl
 ·
  intro D hn hd hcl hu hi
  refine TO.skip (gd_F rfl (dl_lookup (m := 22) hu rfl (hd 22 dc))) dc ?_
  exact TX.quiet 25 hu hi rfl
 ·
  intro D hn hd hcl hu hi
  refine TO.skip (gd_F rfl (dl_lookup (m := 22) hu rfl (hd 22 dc))) dc ?_
  exact TX.quiet 26 hu hi rfl
 ·
  intro D hn hd hcl hu hi
  refine TO.skip (gd_F rfl (dl_lookup (m := 22) hu rfl (hd 22 dc))) dc ?_
  exact TX.quiet 27 hu hi rfl
 ·
  intro D hn hd hcl hu hi
  refine TO.skip (gd_F rfl (dl_lookup (m := 22) hu rfl (hd 22 dc))) dc ?_
  exact TX.quiet 28 hu hi rfl
 ·
  intro D hn hd hcl hu hi
  refine TO.pick (b := true) rfl dc (dl_lookup (m := 22) hu rfl (hd 22 dc)) rfl ?_
  exact TX.quiet 29 hu hi rfl
 ·
  intro D hn hd hcl hu hi
  refine TO.move rfl dc (dl_lookup (m := 29) hu rfl (hd 29 dc)) ?_
  exact TX.quiet 30 hu hi rfl
 ·
  intro D hn hd hcl hu hi
  refine TO.skip (gd_F rfl (dl_lookup (m := 30) hu rfl (hd 30 dc))) dc ?_
  exact TX.quiet 31 hu hi rfl
 ·
  intro D hn hd hcl hu hi
  refine TO.skip (gd_F rfl (dl_lookup (m := 30) hu rfl (hd 30 dc))) dc ?_
  exact TX.quiet 32 hu hi rfl
 ·
  intro D hn hd hcl hu hi
  refine TO.skip (gd_F rfl (dl_lookup (m := 30) hu rfl (hd 30 dc))) dc ?_
  exact TX.quiet 33 hu hi rfl
 refine TO.skip rfl dc (TO.skip rfl dc (TO.pick (b := true) rfl dc rfl rfl (TO.nil (TX.next (TC.condT rfl (TC.seq (TC.region ?_)))))))
 refine TO.store (k := 4) (l' := [.bool false]) sz_4 rfl rfl rfl rfl rfl (fun _ _ => rfl) rfl ?_
 refine TO.nil (TX.next (TC.ret (TX.thenRet ?_)))
 cases h
 exact TX.finM (rs := [.cell 8 4]) ([] : List Nat) () (.inl rfl) (Splits.open0 (k := 0) rfl) Tryd.results31 (.cons (.cell sc_4 (k := 4) rfl rfl) .nil) rfl Splits.nil
def law17_is_s1 (p1 : Gpoem_Poem) (l1 : List Gapi_Verse) (ek1 : Int → Option Bool) (x1 : Int × Gapi_Verse) (ag1 : Int → Option Bool) (i4 : Int) : Option Bool :=
bcond (decide (((l1.length : Int) : Int) ≤ i4)) (
ek1 i4
) (
bcond ((x1.1 : Int) != i4) (
ek1 i4
) (
andThen (getO l1 i4) fun (q1 : Gapi_Verse) =>
bcond (!(eq_Gapi_Verse x1.2 q1)) (
ek1 i4
) (
andThen (poem_Poem_Line_v p1 i4) fun (r8 : (Gapi_Verse × Int)) =>
bcond ((r8.2 : Int) != 0) (
ek1 i4
) (
bcond (!(eq_Gapi_Verse r8.1 x1.2)) (
ek1 i4
) (
grd (I64 (i4 + 1)) <|
ag1 (i4 + 1)
)
)
)
)
)
def law17_is_s2 (p1 : Gpoem_Poem) (wv1 : Gref17_Poem) (j2 : Option Bool) (ag2 : Int → Int → Option Bool) (from3 : Int) (x4 : Int) : Option Bool :=
bcond (decide ((x4 : Int) < (wv1.Stanzas.length : Int))) (
andThen (getO wv1.Stanzas x4) fun (x5 : List ByteArray) =>
andThen (poem_Poem_Stanza_v p1 x4) fun (r9 : (Gapi_Span × Int)) =>
bcond ((r9.2 : Int) != 0) (
some false
) (
grd (I64 (from3 + (x5.length : Int))) <|
bcond (!(eq_Gapi_Span r9.1 (⟨from3, from3 + (x5.length : Int)⟩ : Gapi_Span))) (
some false
) (
grd (I64 (from3 + (x5.length : Int))) <|
grd (I64 (x4 + 1)) <|
ag2 (from3 + (x5.length : Int)) (x4 + 1)
)
)
) (
j2
)
def law17_is_s3 (p1 : Gpoem_Poem) (l1 : List Gapi_Verse) (j3 : Option Bool) (ag3 : Int → Option Bool) (x8 : Int) : Option Bool :=
bcond (decide ((x8 : Int) < (([(-1), (l1.length : Int)] : List Int).length : Int))) (
andThen (getO ([(-1), (l1.length : Int)] : List Int) x8) fun (q2 : Int) =>
andThen (poem_Poem_Line_v p1 q2) fun (r10 : (Gapi_Verse × Int)) =>
bcond (!(eq_Gapi_Verse r10.1 (⟨ByteArray.empty, 0, 0, 0, 0, 0⟩ : Gapi_Verse))) (
some false
) (
bcond ((r10.2 : Int) != 5) (
some false
) (
grd (I64 (x8 + 1)) <|
ag3 (x8 + 1)
)
)
) (
j3
)
def law17_is_s4 (p1 : Gpoem_Poem) (wv1 : Gref17_Poem) (j4 : Option Bool) (ag4 : Int → Option Bool) (x11 : Int) : Option Bool :=
bcond (decide ((x11 : Int) < (([(-1), (wv1.Stanzas.length : Int)] : List Int).length : Int))) (
andThen (getO ([(-1), (wv1.Stanzas.length : Int)] : List Int) x11) fun (q3 : Int) =>
andThen (poem_Poem_Stanza_v p1 q3) fun (r11 : (Gapi_Span × Int)) =>
bcond (!(eq_Gapi_Span r11.1 (⟨0, 0⟩ : Gapi_Span))) (
some false
) (
bcond ((r11.2 : Int) != 5) (
some false
) (
grd (I64 (x11 + 1)) <|
ag4 (x11 + 1)
)
)
) (
j4
)
def law17_is_v (p1 : Gpoem_Poem) (source1 : ByteArray) (wv1 : Gref17_Poem) (l1 : List Gapi_Verse) : Option Bool :=
andThen (poem_Poem_Source_v p1) fun (r1 : ByteArray) =>
bcond (!decide (r1 = source1)) (
some false
) (
andThen (poem_Poem_Title_v p1) fun (r2 : ByteArray) =>
bcond (!decide (r2 = wv1.Title)) (
some false
) (
andThen (poem_Poem_Lines_v p1) fun (r3 : Int) =>
bcond ((r3 : Int) != (l1.length : Int)) (
some false
) (
andThen (poem_Poem_Stanzas_v p1) fun (r4 : Int) =>
bcond ((r4 : Int) != (wv1.Stanzas.length : Int)) (
some false
) (
andThen (poem_Poem_Print_v p1) fun (r5 : ByteArray) =>
andThen (ref17_Print_v wv1) fun (r6 : ByteArray) =>
bcond (!decide (r5 = r6)) (
some false
) (
joinK (fun (j1 : Int → Option Bool) =>
andThen (poem_Poem_Each_v p1) fun (r7 : Unit) =>
andThen (poem_Poem_Each_1_v p1) fun (its1 : (List (Int × Gapi_Verse))) =>
joinK (fun (ek1 : Int → Option Bool) =>
joinK (fun (dn1 : Int → Option Bool) =>
rangeG dn1 (law17_is_s1 p1 l1 ek1) its1 0
) (fun (i4 : Int) =>
j1 i4
)
) (fun (i5 : Int) =>
some false
)
) (fun (i1 : Int) =>
joinK (fun (j2 : Option Bool) =>
loopG (fun _ _ => none) (law17_is_s2 p1 wv1 j2) fuel 0 0
) (
joinK (fun (j3 : Option Bool) =>
loopG (fun _ => none) (law17_is_s3 p1 l1 j3) fuel 0
) (
joinK (fun (j4 : Option Bool) =>
loopG (fun _ => none) (law17_is_s4 p1 wv1 j4) fuel 0
) (
some ((i1 : Int) == (l1.length : Int))
)
)
)
)
)
)
)
)
)
set_option maxRecDepth 100000 in
set_option maxHeartbeats 4000000 in
theorem law17_is_fn {bp1 : Nat} {p1 : Gpoem_Poem} {p1_h0 p1_h1 : Hd} {source1 : ByteArray} {wv1 : Gref17_Poem} {wv1_h0 : Hd} {vvwv10 : Value} {kwv10 : Nat} {Zwv10 zwv10 : List ((List ByteArray) × Hd)} (hwwv10 : Vw vvwv10 Zwv10 1 kwv10 wv1_h0.v zwv10) (hzwv10 : zwv10.map Prod.fst = wv1.Stanzas) {vvl1 vl1 : Value} {Ll1 : List Gapi_Verse} {kl1 : Nat} {l1 : List Gapi_Verse} (hwl1 : Vw vvl1 Ll1 6 kl1 vl1 l1) {r : Bool} (h : law17_is_v p1 source1 wv1 l1 = some r) : FnR Tryd.prog 31 [.pointer (some ⟨bp1, 0, none⟩), .string source1, .agg #[.string wv1.Title, wv1_h0.v], vl1] [cells bp1 [.string p1.told_title, p1_h0.v, p1_h1.v, .string p1.source] 93, vec enc_Gapi_Verse 36 6 p1_h0.v p1.told_lines, vec enc_Gapi_Span 34 2 p1_h1.v p1.told_stanzas, roRow encN_T_string 1 vvwv10 kwv10 Zwv10, rdOwn nestR_T_string Zwv10, roRow enc_Gapi_Verse 6 vvl1 kl1 Ll1] [] (fun _ : Unit => (.bool r)) (fun _ => []) := by
 unfold law17_is_v at h
 refine FnR.intro Tryd.func31 rfl Tryd.ntmps31 (by simp) ?_
 intro w0 K hrd
 refine TC.star0 ?_
 show TC _ _ _ _ _ _ _ _ _ [star ((([] : List Nat) : List Nat).map mark)]
 refine TC.seq (TC.region ?_)
 refine TO.box rfl dc rfl (fun b1 => ?_)
 refine TO.box rfl dc rfl (fun b2 => ?_)
 show TO _ _ _ _ _ _ _ _ _ _ [star ((([] : List Nat) : List Nat).map mark), cells b1 [.pointer (some ⟨bp1, 0, none⟩)] 23, cells b2 [.string wv1.Title, wv1_h0.v] 56]
 refine TO.box1 (fun _ _ => Vw.one hwl1) rfl dc rfl (fun b3 => ?_)
 refine TO.alloc zr_4 rfl dc (fun b4 => ?_)
 show TO _ _ _ _ _ _ _ _ _ _ [star ((([] : List Nat) : List Nat).map mark), cells b1 [.pointer (some ⟨bp1, 0, none⟩)] 23, cells b2 [.string wv1.Title, wv1_h0.v] 56, cells b3 [vl1] 57, cells b4 [.bool false] 4]
 refine TO.nil (TX.next (TC.seq (TC.seq ?_)))
 obtain ⟨r1, hq1, h⟩ := andE h
 refine TC.bySplit (b := !decide (r1 = source1)) (fun hb1 => ?_) (fun hb1 => ?_)
 ·
  have h := condT hb1 h
  refine TC.drawN 34 [(0, 27, .pointer (some ⟨bp1, 0, none⟩)), (1, 28, .bool false), (2, 29, .bool false), (3, 30, .pointer (some ⟨bp1, 0, none⟩)), (4, 31, .string r1), (5, 32, .string source1), (6, 33, .bool true), (7, 34, .bool true), (8, 35, .bool true), (9, 36, undef), (10, 37, undef), (11, 38, undef), (12, 39, undef), (13, 40, undef), (14, 41, .bool true), (15, 42, .bool true), (16, 43, undef), (17, 44, undef), (18, 45, undef), (19, 46, undef), (20, 47, undef), (21, 48, .bool true), (22, 49, .bool true), (23, 50, undef), (24, 51, undef), (25, 52, undef), (26, 53, undef), (27, 54, undef), (28, 55, undef), (29, 56, .bool true), (30, 57, .bool true), (31, 58, undef), (32, 59, undef), (33, 60, undef)] mixed kr kr dc (by rfl) kr kr (DrawPre.cons ?_ (DrawPre.cons ?_ (DrawPre.cons ?_ (DrawPre.cons ?_ (DrawPre.cons ?_ (DrawPre.cons ?_ (DrawPre.cons ?_ (DrawPre.cons ?_ (DrawPre.cons ?_ (DrawPre.cons ?_ (DrawPre.cons ?_ (DrawPre.cons ?_ (DrawPre.cons ?_ (DrawPre.cons ?_ (DrawPre.cons ?_ (DrawPre.cons ?_ (DrawPre.cons ?_ (DrawPre.cons ?_ (DrawPre.cons ?_ (DrawPre.cons ?_ (DrawPre.cons ?_ (DrawPre.cons ?_ (DrawPre.cons ?_ (DrawPre.cons ?_ (DrawPre.cons ?_ (DrawPre.cons ?_ (DrawPre.cons ?_ (DrawPre.cons ?_ (DrawPre.cons ?_ (DrawPre.cons ?_ (DrawPre.cons ?_ (DrawPre.cons ?_ (DrawPre.cons ?_ (DrawPre.cons ?_ DrawPre.nil)))))))))))))))))))))))))))))))))) ?_
  ·
   intro D hn hd hcl hu hi
   refine TO.load (k := 1) sc_23 rfl dc (dl_old (by rfl) rfl) rfl rfl ?_
   exact TX.quiet 0 hu hi rfl
  ·
   intro D hn hd hcl hu hi
   refine TO.bin rfl dc (dl_lookup (m := 0) hu rfl (hd 0 dc)) rfl (bin_ptrnileqlR Tryd.underlying23) ?_
   exact TX.quiet 1 hu hi rfl
  ·
   intro D hn hd hcl hu hi
   refine TO.move rfl dc (dl_lookup (m := 1) hu rfl (hd 1 dc)) ?_
   exact TX.quiet 2 hu hi rfl
  ·
   intro D hn hd hcl hu hi
   refine TO.load (k := 1) sc_23 (gd_T rfl (dl_lookup (m := 2) hu rfl (hd 2 dc))) dc (dl_old (by rfl) rfl) rfl rfl ?_
   exact TX.quiet 3 hu hi rfl
  ·
   intro D hn hd hcl hu hi
   refine TO.callPR (v := .string r1) (vs := [.pointer (some ⟨bp1, 0, none⟩)]) hrd (gd_T rfl (dl_lookup (m := 2) hu rfl (hd 2 dc))) dc rfl (evL.cons (dl_lookup (m := 3) hu rfl (hd 3 dc)) evL.nil) rfl en_20 (poem_Poem_Source_fn (bp1 := bp1) (p1 := p1) (p1_h0 := p1_h0) (p1_h1 := p1_h1) hq1) (.ro 0 rfl (.ro 1 rfl (.ro 2 rfl .nil))) ?_
   exact TX.quiet 4 hu hi rfl
  ·
   intro D hn hd hcl hu hi
   refine TO.move (gd_T rfl (dl_lookup (m := 2) hu rfl (hd 2 dc))) dc (dl_old (by rfl) rfl) ?_
   exact TX.quiet 5 hu hi rfl
  ·
   intro D hn hd hcl hu hi
   refine TO.bin (gd_T rfl (dl_lookup (m := 2) hu rfl (hd 2 dc))) dc (dl_lookup (m := 4) hu rfl (hd 4 dc)) (dl_lookup (m := 5) hu rfl (hd 5 dc)) bin_sneq (TO.rewH (show Value.bool (!decide (r1 = source1)) = Value.bool true from congrArg Value.bool hb1) ?_)
   exact TX.quiet 6 hu hi rfl
  ·
   intro D hn hd hcl hu hi
   refine TO.pick (b := false) rfl dc (dl_lookup (m := 2) hu rfl (hd 2 dc)) (dl_lookup (m := 6) hu rfl (hd 6 dc)) ?_
   exact TX.quiet 7 hu hi rfl
  ·
   intro D hn hd hcl hu hi
   refine TO.move rfl dc (dl_lookup (m := 7) hu rfl (hd 7 dc)) ?_
   exact TX.quiet 8 hu hi rfl
  ·
   intro D hn hd hcl hu hi
   refine TO.skip (gd_F rfl (dl_lookup (m := 8) hu rfl (hd 8 dc))) dc ?_
   exact TX.quiet 9 hu hi rfl
  ·
   intro D hn hd hcl hu hi
   refine TO.skip (gd_F rfl (dl_lookup (m := 8) hu rfl (hd 8 dc))) dc ?_
   exact TX.quiet 10 hu hi rfl
  ·
   intro D hn hd hcl hu hi
   refine TO.skip (gd_F rfl (dl_lookup (m := 8) hu rfl (hd 8 dc))) dc ?_
   exact TX.quiet 11 hu hi rfl
  ·
   intro D hn hd hcl hu hi
   refine TO.skip (gd_F rfl (dl_lookup (m := 8) hu rfl (hd 8 dc))) dc ?_
   exact TX.quiet 12 hu hi rfl
  ·
   intro D hn hd hcl hu hi
   refine TO.skip (gd_F rfl (dl_lookup (m := 8) hu rfl (hd 8 dc))) dc ?_
   exact TX.quiet 13 hu hi rfl
  ·
   intro D hn hd hcl hu hi
   refine TO.pick (b := true) rfl dc (dl_lookup (m := 8) hu rfl (hd 8 dc)) rfl ?_
   exact TX.quiet 14 hu hi rfl
  ·
   intro D hn hd hcl hu hi
   refine TO.move rfl dc (dl_lookup (m := 14) hu rfl (hd 14 dc)) ?_
   exact TX.quiet 15 hu hi rfl
  ·
   intro D hn hd hcl hu hi
   refine TO.skip (gd_F rfl (dl_lookup (m := 15) hu rfl (hd 15 dc))) dc ?_
   exact TX.quiet 16 hu hi rfl
  ·
   intro D hn hd hcl hu hi
   refine TO.skip (gd_F rfl (dl_lookup (m := 15) hu rfl (hd 15 dc))) dc ?_
   exact TX.quiet 17 hu hi rfl
  ·
   intro D hn hd hcl hu hi
   refine TO.skip (gd_F rfl (dl_lookup (m := 15) hu rfl (hd 15 dc))) dc ?_
   exact TX.quiet 18 hu hi rfl
  ·
   intro D hn hd hcl hu hi
   refine TO.skip (gd_F rfl (dl_lookup (m := 15) hu rfl (hd 15 dc))) dc ?_
   exact TX.quiet 19 hu hi rfl
  ·
   intro D hn hd hcl hu hi
   refine TO.skip (gd_F rfl (dl_lookup (m := 15) hu rfl (hd 15 dc))) dc ?_
   exact TX.quiet 20 hu hi rfl
  ·
   intro D hn hd hcl hu hi
   refine TO.pick (b := true) rfl dc (dl_lookup (m := 15) hu rfl (hd 15 dc)) rfl ?_
   exact TX.quiet 21 hu hi rfl
  ·
   intro D hn hd hcl hu hi
   refine TO.move rfl dc (dl_lookup (m := 21) hu rfl (hd 21 dc)) ?_
   exact TX.quiet 22 hu hi rfl
  ·
   intro D hn hd hcl hu hi
   refine TO.skip (gd_F rfl (dl_lookup (m := 22) hu rfl (hd 22 dc))) dc ?_
   exact TX.quiet 23 hu hi rfl
  ·
   intro D hn hd hcl hu hi
   refine TO.skip (gd_F rfl (dl_lookup (m := 22) hu rfl (hd 22 dc))) dc ?_
   exact TX.quiet 24 hu hi rfl
  ·
   intro D hn hd hcl hu hi
   refine TO.skip (gd_F rfl (dl_lookup (m := 22) hu rfl (hd 22 dc))) dc ?_
   exact TX.quiet 25 hu hi rfl
  ·
   intro D hn hd hcl hu hi
   refine TO.skip (gd_F rfl (dl_lookup (m := 22) hu rfl (hd 22 dc))) dc ?_
   exact TX.quiet 26 hu hi rfl
  ·
   intro D hn hd hcl hu hi
   refine TO.skip (gd_F rfl (dl_lookup (m := 22) hu rfl (hd 22 dc))) dc ?_
   exact TX.quiet 27 hu hi rfl
  ·
   intro D hn hd hcl hu hi
   refine TO.skip (gd_F rfl (dl_lookup (m := 22) hu rfl (hd 22 dc))) dc ?_
   exact TX.quiet 28 hu hi rfl
  ·
   intro D hn hd hcl hu hi
   refine TO.pick (b := true) rfl dc (dl_lookup (m := 22) hu rfl (hd 22 dc)) rfl ?_
   exact TX.quiet 29 hu hi rfl
  ·
   intro D hn hd hcl hu hi
   refine TO.move rfl dc (dl_lookup (m := 29) hu rfl (hd 29 dc)) ?_
   exact TX.quiet 30 hu hi rfl
  ·
   intro D hn hd hcl hu hi
   refine TO.skip (gd_F rfl (dl_lookup (m := 30) hu rfl (hd 30 dc))) dc ?_
   exact TX.quiet 31 hu hi rfl
  ·
   intro D hn hd hcl hu hi
   refine TO.skip (gd_F rfl (dl_lookup (m := 30) hu rfl (hd 30 dc))) dc ?_
   exact TX.quiet 32 hu hi rfl
  ·
   intro D hn hd hcl hu hi
   refine TO.skip (gd_F rfl (dl_lookup (m := 30) hu rfl (hd 30 dc))) dc ?_
   exact TX.quiet 33 hu hi rfl
  refine TO.skip rfl dc (TO.skip rfl dc (TO.pick (b := true) rfl dc rfl rfl (TO.nil (TX.next (TC.condT rfl (TC.seq (TC.region ?_)))))))
  refine TO.store (k := 4) (l' := [.bool false]) sz_4 rfl rfl rfl rfl rfl (fun _ _ => rfl) rfl ?_
  refine TO.nil (TX.next (TC.ret (TX.thenRet ?_)))
  cases h
  exact TX.finM (rs := [.cell 8 4]) ([] : List Nat) () (.inl rfl) (Splits.open0 (k := 0) rfl) Tryd.results31 (.cons (.cell sc_4 (k := 4) rfl rfl) .nil) rfl Splits.nil
 ·
  have h := condF hb1 h
  obtain ⟨r2, hq2, h⟩ := andE h
  refine TC.bySplit (b := !decide (r2 = wv1.Title)) (fun hb2 => ?_) (fun hb2 => ?_)
  ·
   have h := condT hb2 h
   refine TC.drawN 34 [(0, 27, .pointer (some ⟨bp1, 0, none⟩)), (1, 28, .bool false), (2, 29, .bool false), (3, 30, .pointer (some ⟨bp1, 0, none⟩)), (4, 31, .string r1), (5, 32, .string source1), (6, 33, .bool false), (7, 34, .bool false), (8, 35, .bool false), (9, 36, .pointer (some ⟨bp1, 0, none⟩)), (10, 37, .string r2), (11, 38, .pointer (some ⟨b2, 0, none⟩)), (12, 39, .string wv1.Title), (13, 40, .bool true), (14, 41, .bool true), (15, 42, .bool true), (16, 43, undef), (17, 44, undef), (18, 45, undef), (19, 46, undef), (20, 47, undef), (21, 48, .bool true), (22, 49, .bool true), (23, 50, undef), (24, 51, undef), (25, 52, undef), (26, 53, undef), (27, 54, undef), (28, 55, undef), (29, 56, .bool true), (30, 57, .bool true), (31, 58, undef), (32, 59, undef), (33, 60, undef)] mixed kr kr dc (by rfl) kr kr (DrawPre.cons ?_ (DrawPre.cons ?_ (DrawPre.cons ?_ (DrawPre.cons ?_ (DrawPre.cons ?_ (DrawPre.cons ?_ (DrawPre.cons ?_ (DrawPre.cons ?_ (DrawPre.cons ?_ (DrawPre.cons ?_ (DrawPre.cons ?_ (DrawPre.cons ?_ (DrawPre.cons ?_ (DrawPre.cons ?_ (DrawPre.cons ?_ (DrawPre.cons ?_ (DrawPre.cons ?_ (DrawPre.cons ?_ (DrawPre.cons ?_ (DrawPre.cons ?_ (DrawPre.cons ?_ (DrawPre.cons ?_ (DrawPre.cons ?_ (DrawPre.cons ?_ (DrawPre.cons ?_ (DrawPre.cons ?_ (DrawPre.cons ?_ (DrawPre.cons ?_ (DrawPre.cons ?_ (DrawPre.cons ?_ (DrawPre.cons ?_ (DrawPre.cons ?_ (DrawPre.cons ?_ (DrawPre.cons ?_ DrawPre.nil)))))))))))))))))))))))))))))))))) ?_
   ·
    intro D hn hd hcl hu hi
    refine TO.load (k := 1) sc_23 rfl dc (dl_old (by rfl) rfl) rfl rfl ?_
    exact TX.quiet 0 hu hi rfl
   ·
    intro D hn hd hcl hu hi
    refine TO.bin rfl dc (dl_lookup (m := 0) hu rfl (hd 0 dc)) rfl (bin_ptrnileqlR Tryd.underlying23) ?_
    exact TX.quiet 1 hu hi rfl
   ·
    intro D hn hd hcl hu hi
    refine TO.move rfl dc (dl_lookup (m := 1) hu rfl (hd 1 dc)) ?_
    exact TX.quiet 2 hu hi rfl
   ·
    intro D hn hd hcl hu hi
    refine TO.load (k := 1) sc_23 (gd_T rfl (dl_lookup (m := 2) hu rfl (hd 2 dc))) dc (dl_old (by rfl) rfl) rfl rfl ?_
    exact TX.quiet 3 hu hi rfl
   ·
    intro D hn hd hcl hu hi
    refine TO.callPR (v := .string r1) (vs := [.pointer (some ⟨bp1, 0, none⟩)]) hrd (gd_T rfl (dl_lookup (m := 2) hu rfl (hd 2 dc))) dc rfl (evL.cons (dl_lookup (m := 3) hu rfl (hd 3 dc)) evL.nil) rfl en_20 (poem_Poem_Source_fn (bp1 := bp1) (p1 := p1) (p1_h0 := p1_h0) (p1_h1 := p1_h1) hq1) (.ro 0 rfl (.ro 1 rfl (.ro 2 rfl .nil))) ?_
    exact TX.quiet 4 hu hi rfl
   ·
    intro D hn hd hcl hu hi
    refine TO.move (gd_T rfl (dl_lookup (m := 2) hu rfl (hd 2 dc))) dc (dl_old (by rfl) rfl) ?_
    exact TX.quiet 5 hu hi rfl
   ·
    intro D hn hd hcl hu hi
    refine TO.bin (gd_T rfl (dl_lookup (m := 2) hu rfl (hd 2 dc))) dc (dl_lookup (m := 4) hu rfl (hd 4 dc)) (dl_lookup (m := 5) hu rfl (hd 5 dc)) bin_sneq (TO.rewH (show Value.bool (!decide (r1 = source1)) = Value.bool false from congrArg Value.bool hb1) ?_)
    exact TX.quiet 6 hu hi rfl
   ·
    intro D hn hd hcl hu hi
    refine TO.pick (b := false) rfl dc (dl_lookup (m := 2) hu rfl (hd 2 dc)) (dl_lookup (m := 6) hu rfl (hd 6 dc)) ?_
    exact TX.quiet 7 hu hi rfl
   ·
    intro D hn hd hcl hu hi
    refine TO.move rfl dc (dl_lookup (m := 7) hu rfl (hd 7 dc)) ?_
    exact TX.quiet 8 hu hi rfl
   ·
    intro D hn hd hcl hu hi
    refine TO.load (k := 1) sc_23 (gd_T rfl (dl_lookup (m := 8) hu rfl (hd 8 dc))) dc (dl_old (by rfl) rfl) rfl rfl ?_
    exact TX.quiet 9 hu hi rfl
   ·
    intro D hn hd hcl hu hi
    refine TO.callPR (v := .string r2) (vs := [.pointer (some ⟨bp1, 0, none⟩)]) hrd (gd_T rfl (dl_lookup (m := 8) hu rfl (hd 8 dc))) dc rfl (evL.cons (dl_lookup (m := 9) hu rfl (hd 9 dc)) evL.nil) rfl en_24 (poem_Poem_Title_fn (bp1 := bp1) (p1 := p1) (p1_h0 := p1_h0) (p1_h1 := p1_h1) hq2) (.ro 0 rfl (.ro 1 rfl (.ro 2 rfl .nil))) ?_
    exact TX.quiet 10 hu hi rfl
   ·
    intro D hn hd hcl hu hi
    refine TO.fieldAddr fl_56_0 (gd_T rfl (dl_lookup (m := 8) hu rfl (hd 8 dc))) dc (dl_old (by rfl) rfl) (show _ = 0 from rfl) ?_
    exact TX.quiet 11 hu hi rfl
   ·
    intro D hn hd hcl hu hi
    refine TO.load (k := 2) sc_9 (gd_T rfl (dl_lookup (m := 8) hu rfl (hd 8 dc))) dc (dl_lookup (m := 11) hu rfl (hd 11 dc)) rfl rfl ?_
    exact TX.quiet 12 hu hi rfl
   ·
    intro D hn hd hcl hu hi
    refine TO.bin (gd_T rfl (dl_lookup (m := 8) hu rfl (hd 8 dc))) dc (dl_lookup (m := 10) hu rfl (hd 10 dc)) (dl_lookup (m := 12) hu rfl (hd 12 dc)) bin_sneq (TO.rewH (show Value.bool (!decide (r2 = wv1.Title)) = Value.bool true from congrArg Value.bool hb2) ?_)
    exact TX.quiet 13 hu hi rfl
   ·
    intro D hn hd hcl hu hi
    refine TO.pick (b := false) rfl dc (dl_lookup (m := 8) hu rfl (hd 8 dc)) (dl_lookup (m := 13) hu rfl (hd 13 dc)) ?_
    exact TX.quiet 14 hu hi rfl
   ·
    intro D hn hd hcl hu hi
    refine TO.move rfl dc (dl_lookup (m := 14) hu rfl (hd 14 dc)) ?_
    exact TX.quiet 15 hu hi rfl
   ·
    intro D hn hd hcl hu hi
    refine TO.skip (gd_F rfl (dl_lookup (m := 15) hu rfl (hd 15 dc))) dc ?_
    exact TX.quiet 16 hu hi rfl
   ·
    intro D hn hd hcl hu hi
    refine TO.skip (gd_F rfl (dl_lookup (m := 15) hu rfl (hd 15 dc))) dc ?_
    exact TX.quiet 17 hu hi rfl
   ·
    intro D hn hd hcl hu hi
    refine TO.skip (gd_F rfl (dl_lookup (m := 15) hu rfl (hd 15 dc))) dc ?_
    exact TX.quiet 18 hu hi rfl
   ·
    intro D hn hd hcl hu hi
    refine TO.skip (gd_F rfl (dl_lookup (m := 15) hu rfl (hd 15 dc))) dc ?_
    exact TX.quiet 19 hu hi rfl
   ·
    intro D hn hd hcl hu hi
    refine TO.skip (gd_F rfl (dl_lookup (m := 15) hu rfl (hd 15 dc))) dc ?_
    exact TX.quiet 20 hu hi rfl
   ·
    intro D hn hd hcl hu hi
    refine TO.pick (b := true) rfl dc (dl_lookup (m := 15) hu rfl (hd 15 dc)) rfl ?_
    exact TX.quiet 21 hu hi rfl
   ·
    intro D hn hd hcl hu hi
    refine TO.move rfl dc (dl_lookup (m := 21) hu rfl (hd 21 dc)) ?_
    exact TX.quiet 22 hu hi rfl
   ·
    intro D hn hd hcl hu hi
    refine TO.skip (gd_F rfl (dl_lookup (m := 22) hu rfl (hd 22 dc))) dc ?_
    exact TX.quiet 23 hu hi rfl
   ·
    intro D hn hd hcl hu hi
    refine TO.skip (gd_F rfl (dl_lookup (m := 22) hu rfl (hd 22 dc))) dc ?_
    exact TX.quiet 24 hu hi rfl
   ·
    intro D hn hd hcl hu hi
    refine TO.skip (gd_F rfl (dl_lookup (m := 22) hu rfl (hd 22 dc))) dc ?_
    exact TX.quiet 25 hu hi rfl
   ·
    intro D hn hd hcl hu hi
    refine TO.skip (gd_F rfl (dl_lookup (m := 22) hu rfl (hd 22 dc))) dc ?_
    exact TX.quiet 26 hu hi rfl
   ·
    intro D hn hd hcl hu hi
    refine TO.skip (gd_F rfl (dl_lookup (m := 22) hu rfl (hd 22 dc))) dc ?_
    exact TX.quiet 27 hu hi rfl
   ·
    intro D hn hd hcl hu hi
    refine TO.skip (gd_F rfl (dl_lookup (m := 22) hu rfl (hd 22 dc))) dc ?_
    exact TX.quiet 28 hu hi rfl
   ·
    intro D hn hd hcl hu hi
    refine TO.pick (b := true) rfl dc (dl_lookup (m := 22) hu rfl (hd 22 dc)) rfl ?_
    exact TX.quiet 29 hu hi rfl
   ·
    intro D hn hd hcl hu hi
    refine TO.move rfl dc (dl_lookup (m := 29) hu rfl (hd 29 dc)) ?_
    exact TX.quiet 30 hu hi rfl
   ·
    intro D hn hd hcl hu hi
    refine TO.skip (gd_F rfl (dl_lookup (m := 30) hu rfl (hd 30 dc))) dc ?_
    exact TX.quiet 31 hu hi rfl
   ·
    intro D hn hd hcl hu hi
    refine TO.skip (gd_F rfl (dl_lookup (m := 30) hu rfl (hd 30 dc))) dc ?_
    exact TX.quiet 32 hu hi rfl
   ·
    intro D hn hd hcl hu hi
    refine TO.skip (gd_F rfl (dl_lookup (m := 30) hu rfl (hd 30 dc))) dc ?_
    exact TX.quiet 33 hu hi rfl
   refine TO.skip rfl dc (TO.skip rfl dc (TO.pick (b := true) rfl dc rfl rfl (TO.nil (TX.next (TC.condT rfl (TC.seq (TC.region ?_)))))))
   refine TO.store (k := 4) (l' := [.bool false]) sz_4 rfl rfl rfl rfl rfl (fun _ _ => rfl) rfl ?_
   refine TO.nil (TX.next (TC.ret (TX.thenRet ?_)))
   cases h
   exact TX.finM (rs := [.cell 8 4]) ([] : List Nat) () (.inl rfl) (Splits.open0 (k := 0) rfl) Tryd.results31 (.cons (.cell sc_4 (k := 4) rfl rfl) .nil) rfl Splits.nil
  ·
   have h := condF hb2 h
   obtain ⟨r3, hq3, h⟩ := andE h
   refine TC.bySplit (b := (r3 : Int) != (l1.length : Int)) (fun hb3 => ?_) (fun hb3 => ?_)
   ·
    have h := condT hb3 h
    refine TC.drawN 34 [(0, 27, .pointer (some ⟨bp1, 0, none⟩)), (1, 28, .bool false), (2, 29, .bool false), (3, 30, .pointer (some ⟨bp1, 0, none⟩)), (4, 31, .string r1), (5, 32, .string source1), (6, 33, .bool false), (7, 34, .bool false), (8, 35, .bool false), (9, 36, .pointer (some ⟨bp1, 0, none⟩)), (10, 37, .string r2), (11, 38, .pointer (some ⟨b2, 0, none⟩)), (12, 39, .string wv1.Title), (13, 40, .bool false), (14, 41, .bool false), (15, 42, .bool false), (16, 43, .pointer (some ⟨bp1, 0, none⟩)), (17, 44, .int .i64 r3), (18, 45, vl1), (19, 46, .int .i64 (l1.length : Int)), (20, 47, .bool true), (21, 48, .bool true), (22, 49, .bool true), (23, 50, undef), (24, 51, undef), (25, 52, undef), (26, 53, undef), (27, 54, undef), (28, 55, undef), (29, 56, .bool true), (30, 57, .bool true), (31, 58, undef), (32, 59, undef), (33, 60, undef)] mixed kr kr dc (by rfl) kr kr (DrawPre.cons ?_ (DrawPre.cons ?_ (DrawPre.cons ?_ (DrawPre.cons ?_ (DrawPre.cons ?_ (DrawPre.cons ?_ (DrawPre.cons ?_ (DrawPre.cons ?_ (DrawPre.cons ?_ (DrawPre.cons ?_ (DrawPre.cons ?_ (DrawPre.cons ?_ (DrawPre.cons ?_ (DrawPre.cons ?_ (DrawPre.cons ?_ (DrawPre.cons ?_ (DrawPre.cons ?_ (DrawPre.cons ?_ (DrawPre.cons ?_ (DrawPre.cons ?_ (DrawPre.cons ?_ (DrawPre.cons ?_ (DrawPre.cons ?_ (DrawPre.cons ?_ (DrawPre.cons ?_ (DrawPre.cons ?_ (DrawPre.cons ?_ (DrawPre.cons ?_ (DrawPre.cons ?_ (DrawPre.cons ?_ (DrawPre.cons ?_ (DrawPre.cons ?_ (DrawPre.cons ?_ (DrawPre.cons ?_ DrawPre.nil)))))))))))))))))))))))))))))))))) ?_
    ·
     intro D hn hd hcl hu hi
     refine TO.load (k := 1) sc_23 rfl dc (dl_old (by rfl) rfl) rfl rfl ?_
     exact TX.quiet 0 hu hi rfl
    ·
     intro D hn hd hcl hu hi
     refine TO.bin rfl dc (dl_lookup (m := 0) hu rfl (hd 0 dc)) rfl (bin_ptrnileqlR Tryd.underlying23) ?_
     exact TX.quiet 1 hu hi rfl
    ·
     intro D hn hd hcl hu hi
     refine TO.move rfl dc (dl_lookup (m := 1) hu rfl (hd 1 dc)) ?_
     exact TX.quiet 2 hu hi rfl
    ·
     intro D hn hd hcl hu hi
     refine TO.load (k := 1) sc_23 (gd_T rfl (dl_lookup (m := 2) hu rfl (hd 2 dc))) dc (dl_old (by rfl) rfl) rfl rfl ?_
     exact TX.quiet 3 hu hi rfl
    ·
     intro D hn hd hcl hu hi
     refine TO.callPR (v := .string r1) (vs := [.pointer (some ⟨bp1, 0, none⟩)]) hrd (gd_T rfl (dl_lookup (m := 2) hu rfl (hd 2 dc))) dc rfl (evL.cons (dl_lookup (m := 3) hu rfl (hd 3 dc)) evL.nil) rfl en_20 (poem_Poem_Source_fn (bp1 := bp1) (p1 := p1) (p1_h0 := p1_h0) (p1_h1 := p1_h1) hq1) (.ro 0 rfl (.ro 1 rfl (.ro 2 rfl .nil))) ?_
     exact TX.quiet 4 hu hi rfl
    ·
     intro D hn hd hcl hu hi
     refine TO.move (gd_T rfl (dl_lookup (m := 2) hu rfl (hd 2 dc))) dc (dl_old (by rfl) rfl) ?_
     exact TX.quiet 5 hu hi rfl
    ·
     intro D hn hd hcl hu hi
     refine TO.bin (gd_T rfl (dl_lookup (m := 2) hu rfl (hd 2 dc))) dc (dl_lookup (m := 4) hu rfl (hd 4 dc)) (dl_lookup (m := 5) hu rfl (hd 5 dc)) bin_sneq (TO.rewH (show Value.bool (!decide (r1 = source1)) = Value.bool false from congrArg Value.bool hb1) ?_)
     exact TX.quiet 6 hu hi rfl
    ·
     intro D hn hd hcl hu hi
     refine TO.pick (b := false) rfl dc (dl_lookup (m := 2) hu rfl (hd 2 dc)) (dl_lookup (m := 6) hu rfl (hd 6 dc)) ?_
     exact TX.quiet 7 hu hi rfl
    ·
     intro D hn hd hcl hu hi
     refine TO.move rfl dc (dl_lookup (m := 7) hu rfl (hd 7 dc)) ?_
     exact TX.quiet 8 hu hi rfl
    ·
     intro D hn hd hcl hu hi
     refine TO.load (k := 1) sc_23 (gd_T rfl (dl_lookup (m := 8) hu rfl (hd 8 dc))) dc (dl_old (by rfl) rfl) rfl rfl ?_
     exact TX.quiet 9 hu hi rfl
    ·
     intro D hn hd hcl hu hi
     refine TO.callPR (v := .string r2) (vs := [.pointer (some ⟨bp1, 0, none⟩)]) hrd (gd_T rfl (dl_lookup (m := 8) hu rfl (hd 8 dc))) dc rfl (evL.cons (dl_lookup (m := 9) hu rfl (hd 9 dc)) evL.nil) rfl en_24 (poem_Poem_Title_fn (bp1 := bp1) (p1 := p1) (p1_h0 := p1_h0) (p1_h1 := p1_h1) hq2) (.ro 0 rfl (.ro 1 rfl (.ro 2 rfl .nil))) ?_
     exact TX.quiet 10 hu hi rfl
    ·
     intro D hn hd hcl hu hi
     refine TO.fieldAddr fl_56_0 (gd_T rfl (dl_lookup (m := 8) hu rfl (hd 8 dc))) dc (dl_old (by rfl) rfl) (show _ = 0 from rfl) ?_
     exact TX.quiet 11 hu hi rfl
    ·
     intro D hn hd hcl hu hi
     refine TO.load (k := 2) sc_9 (gd_T rfl (dl_lookup (m := 8) hu rfl (hd 8 dc))) dc (dl_lookup (m := 11) hu rfl (hd 11 dc)) rfl rfl ?_
     exact TX.quiet 12 hu hi rfl
    ·
     intro D hn hd hcl hu hi
     refine TO.bin (gd_T rfl (dl_lookup (m := 8) hu rfl (hd 8 dc))) dc (dl_lookup (m := 10) hu rfl (hd 10 dc)) (dl_lookup (m := 12) hu rfl (hd 12 dc)) bin_sneq (TO.rewH (show Value.bool (!decide (r2 = wv1.Title)) = Value.bool false from congrArg Value.bool hb2) ?_)
     exact TX.quiet 13 hu hi rfl
    ·
     intro D hn hd hcl hu hi
     refine TO.pick (b := false) rfl dc (dl_lookup (m := 8) hu rfl (hd 8 dc)) (dl_lookup (m := 13) hu rfl (hd 13 dc)) ?_
     exact TX.quiet 14 hu hi rfl
    ·
     intro D hn hd hcl hu hi
     refine TO.move rfl dc (dl_lookup (m := 14) hu rfl (hd 14 dc)) ?_
     exact TX.quiet 15 hu hi rfl
    ·
     intro D hn hd hcl hu hi
     refine TO.load (k := 1) sc_23 (gd_T rfl (dl_lookup (m := 15) hu rfl (hd 15 dc))) dc (dl_old (by rfl) rfl) rfl rfl ?_
     exact TX.quiet 16 hu hi rfl
    ·
     intro D hn hd hcl hu hi
     refine TO.callPR (v := .int .i64 r3) (vs := [.pointer (some ⟨bp1, 0, none⟩)]) hrd (gd_T rfl (dl_lookup (m := 15) hu rfl (hd 15 dc))) dc rfl (evL.cons (dl_lookup (m := 16) hu rfl (hd 16 dc)) evL.nil) rfl en_21 (poem_Poem_Lines_fn (bp1 := bp1) (p1 := p1) (p1_h0 := p1_h0) (p1_h1 := p1_h1) hq3) (.ro 0 rfl (.ro 1 rfl (.ro 2 rfl .nil))) ?_
     exact TX.quiet 17 hu hi rfl
    ·
     intro D hn hd hcl hu hi
     refine TO.load (k := 3) sc_57 (gd_T rfl (dl_lookup (m := 15) hu rfl (hd 15 dc))) dc (dl_old (by rfl) rfl) rfl rfl ?_
     exact TX.quiet 18 hu hi rfl
    ·
     intro D hn hd hcl hu hi
     refine TO.lenVw hwl1 (gd_T rfl (dl_lookup (m := 15) hu rfl (hd 15 dc))) dc (dl_lookup (m := 18) hu rfl (hd 18 dc)) Tryd.underlying57 ?_
     exact TX.quiet 19 hu hi rfl
    ·
     intro D hn hd hcl hu hi
     refine TO.bin (gd_T rfl (dl_lookup (m := 15) hu rfl (hd 15 dc))) dc (dl_lookup (m := 17) hu rfl (hd 17 dc)) (dl_lookup (m := 19) hu rfl (hd 19 dc)) bin_neq (TO.rewH (show Value.bool ((r3 : Int) != (l1.length : Int)) = Value.bool true from congrArg Value.bool hb3) ?_)
     exact TX.quiet 20 hu hi rfl
    ·
     intro D hn hd hcl hu hi
     refine TO.pick (b := false) rfl dc (dl_lookup (m := 15) hu rfl (hd 15 dc)) (dl_lookup (m := 20) hu rfl (hd 20 dc)) ?_
     exact TX.quiet 21 hu hi rfl
    ·
     intro D hn hd hcl hu hi
     refine TO.move rfl dc (dl_lookup (m := 21) hu rfl (hd 21 dc)) ?_
     exact TX.quiet 22 hu hi rfl
    ·
     intro D hn hd hcl hu hi
     refine TO.skip (gd_F rfl (dl_lookup (m := 22) hu rfl (hd 22 dc))) dc ?_
     exact TX.quiet 23 hu hi rfl
    ·
     intro D hn hd hcl hu hi
     refine TO.skip (gd_F rfl (dl_lookup (m := 22) hu rfl (hd 22 dc))) dc ?_
     exact TX.quiet 24 hu hi rfl
    ·
     intro D hn hd hcl hu hi
     refine TO.skip (gd_F rfl (dl_lookup (m := 22) hu rfl (hd 22 dc))) dc ?_
     exact TX.quiet 25 hu hi rfl
    ·
     intro D hn hd hcl hu hi
     refine TO.skip (gd_F rfl (dl_lookup (m := 22) hu rfl (hd 22 dc))) dc ?_
     exact TX.quiet 26 hu hi rfl
    ·
     intro D hn hd hcl hu hi
     refine TO.skip (gd_F rfl (dl_lookup (m := 22) hu rfl (hd 22 dc))) dc ?_
     exact TX.quiet 27 hu hi rfl
    ·
     intro D hn hd hcl hu hi
     refine TO.skip (gd_F rfl (dl_lookup (m := 22) hu rfl (hd 22 dc))) dc ?_
     exact TX.quiet 28 hu hi rfl
    ·
     intro D hn hd hcl hu hi
     refine TO.pick (b := true) rfl dc (dl_lookup (m := 22) hu rfl (hd 22 dc)) rfl ?_
     exact TX.quiet 29 hu hi rfl
    ·
     intro D hn hd hcl hu hi
     refine TO.move rfl dc (dl_lookup (m := 29) hu rfl (hd 29 dc)) ?_
     exact TX.quiet 30 hu hi rfl
    ·
     intro D hn hd hcl hu hi
     refine TO.skip (gd_F rfl (dl_lookup (m := 30) hu rfl (hd 30 dc))) dc ?_
     exact TX.quiet 31 hu hi rfl
    ·
     intro D hn hd hcl hu hi
     refine TO.skip (gd_F rfl (dl_lookup (m := 30) hu rfl (hd 30 dc))) dc ?_
     exact TX.quiet 32 hu hi rfl
    ·
     intro D hn hd hcl hu hi
     refine TO.skip (gd_F rfl (dl_lookup (m := 30) hu rfl (hd 30 dc))) dc ?_
     exact TX.quiet 33 hu hi rfl
    refine TO.skip rfl dc (TO.skip rfl dc (TO.pick (b := true) rfl dc rfl rfl (TO.nil (TX.next (TC.condT rfl (TC.seq (TC.region ?_)))))))
    refine TO.store (k := 4) (l' := [.bool false]) sz_4 rfl rfl rfl rfl rfl (fun _ _ => rfl) rfl ?_
    refine TO.nil (TX.next (TC.ret (TX.thenRet ?_)))
    cases h
    exact TX.finM (rs := [.cell 8 4]) ([] : List Nat) () (.inl rfl) (Splits.open0 (k := 0) rfl) Tryd.results31 (.cons (.cell sc_4 (k := 4) rfl rfl) .nil) rfl Splits.nil
   ·
    have h := condF hb3 h
    obtain ⟨r4, hq4, h⟩ := andE h
    refine TC.bySplit (b := (r4 : Int) != (wv1.Stanzas.length : Int)) (fun hb4 => ?_) (fun hb4 => ?_)
    ·
     have h := condT hb4 h
     refine TC.drawN 34 [(0, 27, .pointer (some ⟨bp1, 0, none⟩)), (1, 28, .bool false), (2, 29, .bool false), (3, 30, .pointer (some ⟨bp1, 0, none⟩)), (4, 31, .string r1), (5, 32, .string source1), (6, 33, .bool false), (7, 34, .bool false), (8, 35, .bool false), (9, 36, .pointer (some ⟨bp1, 0, none⟩)), (10, 37, .string r2), (11, 38, .pointer (some ⟨b2, 0, none⟩)), (12, 39, .string wv1.Title), (13, 40, .bool false), (14, 41, .bool false), (15, 42, .bool false), (16, 43, .pointer (some ⟨bp1, 0, none⟩)), (17, 44, .int .i64 r3), (18, 45, vl1), (19, 46, .int .i64 (l1.length : Int)), (20, 47, .bool false), (21, 48, .bool false), (22, 49, .bool false), (23, 50, .pointer (some ⟨bp1, 0, none⟩)), (24, 51, .int .i64 r4), (25, 52, .pointer (some ⟨b2, 1, none⟩)), (26, 53, wv1_h0.v), (27, 54, .int .i64 (wv1.Stanzas.length : Int)), (28, 55, .bool true), (29, 56, .bool true), (30, 57, .bool true), (31, 58, undef), (32, 59, undef), (33, 60, undef)] mixed kr kr dc (by rfl) kr kr (DrawPre.cons ?_ (DrawPre.cons ?_ (DrawPre.cons ?_ (DrawPre.cons ?_ (DrawPre.cons ?_ (DrawPre.cons ?_ (DrawPre.cons ?_ (DrawPre.cons ?_ (DrawPre.cons ?_ (DrawPre.cons ?_ (DrawPre.cons ?_ (DrawPre.cons ?_ (DrawPre.cons ?_ (DrawPre.cons ?_ (DrawPre.cons ?_ (DrawPre.cons ?_ (DrawPre.cons ?_ (DrawPre.cons ?_ (DrawPre.cons ?_ (DrawPre.cons ?_ (DrawPre.cons ?_ (DrawPre.cons ?_ (DrawPre.cons ?_ (DrawPre.cons ?_ (DrawPre.cons ?_ (DrawPre.cons ?_ (DrawPre.cons ?_ (DrawPre.cons ?_ (DrawPre.cons ?_ (DrawPre.cons ?_ (DrawPre.cons ?_ (DrawPre.cons ?_ (DrawPre.cons ?_ (DrawPre.cons ?_ DrawPre.nil)))))))))))))))))))))))))))))))))) ?_
     ·
      intro D hn hd hcl hu hi
      refine TO.load (k := 1) sc_23 rfl dc (dl_old (by rfl) rfl) rfl rfl ?_
      exact TX.quiet 0 hu hi rfl
     ·
      intro D hn hd hcl hu hi
      refine TO.bin rfl dc (dl_lookup (m := 0) hu rfl (hd 0 dc)) rfl (bin_ptrnileqlR Tryd.underlying23) ?_
      exact TX.quiet 1 hu hi rfl
     ·
      intro D hn hd hcl hu hi
      refine TO.move rfl dc (dl_lookup (m := 1) hu rfl (hd 1 dc)) ?_
      exact TX.quiet 2 hu hi rfl
     ·
      intro D hn hd hcl hu hi
      refine TO.load (k := 1) sc_23 (gd_T rfl (dl_lookup (m := 2) hu rfl (hd 2 dc))) dc (dl_old (by rfl) rfl) rfl rfl ?_
      exact TX.quiet 3 hu hi rfl
     ·
      intro D hn hd hcl hu hi
      refine TO.callPR (v := .string r1) (vs := [.pointer (some ⟨bp1, 0, none⟩)]) hrd (gd_T rfl (dl_lookup (m := 2) hu rfl (hd 2 dc))) dc rfl (evL.cons (dl_lookup (m := 3) hu rfl (hd 3 dc)) evL.nil) rfl en_20 (poem_Poem_Source_fn (bp1 := bp1) (p1 := p1) (p1_h0 := p1_h0) (p1_h1 := p1_h1) hq1) (.ro 0 rfl (.ro 1 rfl (.ro 2 rfl .nil))) ?_
      exact TX.quiet 4 hu hi rfl
     ·
      intro D hn hd hcl hu hi
      refine TO.move (gd_T rfl (dl_lookup (m := 2) hu rfl (hd 2 dc))) dc (dl_old (by rfl) rfl) ?_
      exact TX.quiet 5 hu hi rfl
     ·
      intro D hn hd hcl hu hi
      refine TO.bin (gd_T rfl (dl_lookup (m := 2) hu rfl (hd 2 dc))) dc (dl_lookup (m := 4) hu rfl (hd 4 dc)) (dl_lookup (m := 5) hu rfl (hd 5 dc)) bin_sneq (TO.rewH (show Value.bool (!decide (r1 = source1)) = Value.bool false from congrArg Value.bool hb1) ?_)
      exact TX.quiet 6 hu hi rfl
     ·
      intro D hn hd hcl hu hi
      refine TO.pick (b := false) rfl dc (dl_lookup (m := 2) hu rfl (hd 2 dc)) (dl_lookup (m := 6) hu rfl (hd 6 dc)) ?_
      exact TX.quiet 7 hu hi rfl
     ·
      intro D hn hd hcl hu hi
      refine TO.move rfl dc (dl_lookup (m := 7) hu rfl (hd 7 dc)) ?_
      exact TX.quiet 8 hu hi rfl
     ·
      intro D hn hd hcl hu hi
      refine TO.load (k := 1) sc_23 (gd_T rfl (dl_lookup (m := 8) hu rfl (hd 8 dc))) dc (dl_old (by rfl) rfl) rfl rfl ?_
      exact TX.quiet 9 hu hi rfl
     ·
      intro D hn hd hcl hu hi
      refine TO.callPR (v := .string r2) (vs := [.pointer (some ⟨bp1, 0, none⟩)]) hrd (gd_T rfl (dl_lookup (m := 8) hu rfl (hd 8 dc))) dc rfl (evL.cons (dl_lookup (m := 9) hu rfl (hd 9 dc)) evL.nil) rfl en_24 (poem_Poem_Title_fn (bp1 := bp1) (p1 := p1) (p1_h0 := p1_h0) (p1_h1 := p1_h1) hq2) (.ro 0 rfl (.ro 1 rfl (.ro 2 rfl .nil))) ?_
      exact TX.quiet 10 hu hi rfl
     ·
      intro D hn hd hcl hu hi
      refine TO.fieldAddr fl_56_0 (gd_T rfl (dl_lookup (m := 8) hu rfl (hd 8 dc))) dc (dl_old (by rfl) rfl) (show _ = 0 from rfl) ?_
      exact TX.quiet 11 hu hi rfl
     ·
      intro D hn hd hcl hu hi
      refine TO.load (k := 2) sc_9 (gd_T rfl (dl_lookup (m := 8) hu rfl (hd 8 dc))) dc (dl_lookup (m := 11) hu rfl (hd 11 dc)) rfl rfl ?_
      exact TX.quiet 12 hu hi rfl
     ·
      intro D hn hd hcl hu hi
      refine TO.bin (gd_T rfl (dl_lookup (m := 8) hu rfl (hd 8 dc))) dc (dl_lookup (m := 10) hu rfl (hd 10 dc)) (dl_lookup (m := 12) hu rfl (hd 12 dc)) bin_sneq (TO.rewH (show Value.bool (!decide (r2 = wv1.Title)) = Value.bool false from congrArg Value.bool hb2) ?_)
      exact TX.quiet 13 hu hi rfl
     ·
      intro D hn hd hcl hu hi
      refine TO.pick (b := false) rfl dc (dl_lookup (m := 8) hu rfl (hd 8 dc)) (dl_lookup (m := 13) hu rfl (hd 13 dc)) ?_
      exact TX.quiet 14 hu hi rfl
     ·
      intro D hn hd hcl hu hi
      refine TO.move rfl dc (dl_lookup (m := 14) hu rfl (hd 14 dc)) ?_
      exact TX.quiet 15 hu hi rfl
     ·
      intro D hn hd hcl hu hi
      refine TO.load (k := 1) sc_23 (gd_T rfl (dl_lookup (m := 15) hu rfl (hd 15 dc))) dc (dl_old (by rfl) rfl) rfl rfl ?_
      exact TX.quiet 16 hu hi rfl
     ·
      intro D hn hd hcl hu hi
      refine TO.callPR (v := .int .i64 r3) (vs := [.pointer (some ⟨bp1, 0, none⟩)]) hrd (gd_T rfl (dl_lookup (m := 15) hu rfl (hd 15 dc))) dc rfl (evL.cons (dl_lookup (m := 16) hu rfl (hd 16 dc)) evL.nil) rfl en_21 (poem_Poem_Lines_fn (bp1 := bp1) (p1 := p1) (p1_h0 := p1_h0) (p1_h1 := p1_h1) hq3) (.ro 0 rfl (.ro 1 rfl (.ro 2 rfl .nil))) ?_
      exact TX.quiet 17 hu hi rfl
     ·
      intro D hn hd hcl hu hi
      refine TO.load (k := 3) sc_57 (gd_T rfl (dl_lookup (m := 15) hu rfl (hd 15 dc))) dc (dl_old (by rfl) rfl) rfl rfl ?_
      exact TX.quiet 18 hu hi rfl
     ·
      intro D hn hd hcl hu hi
      refine TO.lenVw hwl1 (gd_T rfl (dl_lookup (m := 15) hu rfl (hd 15 dc))) dc (dl_lookup (m := 18) hu rfl (hd 18 dc)) Tryd.underlying57 ?_
      exact TX.quiet 19 hu hi rfl
     ·
      intro D hn hd hcl hu hi
      refine TO.bin (gd_T rfl (dl_lookup (m := 15) hu rfl (hd 15 dc))) dc (dl_lookup (m := 17) hu rfl (hd 17 dc)) (dl_lookup (m := 19) hu rfl (hd 19 dc)) bin_neq (TO.rewH (show Value.bool ((r3 : Int) != (l1.length : Int)) = Value.bool false from congrArg Value.bool hb3) ?_)
      exact TX.quiet 20 hu hi rfl
     ·
      intro D hn hd hcl hu hi
      refine TO.pick (b := false) rfl dc (dl_lookup (m := 15) hu rfl (hd 15 dc)) (dl_lookup (m := 20) hu rfl (hd 20 dc)) ?_
      exact TX.quiet 21 hu hi rfl
     ·
      intro D hn hd hcl hu hi
      refine TO.move rfl dc (dl_lookup (m := 21) hu rfl (hd 21 dc)) ?_
      exact TX.quiet 22 hu hi rfl
     ·
      intro D hn hd hcl hu hi
      refine TO.load (k := 1) sc_23 (gd_T rfl (dl_lookup (m := 22) hu rfl (hd 22 dc))) dc (dl_old (by rfl) rfl) rfl rfl ?_
      exact TX.quiet 23 hu hi rfl
     ·
      intro D hn hd hcl hu hi
      refine TO.callPR (v := .int .i64 r4) (vs := [.pointer (some ⟨bp1, 0, none⟩)]) hrd (gd_T rfl (dl_lookup (m := 22) hu rfl (hd 22 dc))) dc rfl (evL.cons (dl_lookup (m := 23) hu rfl (hd 23 dc)) evL.nil) rfl en_23 (poem_Poem_Stanzas_fn (bp1 := bp1) (p1 := p1) (p1_h0 := p1_h0) (p1_h1 := p1_h1) hq4) (.ro 0 rfl (.ro 1 rfl (.ro 2 rfl .nil))) ?_
      exact TX.quiet 24 hu hi rfl
     ·
      intro D hn hd hcl hu hi
      refine TO.fieldAddr fl_56_1 (gd_T rfl (dl_lookup (m := 22) hu rfl (hd 22 dc))) dc (dl_old (by rfl) rfl) (show _ = 1 from rfl) ?_
      exact TX.quiet 25 hu hi rfl
     ·
      intro D hn hd hcl hu hi
      refine TO.load (k := 2) sc_54 (gd_T rfl (dl_lookup (m := 22) hu rfl (hd 22 dc))) dc (dl_lookup (m := 25) hu rfl (hd 25 dc)) rfl rfl ?_
      exact TX.quiet 26 hu hi rfl
     ·
      intro D hn hd hcl hu hi
      refine TO.lenVwZ hzwv10 hwwv10 (gd_T rfl (dl_lookup (m := 22) hu rfl (hd 22 dc))) dc (dl_lookup (m := 26) hu rfl (hd 26 dc)) Tryd.underlying54 ?_
      exact TX.quiet 27 hu hi rfl
     ·
      intro D hn hd hcl hu hi
      refine TO.bin (gd_T rfl (dl_lookup (m := 22) hu rfl (hd 22 dc))) dc (dl_lookup (m := 24) hu rfl (hd 24 dc)) (dl_lookup (m := 27) hu rfl (hd 27 dc)) bin_neq (TO.rewH (show Value.bool ((r4 : Int) != (wv1.Stanzas.length : Int)) = Value.bool true from congrArg Value.bool hb4) ?_)
      exact TX.quiet 28 hu hi rfl
     ·
      intro D hn hd hcl hu hi
      refine TO.pick (b := false) rfl dc (dl_lookup (m := 22) hu rfl (hd 22 dc)) (dl_lookup (m := 28) hu rfl (hd 28 dc)) ?_
      exact TX.quiet 29 hu hi rfl
     ·
      intro D hn hd hcl hu hi
      refine TO.move rfl dc (dl_lookup (m := 29) hu rfl (hd 29 dc)) ?_
      exact TX.quiet 30 hu hi rfl
     ·
      intro D hn hd hcl hu hi
      refine TO.skip (gd_F rfl (dl_lookup (m := 30) hu rfl (hd 30 dc))) dc ?_
      exact TX.quiet 31 hu hi rfl
     ·
      intro D hn hd hcl hu hi
      refine TO.skip (gd_F rfl (dl_lookup (m := 30) hu rfl (hd 30 dc))) dc ?_
      exact TX.quiet 32 hu hi rfl
     ·
      intro D hn hd hcl hu hi
      refine TO.skip (gd_F rfl (dl_lookup (m := 30) hu rfl (hd 30 dc))) dc ?_
      exact TX.quiet 33 hu hi rfl
     refine TO.skip rfl dc (TO.skip rfl dc (TO.pick (b := true) rfl dc rfl rfl (TO.nil (TX.next (TC.condT rfl (TC.seq (TC.region ?_)))))))
     refine TO.store (k := 4) (l' := [.bool false]) sz_4 rfl rfl rfl rfl rfl (fun _ _ => rfl) rfl ?_
     refine TO.nil (TX.next (TC.ret (TX.thenRet ?_)))
     cases h
     exact TX.finM (rs := [.cell 8 4]) ([] : List Nat) () (.inl rfl) (Splits.open0 (k := 0) rfl) Tryd.results31 (.cons (.cell sc_4 (k := 4) rfl rfl) .nil) rfl Splits.nil
    ·
     have h := condF hb4 h
     obtain ⟨r5, hq5, h⟩ := andE h
     obtain ⟨r6, hq6, h⟩ := andE h
     refine TC.drawN 34 [(0, 27, .pointer (some ⟨bp1, 0, none⟩)), (1, 28, .bool false), (2, 29, .bool false), (3, 30, .pointer (some ⟨bp1, 0, none⟩)), (4, 31, .string r1), (5, 32, .string source1), (6, 33, .bool false), (7, 34, .bool false), (8, 35, .bool false), (9, 36, .pointer (some ⟨bp1, 0, none⟩)), (10, 37, .string r2), (11, 38, .pointer (some ⟨b2, 0, none⟩)), (12, 39, .string wv1.Title), (13, 40, .bool false), (14, 41, .bool false), (15, 42, .bool false), (16, 43, .pointer (some ⟨bp1, 0, none⟩)), (17, 44, .int .i64 r3), (18, 45, vl1), (19, 46, .int .i64 (l1.length : Int)), (20, 47, .bool false), (21, 48, .bool false), (22, 49, .bool false), (23, 50, .pointer (some ⟨bp1, 0, none⟩)), (24, 51, .int .i64 r4), (25, 52, .pointer (some ⟨b2, 1, none⟩)), (26, 53, wv1_h0.v), (27, 54, .int .i64 (wv1.Stanzas.length : Int)), (28, 55, .bool false), (29, 56, .bool false), (30, 57, .bool false), (31, 58, .pointer (some ⟨bp1, 0, none⟩)), (32, 59, .string r5), (33, 60, .agg #[.string wv1.Title, wv1_h0.v])] mixed kr kr dc (by rfl) kr kr (DrawPre.cons ?_ (DrawPre.cons ?_ (DrawPre.cons ?_ (DrawPre.cons ?_ (DrawPre.cons ?_ (DrawPre.cons ?_ (DrawPre.cons ?_ (DrawPre.cons ?_ (DrawPre.cons ?_ (DrawPre.cons ?_ (DrawPre.cons ?_ (DrawPre.cons ?_ (DrawPre.cons ?_ (DrawPre.cons ?_ (DrawPre.cons ?_ (DrawPre.cons ?_ (DrawPre.cons ?_ (DrawPre.cons ?_ (DrawPre.cons ?_ (DrawPre.cons ?_ (DrawPre.cons ?_ (DrawPre.cons ?_ (DrawPre.cons ?_ (DrawPre.cons ?_ (DrawPre.cons ?_ (DrawPre.cons ?_ (DrawPre.cons ?_ (DrawPre.cons ?_ (DrawPre.cons ?_ (DrawPre.cons ?_ (DrawPre.cons ?_ (DrawPre.cons ?_ (DrawPre.cons ?_ (DrawPre.cons ?_ DrawPre.nil)))))))))))))))))))))))))))))))))) ?_
     ·
      intro D hn hd hcl hu hi
      refine TO.load (k := 1) sc_23 rfl dc (dl_old (by rfl) rfl) rfl rfl ?_
      exact TX.quiet 0 hu hi rfl
     ·
      intro D hn hd hcl hu hi
      refine TO.bin rfl dc (dl_lookup (m := 0) hu rfl (hd 0 dc)) rfl (bin_ptrnileqlR Tryd.underlying23) ?_
      exact TX.quiet 1 hu hi rfl
     ·
      intro D hn hd hcl hu hi
      refine TO.move rfl dc (dl_lookup (m := 1) hu rfl (hd 1 dc)) ?_
      exact TX.quiet 2 hu hi rfl
     ·
      intro D hn hd hcl hu hi
      refine TO.load (k := 1) sc_23 (gd_T rfl (dl_lookup (m := 2) hu rfl (hd 2 dc))) dc (dl_old (by rfl) rfl) rfl rfl ?_
      exact TX.quiet 3 hu hi rfl
     ·
      intro D hn hd hcl hu hi
      refine TO.callPR (v := .string r1) (vs := [.pointer (some ⟨bp1, 0, none⟩)]) hrd (gd_T rfl (dl_lookup (m := 2) hu rfl (hd 2 dc))) dc rfl (evL.cons (dl_lookup (m := 3) hu rfl (hd 3 dc)) evL.nil) rfl en_20 (poem_Poem_Source_fn (bp1 := bp1) (p1 := p1) (p1_h0 := p1_h0) (p1_h1 := p1_h1) hq1) (.ro 0 rfl (.ro 1 rfl (.ro 2 rfl .nil))) ?_
      exact TX.quiet 4 hu hi rfl
     ·
      intro D hn hd hcl hu hi
      refine TO.move (gd_T rfl (dl_lookup (m := 2) hu rfl (hd 2 dc))) dc (dl_old (by rfl) rfl) ?_
      exact TX.quiet 5 hu hi rfl
     ·
      intro D hn hd hcl hu hi
      refine TO.bin (gd_T rfl (dl_lookup (m := 2) hu rfl (hd 2 dc))) dc (dl_lookup (m := 4) hu rfl (hd 4 dc)) (dl_lookup (m := 5) hu rfl (hd 5 dc)) bin_sneq (TO.rewH (show Value.bool (!decide (r1 = source1)) = Value.bool false from congrArg Value.bool hb1) ?_)
      exact TX.quiet 6 hu hi rfl
     ·
      intro D hn hd hcl hu hi
      refine TO.pick (b := false) rfl dc (dl_lookup (m := 2) hu rfl (hd 2 dc)) (dl_lookup (m := 6) hu rfl (hd 6 dc)) ?_
      exact TX.quiet 7 hu hi rfl
     ·
      intro D hn hd hcl hu hi
      refine TO.move rfl dc (dl_lookup (m := 7) hu rfl (hd 7 dc)) ?_
      exact TX.quiet 8 hu hi rfl
     ·
      intro D hn hd hcl hu hi
      refine TO.load (k := 1) sc_23 (gd_T rfl (dl_lookup (m := 8) hu rfl (hd 8 dc))) dc (dl_old (by rfl) rfl) rfl rfl ?_
      exact TX.quiet 9 hu hi rfl
     ·
      intro D hn hd hcl hu hi
      refine TO.callPR (v := .string r2) (vs := [.pointer (some ⟨bp1, 0, none⟩)]) hrd (gd_T rfl (dl_lookup (m := 8) hu rfl (hd 8 dc))) dc rfl (evL.cons (dl_lookup (m := 9) hu rfl (hd 9 dc)) evL.nil) rfl en_24 (poem_Poem_Title_fn (bp1 := bp1) (p1 := p1) (p1_h0 := p1_h0) (p1_h1 := p1_h1) hq2) (.ro 0 rfl (.ro 1 rfl (.ro 2 rfl .nil))) ?_
      exact TX.quiet 10 hu hi rfl
     ·
      intro D hn hd hcl hu hi
      refine TO.fieldAddr fl_56_0 (gd_T rfl (dl_lookup (m := 8) hu rfl (hd 8 dc))) dc (dl_old (by rfl) rfl) (show _ = 0 from rfl) ?_
      exact TX.quiet 11 hu hi rfl
     ·
      intro D hn hd hcl hu hi
      refine TO.load (k := 2) sc_9 (gd_T rfl (dl_lookup (m := 8) hu rfl (hd 8 dc))) dc (dl_lookup (m := 11) hu rfl (hd 11 dc)) rfl rfl ?_
      exact TX.quiet 12 hu hi rfl
     ·
      intro D hn hd hcl hu hi
      refine TO.bin (gd_T rfl (dl_lookup (m := 8) hu rfl (hd 8 dc))) dc (dl_lookup (m := 10) hu rfl (hd 10 dc)) (dl_lookup (m := 12) hu rfl (hd 12 dc)) bin_sneq (TO.rewH (show Value.bool (!decide (r2 = wv1.Title)) = Value.bool false from congrArg Value.bool hb2) ?_)
      exact TX.quiet 13 hu hi rfl
     ·
      intro D hn hd hcl hu hi
      refine TO.pick (b := false) rfl dc (dl_lookup (m := 8) hu rfl (hd 8 dc)) (dl_lookup (m := 13) hu rfl (hd 13 dc)) ?_
      exact TX.quiet 14 hu hi rfl
     ·
      intro D hn hd hcl hu hi
      refine TO.move rfl dc (dl_lookup (m := 14) hu rfl (hd 14 dc)) ?_
      exact TX.quiet 15 hu hi rfl
     ·
      intro D hn hd hcl hu hi
      refine TO.load (k := 1) sc_23 (gd_T rfl (dl_lookup (m := 15) hu rfl (hd 15 dc))) dc (dl_old (by rfl) rfl) rfl rfl ?_
      exact TX.quiet 16 hu hi rfl
     ·
      intro D hn hd hcl hu hi
      refine TO.callPR (v := .int .i64 r3) (vs := [.pointer (some ⟨bp1, 0, none⟩)]) hrd (gd_T rfl (dl_lookup (m := 15) hu rfl (hd 15 dc))) dc rfl (evL.cons (dl_lookup (m := 16) hu rfl (hd 16 dc)) evL.nil) rfl en_21 (poem_Poem_Lines_fn (bp1 := bp1) (p1 := p1) (p1_h0 := p1_h0) (p1_h1 := p1_h1) hq3) (.ro 0 rfl (.ro 1 rfl (.ro 2 rfl .nil))) ?_
      exact TX.quiet 17 hu hi rfl
     ·
      intro D hn hd hcl hu hi
      refine TO.load (k := 3) sc_57 (gd_T rfl (dl_lookup (m := 15) hu rfl (hd 15 dc))) dc (dl_old (by rfl) rfl) rfl rfl ?_
      exact TX.quiet 18 hu hi rfl
     ·
      intro D hn hd hcl hu hi
      refine TO.lenVw hwl1 (gd_T rfl (dl_lookup (m := 15) hu rfl (hd 15 dc))) dc (dl_lookup (m := 18) hu rfl (hd 18 dc)) Tryd.underlying57 ?_
      exact TX.quiet 19 hu hi rfl
     ·
      intro D hn hd hcl hu hi
      refine TO.bin (gd_T rfl (dl_lookup (m := 15) hu rfl (hd 15 dc))) dc (dl_lookup (m := 17) hu rfl (hd 17 dc)) (dl_lookup (m := 19) hu rfl (hd 19 dc)) bin_neq (TO.rewH (show Value.bool ((r3 : Int) != (l1.length : Int)) = Value.bool false from congrArg Value.bool hb3) ?_)
      exact TX.quiet 20 hu hi rfl
     ·
      intro D hn hd hcl hu hi
      refine TO.pick (b := false) rfl dc (dl_lookup (m := 15) hu rfl (hd 15 dc)) (dl_lookup (m := 20) hu rfl (hd 20 dc)) ?_
      exact TX.quiet 21 hu hi rfl
     ·
      intro D hn hd hcl hu hi
      refine TO.move rfl dc (dl_lookup (m := 21) hu rfl (hd 21 dc)) ?_
      exact TX.quiet 22 hu hi rfl
     ·
      intro D hn hd hcl hu hi
      refine TO.load (k := 1) sc_23 (gd_T rfl (dl_lookup (m := 22) hu rfl (hd 22 dc))) dc (dl_old (by rfl) rfl) rfl rfl ?_
      exact TX.quiet 23 hu hi rfl
     ·
      intro D hn hd hcl hu hi
      refine TO.callPR (v := .int .i64 r4) (vs := [.pointer (some ⟨bp1, 0, none⟩)]) hrd (gd_T rfl (dl_lookup (m := 22) hu rfl (hd 22 dc))) dc rfl (evL.cons (dl_lookup (m := 23) hu rfl (hd 23 dc)) evL.nil) rfl en_23 (poem_Poem_Stanzas_fn (bp1 := bp1) (p1 := p1) (p1_h0 := p1_h0) (p1_h1 := p1_h1) hq4) (.ro 0 rfl (.ro 1 rfl (.ro 2 rfl .nil))) ?_
      exact TX.quiet 24 hu hi rfl
     ·
      intro D hn hd hcl hu hi
      refine TO.fieldAddr fl_56_1 (gd_T rfl (dl_lookup (m := 22) hu rfl (hd 22 dc))) dc (dl_old (by rfl) rfl) (show _ = 1 from rfl) ?_
      exact TX.quiet 25 hu hi rfl
     ·
      intro D hn hd hcl hu hi
      refine TO.load (k := 2) sc_54 (gd_T rfl (dl_lookup (m := 22) hu rfl (hd 22 dc))) dc (dl_lookup (m := 25) hu rfl (hd 25 dc)) rfl rfl ?_
      exact TX.quiet 26 hu hi rfl
     ·
      intro D hn hd hcl hu hi
      refine TO.lenVwZ hzwv10 hwwv10 (gd_T rfl (dl_lookup (m := 22) hu rfl (hd 22 dc))) dc (dl_lookup (m := 26) hu rfl (hd 26 dc)) Tryd.underlying54 ?_
      exact TX.quiet 27 hu hi rfl
     ·
      intro D hn hd hcl hu hi
      refine TO.bin (gd_T rfl (dl_lookup (m := 22) hu rfl (hd 22 dc))) dc (dl_lookup (m := 24) hu rfl (hd 24 dc)) (dl_lookup (m := 27) hu rfl (hd 27 dc)) bin_neq (TO.rewH (show Value.bool ((r4 : Int) != (wv1.Stanzas.length : Int)) = Value.bool false from congrArg Value.bool hb4) ?_)
      exact TX.quiet 28 hu hi rfl
     ·
      intro D hn hd hcl hu hi
      refine TO.pick (b := false) rfl dc (dl_lookup (m := 22) hu rfl (hd 22 dc)) (dl_lookup (m := 28) hu rfl (hd 28 dc)) ?_
      exact TX.quiet 29 hu hi rfl
     ·
      intro D hn hd hcl hu hi
      refine TO.move rfl dc (dl_lookup (m := 29) hu rfl (hd 29 dc)) ?_
      exact TX.quiet 30 hu hi rfl
     ·
      intro D hn hd hcl hu hi
      refine TO.load (k := 1) sc_23 (gd_T rfl (dl_lookup (m := 30) hu rfl (hd 30 dc))) dc (dl_old (by rfl) rfl) rfl rfl ?_
      exact TX.quiet 31 hu hi rfl
     ·
      intro D hn hd hcl hu hi
      refine TO.callPR (v := .string r5) (vs := [.pointer (some ⟨bp1, 0, none⟩)]) hrd (gd_T rfl (dl_lookup (m := 30) hu rfl (hd 30 dc))) dc rfl (evL.cons (dl_lookup (m := 31) hu rfl (hd 31 dc)) evL.nil) rfl en_18 (poem_Poem_Print_fn (bp1 := bp1) (p1 := p1) (p1_h0 := p1_h0) (p1_h1 := p1_h1) hq5) (.ro 0 rfl (.ro 1 rfl (.ro 2 rfl .nil))) ?_
      exact TX.quiet 32 hu hi rfl
     ·
      intro D hn hd hcl hu hi
      refine TO.loads (k := 2) (cs := [.string wv1.Title, wv1_h0.v]) rw_56 (gd_T rfl (dl_lookup (m := 30) hu rfl (hd 30 dc))) dc (dl_old (by rfl) rfl) rfl rfl rfl ?_
      exact TX.quiet 33 hu hi rfl
     refine TO.callPR (v := .string r6) (vs := [.agg #[.string wv1.Title, wv1_h0.v]]) hrd rfl dc rfl rfl rfl en_68 (ref17_Print_fn (p1_h0 := wv1_h0) (p1 := wv1) hwwv10 hzwv10 hq6) (.ro 3 rfl (.ro 4 rfl .nil)) (TO.bin rfl dc rfl rfl bin_sneq (TO.pick (b := false) rfl dc rfl rfl (TO.nil (TX.next ?_))))
     refine TC.condB rfl (fun hb5 => ?_) (fun hb5 => ?_)
     ·
      have h := condT hb5 h
      refine TC.seq (TC.region ?_)
      refine TO.store (k := 4) (l' := [.bool false]) sz_4 rfl rfl rfl rfl rfl (fun _ _ => rfl) rfl ?_
      refine TO.nil (TX.next (TC.ret (TX.thenRet ?_)))
      cases h
      exact TX.finM (rs := [.cell 8 4]) ([] : List Nat) () (.inl rfl) (Splits.open0 (k := 0) rfl) Tryd.results31 (.cons (.cell sc_4 (k := 4) rfl rfl) .nil) rfl Splits.nil
     ·
      have h := condF hb5 h
      refine TC.skip (TX.next ?_)
      obtain ⟨j1, hj1, h⟩ := joinE h
      refine TC.cutN (β := Int × Nat × (List Nat)) 1 rfl (fun b => j1 b.1 = some r) (fun b => marksOf b.2.2) (fun b => [(4, .pointer (some ⟨b1, 0, none⟩)), (6, .pointer (some ⟨b2, 0, none⟩)), (7, .pointer (some ⟨b3, 0, none⟩)), (8, .pointer (some ⟨b4, 0, none⟩)), (9, .pointer (some ⟨b.2.1, 0, none⟩))]) (fun b => [cells b1 [.pointer (some ⟨bp1, 0, none⟩)] 23, cells b2 [.string wv1.Title, wv1_h0.v] 56, cells b3 [vl1] 57, cells b4 [.bool false] 4, cells b.2.1 [.int .i64 b.1] 3, star ((b.2.2 : List Nat).map mark)]) (fun cut => ?_) ?_
      ·
       refine TC.seq (TC.region ?_)
       refine TO.alloc zr_3 rfl dc (fun b6 => ?_)
       refine TO.store (k := 5) (l' := [.int .i64 0]) sz_3 rfl rfl rfl rfl rfl (fun _ _ => rfl) rfl ?_
       show TO _ _ _ _ _ _ _ _ _ _ [star ((([] : List Nat) : List Nat).map mark), cells b1 [.pointer (some ⟨bp1, 0, none⟩)] 23, cells b2 [.string wv1.Title, wv1_h0.v] 56, cells b3 [vl1] 57, cells b4 [.bool false] 4, cells b6 [.int .i64 0] 3]
       refine TO.nil (TX.next (cut (TC.seq (TC.region (TO.load (k := 1) sc_23 rfl dc rfl rfl rfl ?_)))))
       obtain ⟨r7, hq7, h⟩ := andE h
       refine TO.callR (vs := [.pointer (some ⟨bp1, 0, none⟩)]) hrd rfl dc rfl rfl rfl en_14 (poem_Poem_Each_fn (bp1 := bp1) (p1 := p1) (p1_h0 := p1_h0) (p1_h1 := p1_h1) hq7) Splits.nil (.ro 0 rfl (.ro 1 rfl (.ro 2 rfl .nil))) ?_
       rintro b7
       show TO _ _ _ _ _ _ _ _ _ _ [star ((([] : List Nat) : List Nat).map mark), cells b1 [.pointer (some ⟨bp1, 0, none⟩)] 23, cells b2 [.string wv1.Title, wv1_h0.v] 56, cells b3 [vl1] 57, cells b4 [.bool false] 4, cells b6 [.int .i64 0] 3, cells b7 [.pointer (some ⟨bp1, 0, none⟩)] 23]
       refine TO.weakenL (L' := [star ((([] : List Nat) : List Nat).map mark), cells b1 [.pointer (some ⟨bp1, 0, none⟩)] 23, cells b2 [.string wv1.Title, wv1_h0.v] 56, cells b3 [vl1] 57, cells b4 [.bool false] 4, cells b6 [.int .i64 0] 3, cells b7 [.pointer (some ⟨bp1, 0, none⟩)] 23]) (Splits.of [0, 1, 2, 3, 4, 5, 6] kr rfl) (TO.nil (TX.next (TC.block ?_)))
       obtain ⟨its1, hq8, h⟩ := andE h
       obtain ⟨ek1, hek1, h⟩ := joinE h
       obtain ⟨dn1, hdn1, h⟩ := joinE h
       refine TC.rangeR (α := Int × Gapi_Verse) (β := Int) (γ := Int) (δ := Nat) (ps := [66, 67]) hrd Ro.nil rfl en_52 (poem_Poem_Each_1_itr hq8) (fun pre b => ∀ post, its1 = pre ++ post → rangeG dn1 (law17_is_s1 p1 l1 ek1) post b = some r) (fun pre b => [cells b1 [.pointer (some ⟨bp1, 0, none⟩)] 23, cells b2 [.string wv1.Title, wv1_h0.v] 56, cells b3 [vl1] 57, cells b4 [.bool false] 4, cells b6 [.int .i64 b] 3]) (fun c pre g => (fun g => c = .ret ∧ ek1 g = some r) g) (fun c pre g => (fun g => [cells b1 [.pointer (some ⟨bp1, 0, none⟩)] 23, cells b2 [.string wv1.Title, wv1_h0.v] 56, cells b3 [vl1] 57, cells b4 [.bool false] 4, cells b6 [.int .i64 g] 3]) g) (fun pre x b j => [(4, .pointer (some ⟨b1, 0, none⟩)), (6, .pointer (some ⟨b2, 0, none⟩)), (7, .pointer (some ⟨b3, 0, none⟩)), (8, .pointer (some ⟨b4, 0, none⟩)), (9, .pointer (some ⟨b6, 0, none⟩)), (65, .func (.func 52) #[] #[.pointer (some ⟨b7, 0, none⟩)]), (10, .int .i64 x.1), (11, .pointer (some ⟨j, 0, none⟩))]) (fun pre x b j => [cells b1 [.pointer (some ⟨bp1, 0, none⟩)] 23, cells b2 [.string wv1.Title, wv1_h0.v] 56, cells b3 [vl1] 57, cells b4 [.bool false] 4, cells b6 [.int .i64 b] 3, cells j [.string x.2.Text, .int .i64 x.2.Indent, .int .i64 x.2.Stanza, .int .i64 x.2.In, .int .i64 x.2.Span_From, .int .i64 x.2.Span_To] 36]) 0 (fun post e => by rw [List.nil_append] at e; subst e; exact h) (Splits.of [1, 2, 3, 4, 5] kr rfl) (.own (As := [cells b7 [.pointer (some ⟨bp1, 0, none⟩)] 23]) (Splits.of [6] (by kernel_rfl) rfl) (fun _ _ h => sepL.one1.1 h) (.ro 0 rfl (.ro 1 rfl (.ro 2 rfl .nil)))) (fun _ => rfl) dc ?_ ?_ ?_ ?_
       ·
        rintro lp rc pre x1 post i4 w1 K1 hxs1 hext hro hinv
        have hrd := hrd.ext hext
        refine TC.seq (TC.region (TO.assign rfl dc rfl (TO.nil (TX.next (TC.region ?_)))))
        refine TO.alloc zr_36 rfl dc (fun b8 => ?_)
        refine TO.stores (k := 5) (vs := [.string x1.2.Text, .int .i64 x1.2.Indent, .int .i64 x1.2.Stanza, .int .i64 x1.2.In, .int .i64 x1.2.Span_From, .int .i64 x1.2.Span_To]) (l' := [.string x1.2.Text, .int .i64 x1.2.Indent, .int .i64 x1.2.Stanza, .int .i64 x1.2.In, .int .i64 x1.2.Span_From, .int .i64 x1.2.Span_To]) sz_36 rfl rfl rfl rfl rfl (show _ ≤ _ by simp) rfl rfl ?_
        show TO _ _ _ _ _ _ _ _ _ _ [cells b1 [.pointer (some ⟨bp1, 0, none⟩)] 23, cells b2 [.string wv1.Title, wv1_h0.v] 56, cells b3 [vl1] 57, cells b4 [.bool false] 4, cells b6 [.int .i64 i4] 3, cells b8 [.string x1.2.Text, .int .i64 x1.2.Indent, .int .i64 x1.2.Stanza, .int .i64 x1.2.In, .int .i64 x1.2.Span_From, .int .i64 x1.2.Span_To] 36]
        refine TO.nil ?_
        exact fun a w ha hw => ⟨b8, (Sbs.cons rfl (Sbs.cons rfl (Sbs.cons rfl (Sbs.cons rfl (Sbs.cons rfl (Sbs.cons rfl (Sbs.cons rfl (Sbs.cons rfl (Sbs.nil))))))))) _ _ _ ha, hw.weaken (Splits.of [0, 1, 2, 3, 4, 5] kr rfl)⟩
       ·
        rintro lp rc pre x1 post1 i4 jb1 w1 K1 hxs1 hext hro hinv
        have hrd := hrd.ext hext
        have h := hinv (x1 :: post1) hxs1
        obtain ⟨ag1, hag1⟩ : ∃ ag, ag = rangeG dn1 (law17_is_s1 p1 l1 ek1) post1 := ⟨_, rfl⟩
        have h : law17_is_s1 p1 l1 ek1 x1 ag1 i4 = some r := by rw [hag1]; exact h
        unfold law17_is_s1 at h
        show TC _ _ _ _ _ _ _ _ [(4, .pointer (some ⟨b1, 0, none⟩)), (6, .pointer (some ⟨b2, 0, none⟩)), (7, .pointer (some ⟨b3, 0, none⟩)), (8, .pointer (some ⟨b4, 0, none⟩)), (9, .pointer (some ⟨b6, 0, none⟩)), (65, .func (.func 52) #[] #[.pointer (some ⟨b7, 0, none⟩)]), (10, .int .i64 x1.1), (11, .pointer (some ⟨jb1, 0, none⟩))] [cells b1 [.pointer (some ⟨bp1, 0, none⟩)] 23, cells b2 [.string wv1.Title, wv1_h0.v] 56, cells b3 [vl1] 57, cells b4 [.bool false] 4, cells b6 [.int .i64 i4] 3, cells jb1 [.string x1.2.Text, .int .i64 x1.2.Indent, .int .i64 x1.2.Stanza, .int .i64 x1.2.In, .int .i64 x1.2.Span_From, .int .i64 x1.2.Span_To] 36]
        refine TC.block (TC.seq (TC.seq ?_))
        refine TC.bySplit (b := decide (((l1.length : Int) : Int) ≤ i4)) (fun hb6 => ?_) (fun hb6 => ?_)
        ·
         have h := condT hb6 h
         refine TC.drawN 15 [(0, 68, .int .i64 i4), (1, 69, vl1), (2, 70, .int .i64 (l1.length : Int)), (3, 71, .bool true), (4, 72, .bool true), (5, 73, undef), (6, 74, undef), (7, 75, undef), (8, 76, .bool true), (9, 77, .bool true), (10, 78, undef), (11, 79, undef), (12, 80, undef), (13, 81, undef), (14, 82, undef)] mixed kr kr dc (by rfl) kr kr (DrawPre.cons ?_ (DrawPre.cons ?_ (DrawPre.cons ?_ (DrawPre.cons ?_ (DrawPre.cons ?_ (DrawPre.cons ?_ (DrawPre.cons ?_ (DrawPre.cons ?_ (DrawPre.cons ?_ (DrawPre.cons ?_ (DrawPre.cons ?_ (DrawPre.cons ?_ (DrawPre.cons ?_ (DrawPre.cons ?_ (DrawPre.cons ?_ DrawPre.nil))))))))))))))) ?_
         ·
          intro D hn hd hcl hu hi
          refine TO.load (k := 4) sc_3 rfl dc (dl_old (by rfl) rfl) rfl rfl ?_
          exact TX.quiet 0 hu hi rfl
         ·
          intro D hn hd hcl hu hi
          refine TO.load (k := 2) sc_57 rfl dc (dl_old (by rfl) rfl) rfl rfl ?_
          exact TX.quiet 1 hu hi rfl
         ·
          intro D hn hd hcl hu hi
          refine TO.lenVw hwl1 rfl dc (dl_lookup (m := 1) hu rfl (hd 1 dc)) Tryd.underlying57 ?_
          exact TX.quiet 2 hu hi rfl
         ·
          intro D hn hd hcl hu hi
          refine TO.bin rfl dc (dl_lookup (m := 0) hu rfl (hd 0 dc)) (dl_lookup (m := 2) hu rfl (hd 2 dc)) bin_geq (TO.rewH (show Value.bool (decide (((l1.length : Int) : Int) ≤ i4)) = Value.bool true from congrArg Value.bool hb6) ?_)
          exact TX.quiet 3 hu hi rfl
         ·
          intro D hn hd hcl hu hi
          refine TO.move rfl dc (dl_lookup (m := 3) hu rfl (hd 3 dc)) ?_
          exact TX.quiet 4 hu hi rfl
         ·
          intro D hn hd hcl hu hi
          refine TO.skip (gd_F rfl (dl_lookup (m := 4) hu rfl (hd 4 dc))) dc ?_
          exact TX.quiet 5 hu hi rfl
         ·
          intro D hn hd hcl hu hi
          refine TO.skip (gd_F rfl (dl_lookup (m := 4) hu rfl (hd 4 dc))) dc ?_
          exact TX.quiet 6 hu hi rfl
         ·
          intro D hn hd hcl hu hi
          refine TO.skip (gd_F rfl (dl_lookup (m := 4) hu rfl (hd 4 dc))) dc ?_
          exact TX.quiet 7 hu hi rfl
         ·
          intro D hn hd hcl hu hi
          refine TO.pick (b := true) rfl dc (dl_lookup (m := 4) hu rfl (hd 4 dc)) rfl ?_
          exact TX.quiet 8 hu hi rfl
         ·
          intro D hn hd hcl hu hi
          refine TO.move rfl dc (dl_lookup (m := 8) hu rfl (hd 8 dc)) ?_
          exact TX.quiet 9 hu hi rfl
         ·
          intro D hn hd hcl hu hi
          refine TO.skip (gd_F rfl (dl_lookup (m := 9) hu rfl (hd 9 dc))) dc ?_
          exact TX.quiet 10 hu hi rfl
         ·
          intro D hn hd hcl hu hi
          refine TO.skip (gd_F rfl (dl_lookup (m := 9) hu rfl (hd 9 dc))) dc ?_
          exact TX.quiet 11 hu hi rfl
         ·
          intro D hn hd hcl hu hi
          refine TO.skip (gd_F rfl (dl_lookup (m := 9) hu rfl (hd 9 dc))) dc ?_
          exact TX.quiet 12 hu hi rfl
         ·
          intro D hn hd hcl hu hi
          refine TO.skip (gd_F rfl (dl_lookup (m := 9) hu rfl (hd 9 dc))) dc ?_
          exact TX.quiet 13 hu hi rfl
         ·
          intro D hn hd hcl hu hi
          refine TO.skip (gd_F rfl (dl_lookup (m := 9) hu rfl (hd 9 dc))) dc ?_
          exact TX.quiet 14 hu hi rfl
         refine TO.skip rfl dc (TO.pick (b := true) rfl dc rfl rfl (TO.nil (TX.next (TC.condT rfl (TC.seq (TC.region ?_))))))
         refine TO.store (k := 3) (l' := [.bool false]) sz_4 rfl rfl rfl rfl rfl (fun _ _ => rfl) rfl ?_
         refine TO.nil (TX.next (TC.ret (TX.thenRet (TX.blockRet ?_))))
         exact TX.roundRet i4 (show _ ∧ _ from ⟨rfl, h⟩) (Splits.of [0, 1, 2, 3, 4] kr rfl)
        ·
         have h := condF hb6 h
         refine TC.bySplit (b := (x1.1 : Int) != i4) (fun hb7 => ?_) (fun hb7 => ?_)
         ·
          have h := condT hb7 h
          refine TC.drawN 15 [(0, 68, .int .i64 i4), (1, 69, vl1), (2, 70, .int .i64 (l1.length : Int)), (3, 71, .bool false), (4, 72, .bool false), (5, 73, .int .i64 x1.1), (6, 74, .int .i64 i4), (7, 75, .bool true), (8, 76, .bool true), (9, 77, .bool true), (10, 78, undef), (11, 79, undef), (12, 80, undef), (13, 81, undef), (14, 82, undef)] mixed kr kr dc (by rfl) kr kr (DrawPre.cons ?_ (DrawPre.cons ?_ (DrawPre.cons ?_ (DrawPre.cons ?_ (DrawPre.cons ?_ (DrawPre.cons ?_ (DrawPre.cons ?_ (DrawPre.cons ?_ (DrawPre.cons ?_ (DrawPre.cons ?_ (DrawPre.cons ?_ (DrawPre.cons ?_ (DrawPre.cons ?_ (DrawPre.cons ?_ (DrawPre.cons ?_ DrawPre.nil))))))))))))))) ?_
          ·
           intro D hn hd hcl hu hi
           refine TO.load (k := 4) sc_3 rfl dc (dl_old (by rfl) rfl) rfl rfl ?_
           exact TX.quiet 0 hu hi rfl
          ·
           intro D hn hd hcl hu hi
           refine TO.load (k := 2) sc_57 rfl dc (dl_old (by rfl) rfl) rfl rfl ?_
           exact TX.quiet 1 hu hi rfl
          ·
           intro D hn hd hcl hu hi
           refine TO.lenVw hwl1 rfl dc (dl_lookup (m := 1) hu rfl (hd 1 dc)) Tryd.underlying57 ?_
           exact TX.quiet 2 hu hi rfl
          ·
           intro D hn hd hcl hu hi
           refine TO.bin rfl dc (dl_lookup (m := 0) hu rfl (hd 0 dc)) (dl_lookup (m := 2) hu rfl (hd 2 dc)) bin_geq (TO.rewH (show Value.bool (decide (((l1.length : Int) : Int) ≤ i4)) = Value.bool false from congrArg Value.bool hb6) ?_)
           exact TX.quiet 3 hu hi rfl
          ·
           intro D hn hd hcl hu hi
           refine TO.move rfl dc (dl_lookup (m := 3) hu rfl (hd 3 dc)) ?_
           exact TX.quiet 4 hu hi rfl
          ·
           intro D hn hd hcl hu hi
           refine TO.move (gd_T rfl (dl_lookup (m := 4) hu rfl (hd 4 dc))) dc (dl_old (by rfl) rfl) ?_
           exact TX.quiet 5 hu hi rfl
          ·
           intro D hn hd hcl hu hi
           refine TO.load (k := 4) sc_3 (gd_T rfl (dl_lookup (m := 4) hu rfl (hd 4 dc))) dc (dl_old (by rfl) rfl) rfl rfl ?_
           exact TX.quiet 6 hu hi rfl
          ·
           intro D hn hd hcl hu hi
           refine TO.bin (gd_T rfl (dl_lookup (m := 4) hu rfl (hd 4 dc))) dc (dl_lookup (m := 5) hu rfl (hd 5 dc)) (dl_lookup (m := 6) hu rfl (hd 6 dc)) bin_neq (TO.rewH (show Value.bool ((x1.1 : Int) != i4) = Value.bool true from congrArg Value.bool hb7) ?_)
           exact TX.quiet 7 hu hi rfl
          ·
           intro D hn hd hcl hu hi
           refine TO.pick (b := false) rfl dc (dl_lookup (m := 4) hu rfl (hd 4 dc)) (dl_lookup (m := 7) hu rfl (hd 7 dc)) ?_
           exact TX.quiet 8 hu hi rfl
          ·
           intro D hn hd hcl hu hi
           refine TO.move rfl dc (dl_lookup (m := 8) hu rfl (hd 8 dc)) ?_
           exact TX.quiet 9 hu hi rfl
          ·
           intro D hn hd hcl hu hi
           refine TO.skip (gd_F rfl (dl_lookup (m := 9) hu rfl (hd 9 dc))) dc ?_
           exact TX.quiet 10 hu hi rfl
          ·
           intro D hn hd hcl hu hi
           refine TO.skip (gd_F rfl (dl_lookup (m := 9) hu rfl (hd 9 dc))) dc ?_
           exact TX.quiet 11 hu hi rfl
          ·
           intro D hn hd hcl hu hi
           refine TO.skip (gd_F rfl (dl_lookup (m := 9) hu rfl (hd 9 dc))) dc ?_
           exact TX.quiet 12 hu hi rfl
          ·
           intro D hn hd hcl hu hi
           refine TO.skip (gd_F rfl (dl_lookup (m := 9) hu rfl (hd 9 dc))) dc ?_
           exact TX.quiet 13 hu hi rfl
          ·
           intro D hn hd hcl hu hi
           refine TO.skip (gd_F rfl (dl_lookup (m := 9) hu rfl (hd 9 dc))) dc ?_
           exact TX.quiet 14 hu hi rfl
          refine TO.skip rfl dc (TO.pick (b := true) rfl dc rfl rfl (TO.nil (TX.next (TC.condT rfl (TC.seq (TC.region ?_))))))
          refine TO.store (k := 3) (l' := [.bool false]) sz_4 rfl rfl rfl rfl rfl (fun _ _ => rfl) rfl ?_
          refine TO.nil (TX.next (TC.ret (TX.thenRet (TX.blockRet ?_))))
          exact TX.roundRet i4 (show _ ∧ _ from ⟨rfl, h⟩) (Splits.of [0, 1, 2, 3, 4] kr rfl)
         ·
          have h := condF hb7 h
          obtain ⟨q1, hq9, h⟩ := andE h
          refine TC.drawN 15 [(0, 68, .int .i64 i4), (1, 69, vl1), (2, 70, .int .i64 (l1.length : Int)), (3, 71, .bool false), (4, 72, .bool false), (5, 73, .int .i64 x1.1), (6, 74, .int .i64 i4), (7, 75, .bool false), (8, 76, .bool false), (9, 77, .bool false), (10, 78, .agg #[.string x1.2.Text, .int .i64 x1.2.Indent, .int .i64 x1.2.Stanza, .int .i64 x1.2.In, .int .i64 x1.2.Span_From, .int .i64 x1.2.Span_To]), (11, 79, vl1), (12, 80, .int .i64 i4), (13, 81, .pointer (some ⟨vblk vvl1, (kl1 + (i4 : Int).toNat) * 6, none⟩)), (14, 82, .agg #[.string q1.Text, .int .i64 q1.Indent, .int .i64 q1.Stanza, .int .i64 q1.In, .int .i64 q1.Span_From, .int .i64 q1.Span_To])] mixed kr kr dc (by rfl) kr kr (DrawPre.cons ?_ (DrawPre.cons ?_ (DrawPre.cons ?_ (DrawPre.cons ?_ (DrawPre.cons ?_ (DrawPre.cons ?_ (DrawPre.cons ?_ (DrawPre.cons ?_ (DrawPre.cons ?_ (DrawPre.cons ?_ (DrawPre.cons ?_ (DrawPre.cons ?_ (DrawPre.cons ?_ (DrawPre.cons ?_ (DrawPre.cons ?_ DrawPre.nil))))))))))))))) ?_
          ·
           intro D hn hd hcl hu hi
           refine TO.load (k := 4) sc_3 rfl dc (dl_old (by rfl) rfl) rfl rfl ?_
           exact TX.quiet 0 hu hi rfl
          ·
           intro D hn hd hcl hu hi
           refine TO.load (k := 2) sc_57 rfl dc (dl_old (by rfl) rfl) rfl rfl ?_
           exact TX.quiet 1 hu hi rfl
          ·
           intro D hn hd hcl hu hi
           refine TO.lenVw hwl1 rfl dc (dl_lookup (m := 1) hu rfl (hd 1 dc)) Tryd.underlying57 ?_
           exact TX.quiet 2 hu hi rfl
          ·
           intro D hn hd hcl hu hi
           refine TO.bin rfl dc (dl_lookup (m := 0) hu rfl (hd 0 dc)) (dl_lookup (m := 2) hu rfl (hd 2 dc)) bin_geq (TO.rewH (show Value.bool (decide (((l1.length : Int) : Int) ≤ i4)) = Value.bool false from congrArg Value.bool hb6) ?_)
           exact TX.quiet 3 hu hi rfl
          ·
           intro D hn hd hcl hu hi
           refine TO.move rfl dc (dl_lookup (m := 3) hu rfl (hd 3 dc)) ?_
           exact TX.quiet 4 hu hi rfl
          ·
           intro D hn hd hcl hu hi
           refine TO.move (gd_T rfl (dl_lookup (m := 4) hu rfl (hd 4 dc))) dc (dl_old (by rfl) rfl) ?_
           exact TX.quiet 5 hu hi rfl
          ·
           intro D hn hd hcl hu hi
           refine TO.load (k := 4) sc_3 (gd_T rfl (dl_lookup (m := 4) hu rfl (hd 4 dc))) dc (dl_old (by rfl) rfl) rfl rfl ?_
           exact TX.quiet 6 hu hi rfl
          ·
           intro D hn hd hcl hu hi
           refine TO.bin (gd_T rfl (dl_lookup (m := 4) hu rfl (hd 4 dc))) dc (dl_lookup (m := 5) hu rfl (hd 5 dc)) (dl_lookup (m := 6) hu rfl (hd 6 dc)) bin_neq (TO.rewH (show Value.bool ((x1.1 : Int) != i4) = Value.bool false from congrArg Value.bool hb7) ?_)
           exact TX.quiet 7 hu hi rfl
          ·
           intro D hn hd hcl hu hi
           refine TO.pick (b := false) rfl dc (dl_lookup (m := 4) hu rfl (hd 4 dc)) (dl_lookup (m := 7) hu rfl (hd 7 dc)) ?_
           exact TX.quiet 8 hu hi rfl
          ·
           intro D hn hd hcl hu hi
           refine TO.move rfl dc (dl_lookup (m := 8) hu rfl (hd 8 dc)) ?_
           exact TX.quiet 9 hu hi rfl
          ·
           intro D hn hd hcl hu hi
           refine TO.loads (k := 5) (cs := [.string x1.2.Text, .int .i64 x1.2.Indent, .int .i64 x1.2.Stanza, .int .i64 x1.2.In, .int .i64 x1.2.Span_From, .int .i64 x1.2.Span_To]) rw_36 (gd_T rfl (dl_lookup (m := 9) hu rfl (hd 9 dc))) dc (dl_old (by rfl) rfl) rfl rfl rfl ?_
           exact TX.quiet 10 hu hi rfl
          ·
           intro D hn hd hcl hu hi
           refine TO.load (k := 2) sc_57 (gd_T rfl (dl_lookup (m := 9) hu rfl (hd 9 dc))) dc (dl_old (by rfl) rfl) rfl rfl ?_
           exact TX.quiet 11 hu hi rfl
          ·
           intro D hn hd hcl hu hi
           refine TO.load (k := 4) sc_3 (gd_T rfl (dl_lookup (m := 9) hu rfl (hd 9 dc))) dc (dl_old (by rfl) rfl) rfl rfl ?_
           exact TX.quiet 12 hu hi rfl
          ·
           intro D hn hd hcl hu hi
           refine TO.indexVw hwl1 hq9 Tryd.underlying57 sz_36 (gd_T rfl (dl_lookup (m := 9) hu rfl (hd 9 dc))) dc (dl_lookup (m := 11) hu rfl (hd 11 dc)) (dl_lookup (m := 12) hu rfl (hd 12 dc)) rfl ?_
           exact TX.quiet 13 hu hi rfl
          ·
           intro D hn hd hcl hu hi
           refine TO.loadsRowRd (m := kl1 + (i4 : Int).toNat) (j := 0) (i := 5) (q := q1) (cs := [.string q1.Text, .int .i64 q1.Indent, .int .i64 q1.Stanza, .int .i64 q1.In, .int .i64 q1.Span_From, .int .i64 q1.Span_To]) hrd rfl (by omega) rw_36 (gd_T rfl (dl_lookup (m := 9) hu rfl (hd 9 dc))) dc (dl_lookup (m := 13) hu rfl (hd 13 dc)) (Vw.get hwl1 hq9) rfl rfl rfl ?_
           exact TX.quiet 14 hu hi rfl
          refine TO.bin rfl dc rfl rfl (bin_neq_36 x1.2 q1) (TO.pick (b := false) rfl dc rfl rfl (TO.nil (TX.next ?_)))
          refine TC.condB rfl (fun hb8 => ?_) (fun hb8 => ?_)
          ·
           have h := condT hb8 h
           refine TC.seq (TC.region ?_)
           refine TO.store (k := 3) (l' := [.bool false]) sz_4 rfl rfl rfl rfl rfl (fun _ _ => rfl) rfl ?_
           refine TO.nil (TX.next (TC.ret (TX.thenRet (TX.blockRet ?_))))
           exact TX.roundRet i4 (show _ ∧ _ from ⟨rfl, h⟩) (Splits.of [0, 1, 2, 3, 4] kr rfl)
          ·
           have h := condF hb8 h
           refine TC.skip (TX.next (TC.seq (TC.region (TO.load (k := 0) sc_23 rfl dc rfl rfl rfl (TO.load (k := 4) sc_3 rfl dc rfl rfl rfl ?_)))))
           obtain ⟨r8, hq10, h⟩ := andE h
           refine TO.callPR (v := .tuple #[.agg #[.string r8.1.Text, .int .i64 r8.1.Indent, .int .i64 r8.1.Stanza, .int .i64 r8.1.In, .int .i64 r8.1.Span_From, .int .i64 r8.1.Span_To], .int .i64 r8.2]) (vs := [.pointer (some ⟨bp1, 0, none⟩), .int .i64 i4]) hrd rfl dc rfl rfl rfl en_28 (poem_Poem_Line_fn (bp1 := bp1) (p1 := p1) (p1_h0 := p1_h0) (p1_h1 := p1_h1) hq10) (.ro 0 rfl (.ro 1 rfl (.ro 2 rfl .nil))) (TO.move rfl dc rfl (TO.extract rfl dc rfl rfl (TO.extract rfl dc rfl rfl ?_)))
           refine TO.alloc zr_36 rfl dc (fun b9 => ?_)
           refine TO.stores (k := 6) (vs := [.string r8.1.Text, .int .i64 r8.1.Indent, .int .i64 r8.1.Stanza, .int .i64 r8.1.In, .int .i64 r8.1.Span_From, .int .i64 r8.1.Span_To]) (l' := [.string r8.1.Text, .int .i64 r8.1.Indent, .int .i64 r8.1.Stanza, .int .i64 r8.1.In, .int .i64 r8.1.Span_From, .int .i64 r8.1.Span_To]) sz_36 rfl rfl rfl rfl rfl (show _ ≤ _ by simp) rfl rfl ?_
           show TO _ _ _ _ _ _ _ _ _ _ [cells b1 [.pointer (some ⟨bp1, 0, none⟩)] 23, cells b2 [.string wv1.Title, wv1_h0.v] 56, cells b3 [vl1] 57, cells b4 [.bool false] 4, cells b6 [.int .i64 i4] 3, cells jb1 [.string x1.2.Text, .int .i64 x1.2.Indent, .int .i64 x1.2.Stanza, .int .i64 x1.2.In, .int .i64 x1.2.Span_From, .int .i64 x1.2.Span_To] 36, cells b9 [.string r8.1.Text, .int .i64 r8.1.Indent, .int .i64 r8.1.Stanza, .int .i64 r8.1.In, .int .i64 r8.1.Span_From, .int .i64 r8.1.Span_To] 36]
           refine TO.assign rfl dc rfl (TO.nil (TX.next (TC.seq (TC.seq (TC.region (TO.move rfl dc rfl (TO.bin rfl dc rfl rfl bin_neq (TO.move rfl dc rfl ?_))))))))
           refine TO.split (s := 93) rfl (fun hb9 => ?_) (fun hb9 => ?_)
           ·
            have h := condT hb9 h
            refine TO.skip rfl dc (TO.skip rfl dc (TO.skip rfl dc (TO.pick (b := true) rfl dc rfl rfl (TO.nil (TX.next (TC.condT rfl (TC.seq (TC.region ?_))))))))
            refine TO.store (k := 3) (l' := [.bool false]) sz_4 rfl rfl rfl rfl rfl (fun _ _ => rfl) rfl ?_
            refine TO.nil (TX.next (TC.ret (TX.thenRet (TX.blockRet ?_))))
            exact TX.roundRet i4 (show _ ∧ _ from ⟨rfl, h⟩) (Splits.of [0, 1, 2, 3, 4] kr rfl)
           ·
            have h := condF hb9 h
            refine TO.loads (k := 6) (cs := [.string r8.1.Text, .int .i64 r8.1.Indent, .int .i64 r8.1.Stanza, .int .i64 r8.1.In, .int .i64 r8.1.Span_From, .int .i64 r8.1.Span_To]) rw_36 rfl dc rfl rfl rfl rfl (TO.loads (k := 5) (cs := [.string x1.2.Text, .int .i64 x1.2.Indent, .int .i64 x1.2.Stanza, .int .i64 x1.2.In, .int .i64 x1.2.Span_From, .int .i64 x1.2.Span_To]) rw_36 rfl dc rfl rfl rfl rfl (TO.bin rfl dc rfl rfl (bin_neq_36 r8.1 x1.2) (TO.pick (b := false) rfl dc rfl rfl (TO.nil (TX.next ?_)))))
            refine TC.condB rfl (fun hb10 => ?_) (fun hb10 => ?_)
            ·
             have h := condT hb10 h
             refine TC.seq (TC.region ?_)
             refine TO.store (k := 3) (l' := [.bool false]) sz_4 rfl rfl rfl rfl rfl (fun _ _ => rfl) rfl ?_
             refine TO.nil (TX.next (TC.ret (TX.thenRet (TX.blockRet ?_))))
             exact TX.roundRet i4 (show _ ∧ _ from ⟨rfl, h⟩) (Splits.of [0, 1, 2, 3, 4] kr rfl)
            ·
             have h := condF hb10 h
             refine TC.skip (TX.next (TC.region (TO.load (k := 4) sc_3 rfl dc rfl rfl rfl ?_)))
             obtain ⟨hg1, h⟩ := grdE h
             refine TO.bin rfl dc rfl rfl (bin_add (r := i4 + 1) (IntWalk.i64_in _ hg1)) ?_
             refine TO.store (k := 4) (l' := [.int .i64 (i4 + 1)]) sz_3 rfl rfl rfl rfl rfl (fun _ _ => rfl) rfl ?_
             refine TO.nil (TX.blockNormal ?_)
             exact TX.round (i4 + 1) (fun post2 e2 => by have e9 := snoc_post hxs1 e2; subst e9; subst hag1; exact h) (Splits.of [0, 1, 2, 3, 4] kr rfl)
       ·
        rintro dm1 i4 hinv
        have h : dn1 i4 = some r := hinv [] (List.append_nil _).symm
        rw [hdn1] at h
        show TX _ _ _ _ _ _ _ [star ((([] : List Nat) : List Nat).map mark), emp, emp, emp, emp, emp, cells b7 [.pointer (some ⟨bp1, 0, none⟩)] 23, cells b1 [.pointer (some ⟨bp1, 0, none⟩)] 23, cells b2 [.string wv1.Title, wv1_h0.v] 56, cells b3 [vl1] 57, cells b4 [.bool false] 4, cells b6 [.int .i64 i4] 3, mark dm1]
        refine TX.starCons (k := 12) (j := 0) rfl rfl dc ?_
        show TX _ _ _ _ _ _ _ [star ((dm1 :: ([] : List Nat) : List Nat).map mark), emp, emp, emp, emp, emp, cells b7 [.pointer (some ⟨bp1, 0, none⟩)] 23, cells b1 [.pointer (some ⟨bp1, 0, none⟩)] 23, cells b2 [.string wv1.Title, wv1_h0.v] 56, cells b3 [vl1] 57, cells b4 [.bool false] 4, cells b6 [.int .i64 i4] 3, emp]
        refine TX.blockNormal ?_
        exact TX.meetD (i4, b6, dm1 :: ([] : List Nat)) h rfl (Sbs.cons rfl (Sbs.cons rfl (Sbs.cons rfl (Sbs.cons rfl (Sbs.cons rfl (Sbs.nil)))))) (Splits.of [7, 8, 9, 10, 11, 0] kr rfl)
       ·
        rintro dm1 c pre x1 post g hxs hX
        obtain ⟨rfl, h⟩ := (show _ ∧ _ from hX)
        generalize g = i5 at *
        rw [hek1] at h
        show TC _ _ _ _ _ _ _ _ _ [star ((([] : List Nat) : List Nat).map mark), emp, emp, emp, emp, emp, cells b7 [.pointer (some ⟨bp1, 0, none⟩)] 23, cells b1 [.pointer (some ⟨bp1, 0, none⟩)] 23, cells b2 [.string wv1.Title, wv1_h0.v] 56, cells b3 [vl1] 57, cells b4 [.bool false] 4, cells b6 [.int .i64 i5] 3, mark dm1]
        refine TC.starCons (k := 12) (j := 0) rfl rfl dc ?_
        show TC _ _ _ _ _ _ _ _ _ [star ((dm1 :: ([] : List Nat) : List Nat).map mark), emp, emp, emp, emp, emp, cells b7 [.pointer (some ⟨bp1, 0, none⟩)] 23, cells b1 [.pointer (some ⟨bp1, 0, none⟩)] 23, cells b2 [.string wv1.Title, wv1_h0.v] 56, cells b3 [vl1] 57, cells b4 [.bool false] 4, cells b6 [.int .i64 i5] 3, emp]
        refine TC.ret (TX.blockRet (TX.thenRet ?_))
        cases h
        exact TX.finM (rs := [.cell 8 4]) (dm1 :: ([] : List Nat)) () (.inl rfl) (Splits.open0 (k := 0) rfl) Tryd.results31 (.cons (.cell sc_4 (k := 10) rfl rfl) .nil) rfl Splits.nil
      ·
       rintro ⟨i1, b5, ds1⟩ h
       rw [hj1] at h
       show TC _ _ _ _ _ (marksOf ds1) _ _ [(4, .pointer (some ⟨b1, 0, none⟩)), (6, .pointer (some ⟨b2, 0, none⟩)), (7, .pointer (some ⟨b3, 0, none⟩)), (8, .pointer (some ⟨b4, 0, none⟩)), (9, .pointer (some ⟨b5, 0, none⟩))] [cells b1 [.pointer (some ⟨bp1, 0, none⟩)] 23, cells b2 [.string wv1.Title, wv1_h0.v] 56, cells b3 [vl1] 57, cells b4 [.bool false] 4, cells b5 [.int .i64 i1] 3, star ((ds1 : List Nat).map mark)]
       obtain ⟨j2, hj2, h⟩ := joinE h
       refine TC.cutN (β := Unit) 1 rfl (fun b => j2 = some r) (fun b => marksOf ds1) (fun b => [(4, .pointer (some ⟨b1, 0, none⟩)), (6, .pointer (some ⟨b2, 0, none⟩)), (7, .pointer (some ⟨b3, 0, none⟩)), (8, .pointer (some ⟨b4, 0, none⟩)), (9, .pointer (some ⟨b5, 0, none⟩))]) (fun b => [cells b1 [.pointer (some ⟨bp1, 0, none⟩)] 23, cells b2 [.string wv1.Title, wv1_h0.v] 56, cells b3 [vl1] 57, cells b4 [.bool false] 4, cells b5 [.int .i64 i1] 3, star ((ds1 : List Nat).map mark)]) (fun cut => ?_) ?_
       ·
        refine TC.seq (TC.region (TO.assign rfl dc rfl (TO.nil (TX.next (cut (TC.seq (TC.region (TO.fieldAddr fl_56_1 rfl dc rfl (show _ = 1 from rfl) (TO.load (k := 1) sc_54 rfl dc rfl rfl rfl (TO.lenVwZ hzwv10 hwwv10 rfl dc rfl Tryd.underlying54 (TO.move rfl dc rfl (TO.nil (TX.next ?_)))))))))))))
        refine TC.block ?_
        refine TC.loopD (β := Nat × Int × Int) (fun b => loopG (fun _ _ => none) (law17_is_s2 p1 wv1 j2) b.1 b.2.1 b.2.2 = some r) (fun b => marksOf ds1) (fun b => [(4, .pointer (some ⟨b1, 0, none⟩)), (6, .pointer (some ⟨b2, 0, none⟩)), (7, .pointer (some ⟨b3, 0, none⟩)), (8, .pointer (some ⟨b4, 0, none⟩)), (9, .pointer (some ⟨b5, 0, none⟩)), (14, .int .i64 b.2.1), (101, wv1_h0.v), (102, .int .i64 (wv1.Stanzas.length : Int)), (103, .int .i64 b.2.2)]) (fun b => [cells b1 [.pointer (some ⟨bp1, 0, none⟩)] 23, cells b2 [.string wv1.Title, wv1_h0.v] 56, cells b3 [vl1] 57, cells b4 [.bool false] 4, cells b5 [.int .i64 i1] 3, star ((ds1 : List Nat).map mark)]) (fun b => b.1) (fuel, 0, 0) h rfl (Sbs.cons rfl (Sbs.cons rfl (Sbs.cons rfl (Sbs.cons rfl (Sbs.cons rfl (Sbs.cons rfl (Sbs.cons rfl (Sbs.cons rfl (Sbs.cons rfl (Sbs.nil)))))))))) (Splits.of [0, 1, 2, 3, 4, 5] kr rfl) ?_
        rintro ⟨n1, from3, x4⟩ h
        cases n1 with
        | zero => exact noneE h
        | succ n1 =>
         obtain ⟨ag2, hag2⟩ : ∃ ag, ag = loopG (fun _ _ => none) (law17_is_s2 p1 wv1 j2) n1 := ⟨_, rfl⟩
         have h : law17_is_s2 p1 wv1 j2 ag2 from3 x4 = some r := by rw [hag2]; exact h
         unfold law17_is_s2 at h
         show TC _ _ _ _ _ (marksOf ds1) _ _ [(4, .pointer (some ⟨b1, 0, none⟩)), (6, .pointer (some ⟨b2, 0, none⟩)), (7, .pointer (some ⟨b3, 0, none⟩)), (8, .pointer (some ⟨b4, 0, none⟩)), (9, .pointer (some ⟨b5, 0, none⟩)), (14, .int .i64 from3), (101, wv1_h0.v), (102, .int .i64 (wv1.Stanzas.length : Int)), (103, .int .i64 x4)] [cells b1 [.pointer (some ⟨bp1, 0, none⟩)] 23, cells b2 [.string wv1.Title, wv1_h0.v] 56, cells b3 [vl1] 57, cells b4 [.bool false] 4, cells b5 [.int .i64 i1] 3, star ((ds1 : List Nat).map mark)]
         refine TC.seq (TC.region (TO.bin rfl dc rfl rfl bin_lss (TO.nil (TX.next (TC.seq ?_)))))
         refine TC.condB rfl (fun hb11 => ?_) (fun hb11 => ?_)
         ·
          have h := condT hb11 h
          refine TC.skip (TX.next (TC.seq (TC.block (TC.seq (TC.region (TO.move rfl dc rfl ?_))))))
          obtain ⟨x5, hq11, h⟩ := andE h
          obtain ⟨eh1, eq1⟩ := getO_z hzwv10 hq11
          have hrd : Rd _ _ [cells bp1 [.string p1.told_title, p1_h0.v, p1_h1.v, .string p1.source] 93, vec enc_Gapi_Verse 36 6 p1_h0.v p1.told_lines, vec enc_Gapi_Span 34 2 p1_h1.v p1.told_stanzas, roRow encN_T_string 1 vvwv10 kwv10 Zwv10, rdOwn nestR_T_string Zwv10, roRow enc_Gapi_Verse 6 vvl1 kl1 Ll1, rdSl encS 1 eh1 x5] := hrd.openEl (i := 4) (z := (x5, eh1)) rfl (Vw.get hwwv10 eq1)
          obtain ⟨vv1, k1, L1, hV1, hrd⟩ := hrd.openSl (i := 6) rfl
          replace hrd : Rd _ _ [cells bp1 [.string p1.told_title, p1_h0.v, p1_h1.v, .string p1.source] 93, vec enc_Gapi_Verse 36 6 p1_h0.v p1.told_lines, vec enc_Gapi_Span 34 2 p1_h1.v p1.told_stanzas, roRow encN_T_string 1 vvwv10 kwv10 Zwv10, rdOwn nestR_T_string Zwv10, roRow enc_Gapi_Verse 6 vvl1 kl1 Ll1, rdSl encS 1 eh1 x5, roRow encS 1 vv1 k1 L1] := hrd
          refine TO.indexVw hwwv10 eq1 Tryd.underlying54 sz_48 rfl dc rfl rfl rfl (TO.loadRowRd (n := kwv10 + (x4 : Int).toNat) (j := 0) (i := 3) (q := (x5, eh1)) hrd rfl (by omega) sc_48 rfl dc rfl (Vw.get hwwv10 eq1) rfl rfl (TO.assign rfl dc rfl (TO.assign rfl dc rfl (TO.nil (TX.next (TC.seq (TC.region (TO.load (k := 0) sc_23 rfl dc rfl rfl rfl (TO.move rfl dc rfl ?_)))))))))
          obtain ⟨r9, hq12, h⟩ := andE h
          refine TO.callPR (v := .tuple #[.agg #[.int .i64 r9.1.From, .int .i64 r9.1.To], .int .i64 r9.2]) (vs := [.pointer (some ⟨bp1, 0, none⟩), .int .i64 x4]) hrd rfl dc rfl rfl rfl en_44 (poem_Poem_Stanza_fn (bp1 := bp1) (p1 := p1) (p1_h0 := p1_h0) (p1_h1 := p1_h1) hq12) (.ro 0 rfl (.ro 1 rfl (.ro 2 rfl .nil))) (TO.move rfl dc rfl (TO.extract rfl dc rfl rfl (TO.extract rfl dc rfl rfl ?_)))
          refine TO.alloc zr_34 rfl dc (fun b10 => ?_)
          refine TO.stores (k := 6) (vs := [.int .i64 r9.1.From, .int .i64 r9.1.To]) (l' := [.int .i64 r9.1.From, .int .i64 r9.1.To]) sz_34 rfl rfl rfl rfl rfl (show _ ≤ _ by simp) rfl rfl ?_
          show TO _ _ _ _ _ _ _ _ _ _ [cells b1 [.pointer (some ⟨bp1, 0, none⟩)] 23, cells b2 [.string wv1.Title, wv1_h0.v] 56, cells b3 [vl1] 57, cells b4 [.bool false] 4, cells b5 [.int .i64 i1] 3, star ((ds1 : List Nat).map mark), cells b10 [.int .i64 r9.1.From, .int .i64 r9.1.To] 34]
          refine TO.assign rfl dc rfl (TO.nil (TX.next (TC.seq (TC.seq (TC.region (TO.move rfl dc rfl (TO.bin rfl dc rfl rfl bin_neq (TO.move rfl dc rfl ?_))))))))
          refine TO.split (s := 116) rfl (fun hb12 => ?_) (fun hb12 => ?_)
          ·
           have h := condT hb12 h
           refine TO.skip rfl dc (TO.skip rfl dc (TO.skip rfl dc (TO.skip rfl dc (TO.skip rfl dc (TO.skip rfl dc (TO.skip rfl dc (TO.skip rfl dc (TO.pick (b := true) rfl dc rfl rfl (TO.nil (TX.next (TC.condT rfl (TC.seq (TC.region ?_)))))))))))))
           refine TO.store (k := 3) (l' := [.bool false]) sz_4 rfl rfl rfl rfl rfl (fun _ _ => rfl) rfl ?_
           refine TO.nil (TX.next (TC.ret (TX.thenRet (TX.blockRet (TX.thenRet (TX.thenRet (TX.blockRet (TX.thenRet ?_))))))))
           cases h
           exact TX.finM (rs := [.cell 8 4]) ds1 () (.inl rfl) (Splits.open0 (k := 5) rfl) Tryd.results31 (.cons (.cell sc_4 (k := 3) rfl rfl) .nil) rfl Splits.nil
          ·
           have h := condF hb12 h
           refine TO.loads (k := 6) (cs := [.int .i64 r9.1.From, .int .i64 r9.1.To]) rw_34 rfl dc rfl rfl rfl rfl (TO.move rfl dc rfl (TO.move rfl dc rfl (TO.move rfl dc rfl (TO.lenVw hV1 rfl dc rfl Tryd.underlying48 ?_))))
           obtain ⟨hg2, h⟩ := grdE h
           refine TO.bin rfl dc rfl rfl (bin_add (r := from3 + (x5.length : Int)) (IntWalk.i64_in _ hg2)) ?_
           refine TO.build (v := .agg #[.int .i64 from3, .int .i64 (from3 + (x5.length : Int))]) (ps := [(0, .tmp 118), (1, .tmp 122)]) rfl dc rfl (fun _ => by kernel_rfl) ?_
           refine TO.bin rfl dc rfl rfl (bin_neq_34 r9.1 (⟨from3, from3 + (x5.length : Int)⟩ : Gapi_Span)) (TO.pick (b := false) rfl dc rfl rfl (TO.nil (TX.next ?_)))
           refine TC.condB rfl (fun hb13 => ?_) (fun hb13 => ?_)
           ·
            have h := condT hb13 h
            refine TC.seq (TC.region ?_)
            refine TO.store (k := 3) (l' := [.bool false]) sz_4 rfl rfl rfl rfl rfl (fun _ _ => rfl) rfl ?_
            refine TO.nil (TX.next (TC.ret (TX.thenRet (TX.blockRet (TX.thenRet (TX.thenRet (TX.blockRet (TX.thenRet ?_))))))))
            cases h
            exact TX.finM (rs := [.cell 8 4]) ds1 () (.inl rfl) (Splits.open0 (k := 5) rfl) Tryd.results31 (.cons (.cell sc_4 (k := 3) rfl rfl) .nil) rfl Splits.nil
           ·
            have h := condF hb13 h
            refine TC.skip (TX.next (TC.region (TO.move rfl dc rfl (TO.move rfl dc rfl (TO.lenVw hV1 rfl dc rfl Tryd.underlying48 ?_)))))
            obtain ⟨hg3, h⟩ := grdE h
            refine TO.bin rfl dc rfl rfl (bin_add (r := from3 + (x5.length : Int)) (IntWalk.i64_in _ hg3)) (TO.assign rfl dc rfl (TO.nil (TX.blockNormal (TX.next (TC.region ?_)))))
            obtain ⟨hg4, h⟩ := grdE h
            refine TO.bin rfl dc rfl rfl (bin_add (r := x4 + 1) (IntWalk.i64_in _ hg4)) (TO.move rfl dc rfl (TO.nil ?_))
            subst hag2
            exact TX.againD (n1, from3 + (x5.length : Int), x4 + 1) h (Nat.lt_succ_self _) rfl (Sbs.cons rfl (Sbs.cons rfl (Sbs.cons rfl (Sbs.cons rfl (Sbs.cons rfl (Sbs.cons rfl (Sbs.cons rfl (Sbs.cons rfl (Sbs.cons rfl (Sbs.nil)))))))))) (Splits.of [0, 1, 2, 3, 4, 5] kr rfl)
         ·
          have h := condF hb11 h
          refine TC.exit (TX.thenExit (TX.thenExit (TX.blockHere ?_)))
          exact TX.meetD () h rfl (Sbs.cons rfl (Sbs.cons rfl (Sbs.cons rfl (Sbs.cons rfl (Sbs.cons rfl (Sbs.nil)))))) (Splits.of [0, 1, 2, 3, 4, 5] kr rfl)
       ·
        rintro _ h
        rw [hj2] at h
        show TC _ _ _ _ _ (marksOf ds1) _ _ [(4, .pointer (some ⟨b1, 0, none⟩)), (6, .pointer (some ⟨b2, 0, none⟩)), (7, .pointer (some ⟨b3, 0, none⟩)), (8, .pointer (some ⟨b4, 0, none⟩)), (9, .pointer (some ⟨b5, 0, none⟩))] [cells b1 [.pointer (some ⟨bp1, 0, none⟩)] 23, cells b2 [.string wv1.Title, wv1_h0.v] 56, cells b3 [vl1] 57, cells b4 [.bool false] 4, cells b5 [.int .i64 i1] 3, star ((ds1 : List Nat).map mark)]
        obtain ⟨j3, hj3, h⟩ := joinE h
        refine TC.cutN (β := Unit) 0 rfl (fun b => j3 = some r) (fun b => marksOf ds1) (fun b => [(4, .pointer (some ⟨b1, 0, none⟩)), (6, .pointer (some ⟨b2, 0, none⟩)), (7, .pointer (some ⟨b3, 0, none⟩)), (8, .pointer (some ⟨b4, 0, none⟩)), (9, .pointer (some ⟨b5, 0, none⟩))]) (fun b => [cells b1 [.pointer (some ⟨bp1, 0, none⟩)] 23, cells b2 [.string wv1.Title, wv1_h0.v] 56, cells b3 [vl1] 57, cells b4 [.bool false] 4, cells b5 [.int .i64 i1] 3, star ((ds1 : List Nat).map mark)]) (fun cut => ?_) ?_
        ·
         refine cut (TC.seq (TC.region (TO.load (k := 2) sc_57 rfl dc rfl rfl rfl (TO.lenVw hwl1 rfl dc rfl Tryd.underlying57 ?_))))
         refine TO.buildSlice (cs := [.int .i64 (-1), .int .i64 (l1.length : Int)]) (te := 3) (ps := [(0, .const (.int .i64 (-1))), (1, .tmp 132)]) rfl dc rfl (fun _ => by kernel_rfl) (fun b11 => ?_)
         refine TO.toVec ([(-1), (l1.length : Int)] : List Int) (k := 6) rfl encI_len rfl (show 2 ≤ maxLen by decide) ?_
         show TO _ _ _ _ _ _ _ _ _ _ [cells b1 [.pointer (some ⟨bp1, 0, none⟩)] 23, cells b2 [.string wv1.Title, wv1_h0.v] 56, cells b3 [vl1] 57, cells b4 [.bool false] 4, cells b5 [.int .i64 i1] 3, star ((ds1 : List Nat).map mark), vec (encI (.i64)) 3 1 (.slice (some ⟨b11, 0, none⟩) 2 2) ([(-1), (l1.length : Int)] : List Int)]
         refine TO.lenVec (k := 6) rfl dc rfl rfl Tryd.underlying29 (TO.move rfl dc rfl (TO.nil (TX.next (TC.block ?_))))
         refine TC.loopD (β := Nat × Int) (fun b => loopG (fun _ => none) (law17_is_s3 p1 l1 j3) b.1 b.2 = some r) (fun b => marksOf ds1) (fun b => [(4, .pointer (some ⟨b1, 0, none⟩)), (6, .pointer (some ⟨b2, 0, none⟩)), (7, .pointer (some ⟨b3, 0, none⟩)), (8, .pointer (some ⟨b4, 0, none⟩)), (9, .pointer (some ⟨b5, 0, none⟩)), (133, (.slice (some ⟨b11, 0, none⟩) 2 2)), (134, .int .i64 (([(-1), (l1.length : Int)] : List Int).length : Int)), (135, .int .i64 b.2)]) (fun b => [cells b1 [.pointer (some ⟨bp1, 0, none⟩)] 23, cells b2 [.string wv1.Title, wv1_h0.v] 56, cells b3 [vl1] 57, cells b4 [.bool false] 4, cells b5 [.int .i64 i1] 3, vec (encI (.i64)) 3 1 (.slice (some ⟨b11, 0, none⟩) 2 2) ([(-1), (l1.length : Int)] : List Int), star ((ds1 : List Nat).map mark)]) (fun b => b.1) (fuel, 0) h rfl (Sbs.cons rfl (Sbs.cons rfl (Sbs.cons rfl (Sbs.cons rfl (Sbs.cons rfl (Sbs.cons rfl (Sbs.cons rfl (Sbs.cons rfl (Sbs.nil))))))))) (Splits.of [0, 1, 2, 3, 4, 6, 5] kr rfl) ?_
         rintro ⟨n2, x8⟩ h
         cases n2 with
         | zero => exact noneE h
         | succ n2 =>
          obtain ⟨ag3, hag3⟩ : ∃ ag, ag = loopG (fun _ => none) (law17_is_s3 p1 l1 j3) n2 := ⟨_, rfl⟩
          have h : law17_is_s3 p1 l1 j3 ag3 x8 = some r := by rw [hag3]; exact h
          unfold law17_is_s3 at h
          show TC _ _ _ _ _ (marksOf ds1) _ _ [(4, .pointer (some ⟨b1, 0, none⟩)), (6, .pointer (some ⟨b2, 0, none⟩)), (7, .pointer (some ⟨b3, 0, none⟩)), (8, .pointer (some ⟨b4, 0, none⟩)), (9, .pointer (some ⟨b5, 0, none⟩)), (133, (.slice (some ⟨b11, 0, none⟩) 2 2)), (134, .int .i64 (([(-1), (l1.length : Int)] : List Int).length : Int)), (135, .int .i64 x8)] [cells b1 [.pointer (some ⟨bp1, 0, none⟩)] 23, cells b2 [.string wv1.Title, wv1_h0.v] 56, cells b3 [vl1] 57, cells b4 [.bool false] 4, cells b5 [.int .i64 i1] 3, vec (encI (.i64)) 3 1 (.slice (some ⟨b11, 0, none⟩) 2 2) ([(-1), (l1.length : Int)] : List Int), star ((ds1 : List Nat).map mark)]
          refine TC.seq (TC.region (TO.bin rfl dc rfl rfl bin_lss (TO.nil (TX.next (TC.seq ?_)))))
          refine TC.condB rfl (fun hb14 => ?_) (fun hb14 => ?_)
          ·
           have h := condT hb14 h
           refine TC.skip (TX.next (TC.seq (TC.block (TC.seq (TC.region ?_)))))
           obtain ⟨q2, hq13, h⟩ := andE h
           refine TO.indexVecI (k := 5) hq13 Tryd.underlying29 sz_3 rfl dc rfl rfl rfl rfl (TO.loadVec (i := (x8 : Int).toNat) (j := 0) (k := 5) (q := q2) sc_3 encI_len rfl dc rfl rfl (getO_get hq13) rfl dc rfl (TO.assign rfl dc rfl (TO.nil (TX.next (TC.seq (TC.region (TO.load (k := 0) sc_23 rfl dc rfl rfl rfl (TO.move rfl dc rfl ?_))))))))
           obtain ⟨r10, hq14, h⟩ := andE h
           refine TO.callPR (v := .tuple #[.agg #[.string r10.1.Text, .int .i64 r10.1.Indent, .int .i64 r10.1.Stanza, .int .i64 r10.1.In, .int .i64 r10.1.Span_From, .int .i64 r10.1.Span_To], .int .i64 r10.2]) (vs := [.pointer (some ⟨bp1, 0, none⟩), .int .i64 q2]) hrd rfl dc rfl rfl rfl en_28 (poem_Poem_Line_fn (bp1 := bp1) (p1 := p1) (p1_h0 := p1_h0) (p1_h1 := p1_h1) hq14) (.ro 0 rfl (.ro 1 rfl (.ro 2 rfl .nil))) (TO.move rfl dc rfl (TO.extract rfl dc rfl rfl (TO.extract rfl dc rfl rfl ?_)))
           refine TO.alloc zr_36 rfl dc (fun b12 => ?_)
           refine TO.stores (k := 7) (vs := [.string r10.1.Text, .int .i64 r10.1.Indent, .int .i64 r10.1.Stanza, .int .i64 r10.1.In, .int .i64 r10.1.Span_From, .int .i64 r10.1.Span_To]) (l' := [.string r10.1.Text, .int .i64 r10.1.Indent, .int .i64 r10.1.Stanza, .int .i64 r10.1.In, .int .i64 r10.1.Span_From, .int .i64 r10.1.Span_To]) sz_36 rfl rfl rfl rfl rfl (show _ ≤ _ by simp) rfl rfl ?_
           show TO _ _ _ _ _ _ _ _ _ _ [cells b1 [.pointer (some ⟨bp1, 0, none⟩)] 23, cells b2 [.string wv1.Title, wv1_h0.v] 56, cells b3 [vl1] 57, cells b4 [.bool false] 4, cells b5 [.int .i64 i1] 3, vec (encI (.i64)) 3 1 (.slice (some ⟨b11, 0, none⟩) 2 2) ([(-1), (l1.length : Int)] : List Int), star ((ds1 : List Nat).map mark), cells b12 [.string r10.1.Text, .int .i64 r10.1.Indent, .int .i64 r10.1.Stanza, .int .i64 r10.1.In, .int .i64 r10.1.Span_From, .int .i64 r10.1.Span_To] 36]
           refine TO.assign rfl dc rfl (TO.nil (TX.next (TC.seq (TC.region (TO.loads (k := 7) (cs := [.string r10.1.Text, .int .i64 r10.1.Indent, .int .i64 r10.1.Stanza, .int .i64 r10.1.In, .int .i64 r10.1.Span_From, .int .i64 r10.1.Span_To]) rw_36 rfl dc rfl rfl rfl rfl ?_)))))
           refine TO.build (v := .agg #[.string ByteArray.empty, .int .i64 0, .int .i64 0, .int .i64 0, .int .i64 0, .int .i64 0]) (ps := []) rfl dc rfl (fun _ => by kernel_rfl) ?_
           refine TO.bin rfl dc rfl rfl (bin_neq_36 r10.1 (⟨ByteArray.empty, 0, 0, 0, 0, 0⟩ : Gapi_Verse)) (TO.move rfl dc rfl ?_)
           refine TO.split (s := 148) rfl (fun hb15 => ?_) (fun hb15 => ?_)
           ·
            have h := condT hb15 h
            refine TO.skip rfl dc (TO.skip rfl dc (TO.pick (b := true) rfl dc rfl rfl (TO.nil (TX.next (TC.condT rfl (TC.seq (TC.region ?_)))))))
            refine TO.store (k := 3) (l' := [.bool false]) sz_4 rfl rfl rfl rfl rfl (fun _ _ => rfl) rfl ?_
            refine TO.nil (TX.next (TC.ret (TX.blockRet (TX.thenRet (TX.thenRet (TX.blockRet (TX.thenRet ?_)))))))
            cases h
            exact TX.finM (rs := [.cell 8 4]) ds1 () (.inl rfl) (Splits.open0 (k := 6) rfl) Tryd.results31 (.cons (.cell sc_4 (k := 3) rfl rfl) .nil) rfl Splits.nil
           ·
            have h := condF hb15 h
            refine TO.move rfl dc rfl (TO.bin rfl dc rfl rfl bin_neq (TO.pick (b := false) rfl dc rfl rfl (TO.nil (TX.next ?_))))
            refine TC.condB rfl (fun hb16 => ?_) (fun hb16 => ?_)
            ·
             have h := condT hb16 h
             refine TC.seq (TC.region ?_)
             refine TO.store (k := 3) (l' := [.bool false]) sz_4 rfl rfl rfl rfl rfl (fun _ _ => rfl) rfl ?_
             refine TO.nil (TX.next (TC.ret (TX.blockRet (TX.thenRet (TX.thenRet (TX.blockRet (TX.thenRet ?_)))))))
             cases h
             exact TX.finM (rs := [.cell 8 4]) ds1 () (.inl rfl) (Splits.open0 (k := 6) rfl) Tryd.results31 (.cons (.cell sc_4 (k := 3) rfl rfl) .nil) rfl Splits.nil
            ·
             have h := condF hb16 h
             refine TC.skip (TX.blockNormal (TX.next (TC.region ?_)))
             obtain ⟨hg5, h⟩ := grdE h
             refine TO.bin rfl dc rfl rfl (bin_add (r := x8 + 1) (IntWalk.i64_in _ hg5)) (TO.move rfl dc rfl (TO.nil ?_))
             subst hag3
             exact TX.againD (n2, x8 + 1) h (Nat.lt_succ_self _) rfl (Sbs.cons rfl (Sbs.cons rfl (Sbs.cons rfl (Sbs.cons rfl (Sbs.cons rfl (Sbs.cons rfl (Sbs.cons rfl (Sbs.cons rfl (Sbs.nil))))))))) (Splits.of [0, 1, 2, 3, 4, 5, 6] kr rfl)
          ·
           have h := condF hb14 h
           refine TC.exit (TX.thenExit (TX.thenExit (TX.blockHere ?_)))
           exact TX.meetD () h rfl (Sbs.cons rfl (Sbs.cons rfl (Sbs.cons rfl (Sbs.cons rfl (Sbs.cons rfl (Sbs.nil)))))) (Splits.of [0, 1, 2, 3, 4, 6] kr rfl)
        ·
         rintro _ h
         rw [hj3] at h
         show TC _ _ _ _ _ (marksOf ds1) _ _ [(4, .pointer (some ⟨b1, 0, none⟩)), (6, .pointer (some ⟨b2, 0, none⟩)), (7, .pointer (some ⟨b3, 0, none⟩)), (8, .pointer (some ⟨b4, 0, none⟩)), (9, .pointer (some ⟨b5, 0, none⟩))] [cells b1 [.pointer (some ⟨bp1, 0, none⟩)] 23, cells b2 [.string wv1.Title, wv1_h0.v] 56, cells b3 [vl1] 57, cells b4 [.bool false] 4, cells b5 [.int .i64 i1] 3, star ((ds1 : List Nat).map mark)]
         obtain ⟨j4, hj4, h⟩ := joinE h
         refine TC.cutN (β := Unit) 0 rfl (fun b => j4 = some r) (fun b => marksOf ds1) (fun b => [(7, .pointer (some ⟨b3, 0, none⟩)), (8, .pointer (some ⟨b4, 0, none⟩)), (9, .pointer (some ⟨b5, 0, none⟩))]) (fun b => [cells b3 [vl1] 57, cells b4 [.bool false] 4, cells b5 [.int .i64 i1] 3, star ((ds1 : List Nat).map mark)]) (fun cut => ?_) ?_
         ·
          refine cut (TC.seq (TC.region (TO.fieldAddr fl_56_1 rfl dc rfl (show _ = 1 from rfl) (TO.load (k := 1) sc_54 rfl dc rfl rfl rfl (TO.lenVwZ hzwv10 hwwv10 rfl dc rfl Tryd.underlying54 ?_)))))
          refine TO.buildSlice (cs := [.int .i64 (-1), .int .i64 (wv1.Stanzas.length : Int)]) (te := 3) (ps := [(0, .const (.int .i64 (-1))), (1, .tmp 155)]) rfl dc rfl (fun _ => by kernel_rfl) (fun b13 => ?_)
          refine TO.toVec ([(-1), (wv1.Stanzas.length : Int)] : List Int) (k := 6) rfl encI_len rfl (show 2 ≤ maxLen by decide) ?_
          show TO _ _ _ _ _ _ _ _ _ _ [cells b1 [.pointer (some ⟨bp1, 0, none⟩)] 23, cells b2 [.string wv1.Title, wv1_h0.v] 56, cells b3 [vl1] 57, cells b4 [.bool false] 4, cells b5 [.int .i64 i1] 3, star ((ds1 : List Nat).map mark), vec (encI (.i64)) 3 1 (.slice (some ⟨b13, 0, none⟩) 2 2) ([(-1), (wv1.Stanzas.length : Int)] : List Int)]
          refine TO.lenVec (k := 6) rfl dc rfl rfl Tryd.underlying29 (TO.move rfl dc rfl (TO.nil (TX.next (TC.block ?_))))
          refine TC.loopD (β := Nat × Int) (fun b => loopG (fun _ => none) (law17_is_s4 p1 wv1 j4) b.1 b.2 = some r) (fun b => marksOf ds1) (fun b => [(4, .pointer (some ⟨b1, 0, none⟩)), (7, .pointer (some ⟨b3, 0, none⟩)), (8, .pointer (some ⟨b4, 0, none⟩)), (9, .pointer (some ⟨b5, 0, none⟩)), (156, (.slice (some ⟨b13, 0, none⟩) 2 2)), (157, .int .i64 (([(-1), (wv1.Stanzas.length : Int)] : List Int).length : Int)), (158, .int .i64 b.2)]) (fun b => [cells b1 [.pointer (some ⟨bp1, 0, none⟩)] 23, cells b3 [vl1] 57, cells b4 [.bool false] 4, cells b5 [.int .i64 i1] 3, vec (encI (.i64)) 3 1 (.slice (some ⟨b13, 0, none⟩) 2 2) ([(-1), (wv1.Stanzas.length : Int)] : List Int), star ((ds1 : List Nat).map mark)]) (fun b => b.1) (fuel, 0) h rfl (Sbs.cons rfl (Sbs.cons rfl (Sbs.cons rfl (Sbs.cons rfl (Sbs.cons rfl (Sbs.cons rfl (Sbs.cons rfl (Sbs.nil)))))))) (Splits.of [0, 2, 3, 4, 6, 5] kr rfl) ?_
          rintro ⟨n3, x11⟩ h
          cases n3 with
          | zero => exact noneE h
          | succ n3 =>
           obtain ⟨ag4, hag4⟩ : ∃ ag, ag = loopG (fun _ => none) (law17_is_s4 p1 wv1 j4) n3 := ⟨_, rfl⟩
           have h : law17_is_s4 p1 wv1 j4 ag4 x11 = some r := by rw [hag4]; exact h
           unfold law17_is_s4 at h
           show TC _ _ _ _ _ (marksOf ds1) _ _ [(4, .pointer (some ⟨b1, 0, none⟩)), (7, .pointer (some ⟨b3, 0, none⟩)), (8, .pointer (some ⟨b4, 0, none⟩)), (9, .pointer (some ⟨b5, 0, none⟩)), (156, (.slice (some ⟨b13, 0, none⟩) 2 2)), (157, .int .i64 (([(-1), (wv1.Stanzas.length : Int)] : List Int).length : Int)), (158, .int .i64 x11)] [cells b1 [.pointer (some ⟨bp1, 0, none⟩)] 23, cells b3 [vl1] 57, cells b4 [.bool false] 4, cells b5 [.int .i64 i1] 3, vec (encI (.i64)) 3 1 (.slice (some ⟨b13, 0, none⟩) 2 2) ([(-1), (wv1.Stanzas.length : Int)] : List Int), star ((ds1 : List Nat).map mark)]
           refine TC.seq (TC.region (TO.bin rfl dc rfl rfl bin_lss (TO.nil (TX.next (TC.seq ?_)))))
           refine TC.condB rfl (fun hb17 => ?_) (fun hb17 => ?_)
           ·
            have h := condT hb17 h
            refine TC.skip (TX.next (TC.seq (TC.block (TC.seq (TC.region ?_)))))
            obtain ⟨q3, hq15, h⟩ := andE h
            refine TO.indexVecI (k := 4) hq15 Tryd.underlying29 sz_3 rfl dc rfl rfl rfl rfl (TO.loadVec (i := (x11 : Int).toNat) (j := 0) (k := 4) (q := q3) sc_3 encI_len rfl dc rfl rfl (getO_get hq15) rfl dc rfl (TO.assign rfl dc rfl (TO.nil (TX.next (TC.seq (TC.region (TO.load (k := 0) sc_23 rfl dc rfl rfl rfl (TO.move rfl dc rfl ?_))))))))
            obtain ⟨r11, hq16, h⟩ := andE h
            refine TO.callPR (v := .tuple #[.agg #[.int .i64 r11.1.From, .int .i64 r11.1.To], .int .i64 r11.2]) (vs := [.pointer (some ⟨bp1, 0, none⟩), .int .i64 q3]) hrd rfl dc rfl rfl rfl en_44 (poem_Poem_Stanza_fn (bp1 := bp1) (p1 := p1) (p1_h0 := p1_h0) (p1_h1 := p1_h1) hq16) (.ro 0 rfl (.ro 1 rfl (.ro 2 rfl .nil))) (TO.move rfl dc rfl (TO.extract rfl dc rfl rfl (TO.extract rfl dc rfl rfl ?_)))
            refine TO.alloc zr_34 rfl dc (fun b14 => ?_)
            refine TO.stores (k := 6) (vs := [.int .i64 r11.1.From, .int .i64 r11.1.To]) (l' := [.int .i64 r11.1.From, .int .i64 r11.1.To]) sz_34 rfl rfl rfl rfl rfl (show _ ≤ _ by simp) rfl rfl ?_
            show TO _ _ _ _ _ _ _ _ _ _ [cells b1 [.pointer (some ⟨bp1, 0, none⟩)] 23, cells b3 [vl1] 57, cells b4 [.bool false] 4, cells b5 [.int .i64 i1] 3, vec (encI (.i64)) 3 1 (.slice (some ⟨b13, 0, none⟩) 2 2) ([(-1), (wv1.Stanzas.length : Int)] : List Int), star ((ds1 : List Nat).map mark), cells b14 [.int .i64 r11.1.From, .int .i64 r11.1.To] 34]
            refine TO.assign rfl dc rfl (TO.nil (TX.next (TC.seq (TC.region (TO.loads (k := 6) (cs := [.int .i64 r11.1.From, .int .i64 r11.1.To]) rw_34 rfl dc rfl rfl rfl rfl ?_)))))
            refine TO.build (v := .agg #[.int .i64 0, .int .i64 0]) (ps := []) rfl dc rfl (fun _ => by kernel_rfl) ?_
            refine TO.bin rfl dc rfl rfl (bin_neq_34 r11.1 (⟨0, 0⟩ : Gapi_Span)) (TO.move rfl dc rfl ?_)
            refine TO.split (s := 171) rfl (fun hb18 => ?_) (fun hb18 => ?_)
            ·
             have h := condT hb18 h
             refine TO.skip rfl dc (TO.skip rfl dc (TO.pick (b := true) rfl dc rfl rfl (TO.nil (TX.next (TC.condT rfl (TC.seq (TC.region ?_)))))))
             refine TO.store (k := 2) (l' := [.bool false]) sz_4 rfl rfl rfl rfl rfl (fun _ _ => rfl) rfl ?_
             refine TO.nil (TX.next (TC.ret (TX.blockRet (TX.thenRet (TX.thenRet (TX.blockRet (TX.thenRet ?_)))))))
             cases h
             exact TX.finM (rs := [.cell 8 4]) ds1 () (.inl rfl) (Splits.open0 (k := 5) rfl) Tryd.results31 (.cons (.cell sc_4 (k := 2) rfl rfl) .nil) rfl Splits.nil
            ·
             have h := condF hb18 h
             refine TO.move rfl dc rfl (TO.bin rfl dc rfl rfl bin_neq (TO.pick (b := false) rfl dc rfl rfl (TO.nil (TX.next ?_))))
             refine TC.condB rfl (fun hb19 => ?_) (fun hb19 => ?_)
             ·
              have h := condT hb19 h
              refine TC.seq (TC.region ?_)
              refine TO.store (k := 2) (l' := [.bool false]) sz_4 rfl rfl rfl rfl rfl (fun _ _ => rfl) rfl ?_
              refine TO.nil (TX.next (TC.ret (TX.blockRet (TX.thenRet (TX.thenRet (TX.blockRet (TX.thenRet ?_)))))))
              cases h
              exact TX.finM (rs := [.cell 8 4]) ds1 () (.inl rfl) (Splits.open0 (k := 5) rfl) Tryd.results31 (.cons (.cell sc_4 (k := 2) rfl rfl) .nil) rfl Splits.nil
             ·
              have h := condF hb19 h
              refine TC.skip (TX.blockNormal (TX.next (TC.region ?_)))
              obtain ⟨hg6, h⟩ := grdE h
              refine TO.bin rfl dc rfl rfl (bin_add (r := x11 + 1) (IntWalk.i64_in _ hg6)) (TO.move rfl dc rfl (TO.nil ?_))
              subst hag4
              exact TX.againD (n3, x11 + 1) h (Nat.lt_succ_self _) rfl (Sbs.cons rfl (Sbs.cons rfl (Sbs.cons rfl (Sbs.cons rfl (Sbs.cons rfl (Sbs.cons rfl (Sbs.cons rfl (Sbs.nil)))))))) (Splits.of [0, 1, 2, 3, 4, 5] kr rfl)
           ·
            have h := condF hb17 h
            refine TC.exit (TX.thenExit (TX.thenExit (TX.blockHere ?_)))
            exact TX.meetD () h rfl (Sbs.cons rfl (Sbs.cons rfl (Sbs.cons rfl (Sbs.nil)))) (Splits.of [1, 2, 3, 5] kr rfl)
         ·
          rintro _ h
          rw [hj4] at h
          show TC _ _ _ _ _ (marksOf ds1) _ _ [(7, .pointer (some ⟨b3, 0, none⟩)), (8, .pointer (some ⟨b4, 0, none⟩)), (9, .pointer (some ⟨b5, 0, none⟩))] [cells b3 [vl1] 57, cells b4 [.bool false] 4, cells b5 [.int .i64 i1] 3, star ((ds1 : List Nat).map mark)]
          refine TC.seq (TC.region (TO.load (k := 2) sc_3 rfl dc rfl rfl rfl (TO.load (k := 0) sc_57 rfl dc rfl rfl rfl (TO.lenVw hwl1 rfl dc rfl Tryd.underlying57 (TO.bin rfl dc rfl rfl bin_eql ?_)))))
          refine TO.store (k := 1) (l' := [.bool ((i1 : Int) == (l1.length : Int))]) sz_4 rfl rfl rfl rfl rfl (fun _ _ => rfl) rfl ?_
          refine TO.nil (TX.next (TC.ret ?_))
          cases h
          exact TX.finM (rs := [.cell 8 4]) ds1 () (.inl rfl) (Splits.open0 (k := 3) rfl) Tryd.results31 (.cons (.cell sc_4 (k := 1) rfl rfl) .nil) rfl Splits.nil
end Go.Proofs.YtgfkogafkhbgnaaDoor
namespace Go.Proofs.YtgfkogafkhbgnaaDoor
open Go.RowKit Go.Lib
set_option linter.unusedVariables false
set_option linter.unusedSimpArgs false
theorem repeatL_rep (n : Nat) : Lib.repeatL [32] n = List.replicate n 32 := by
  induction n with
  | zero => rfl
  | succ n ih => rw [Lib.repeatL, ih, List.replicate_succ]; rfl
theorem ind_split : ∀ x : List UInt8, List.replicate (ind x) 32 ++ x.drop (ind x) = x
  | [] => rfl
  | b :: x => by
    rw [ind_cons]
    by_cases h : b = 32
    · rw [if_pos h, List.replicate_succ, List.drop_succ_cons, List.cons_append, ind_split x, h]
    · rw [if_neg h]; rfl
theorem line_v (x : List UInt8) : spacesB (ind x : Int) ++ mkB (x.drop (ind x)) = mkB x := by
  unfold spacesB
  rw [Int.toNat_natCast, repeatL_rep]
  have : (⟨(List.replicate (ind x) (32 : UInt8)).toArray⟩ : ByteArray) = mkB (List.replicate (ind x) 32) := rfl
  rw [this, mkB_app, ind_split]
def enumV : Nat → List Gapi_Verse → List (Int × Gapi_Verse)
  | _, [] => []
  | i, v :: vs => ((i : Int), v) :: enumV (i + 1) vs
theorem each_v (p : Gpoem_Poem) (h : p.told_lines.length ≤ 4611686018427387904) : poem_Poem_Each_1_v p = some (enumV 0 p.told_lines) := by
  unfold poem_Poem_Each_1_v
  have key : ∀ (n i : Nat), i ≤ p.told_lines.length → p.told_lines.length - i < n → loopG (fun _ => none) (poem_Poem_Each_1_s1 p) n (i : Int) = some (enumV i (p.told_lines.drop i)) := by
    intro n
    induction n with
    | zero => intro i h1 h2; omega
    | succ n ih =>
      intro i hi hn
      rw [loopG_succ]
      obtain ⟨ag, hag⟩ : ∃ ag, ag = loopG (fun _ => none) (poem_Poem_Each_1_s1 p) n := ⟨_, rfl⟩
      rw [← hag] at ih ⊢
      unfold poem_Poem_Each_1_s1
      rcases Nat.lt_or_ge i p.told_lines.length with hl | hl
      · have hd := List.drop_eq_getElem_cons hl
        refine condTI (decide_eq_true (by omega)) (thenI (getO_nat (List.getElem?_eq_getElem hl)) ?_)
        have h1 : (grd (I64 ((i : Int) + 1)) <| ag ((i : Int) + 1)) = some (enumV (i + 1) (p.told_lines.drop (i + 1))) := grdI ⟨by omega, by omega⟩ (by rw [show (i : Int) + 1 = ((i + 1 : Nat) : Int) by omega]; exact ih (i + 1) (by omega) (by omega))
        rw [h1, hd]; rfl
      · rw [List.drop_eq_nil_of_le hl]
        exact condFI (decide_eq_false (by omega)) rfl
  have := key fuel 0 (Nat.zero_le _) (by unfold fuel; omega)
  rw [List.drop_zero] at this
  exact this
/-! ### Rows -/
abbrev LnE := Nat × Nat × List UInt8
def rowsG (from_ to_ : Nat) : Nat → List LnE → List Row × Int → List Row × Int
  | _, [], a => a
  | i, p :: L, a =>
    if i < from_ ∨ to_ ≤ i then rowsG from_ to_ (i + 1) L a
    else if (p.1 : Int) ≠ a.2 then rowsG from_ to_ (i + 1) L (a.1 ++ [[p.2.2]], (p.1 : Int))
    else rowsG from_ to_ (i + 1) L (a.1.dropLast ++ [lastL a.1 ++ [p.2.2]], a.2)
theorem rows_go (from_ to_ : Nat) (d : (List (List ByteArray)) → Int → Option (List (List ByteArray))) : ∀ (L : List LnE) (vs : List Gapi_Verse) (i : Nat) (out : List Row) (s : Int), vs.map keyV = L.map keyL → (∀ p ∈ L, p.2.2.length ≤ 1024) → i + L.length ≤ 1000000 →
    out.length ≤ i → (∀ r ∈ out, r.length ≤ i) → (s ≠ -1 → out ≠ []) → rangeG d (poem_Poem_rows_s1 from_ to_) (enumV i vs) (mkZ out) s = d (mkZ (rowsG from_ to_ i L (out, s)).1) (rowsG from_ to_ i L (out, s)).2
  | [], vs, i, out, s, hk, hx, hi, ho, hr, hs => by
    have : vs = [] := by cases vs with | nil => rfl | cons v vs => cases hk
    subst this; rfl
  | p :: L, vs, i, out, s, hk, hx, hi, ho, hr, hs => by
    cases vs with
    | nil => cases hk
    | cons v vs =>
      rw [List.map_cons, List.map_cons] at hk
      obtain ⟨hv, hk⟩ := List.cons.inj hk
      rw [List.length_cons] at hi
      have hv1 : v.Text = mkB (p.2.2.drop (ind p.2.2)) := congrArg (fun q => q.1) hv
      have hv2 : v.Indent = (ind p.2.2 : Int) := congrArg (fun q => q.2.1) hv
      have hv3 : v.Stanza = (p.1 : Int) := congrArg (fun q => q.2.2.1) hv
      have hxl := hx p (by simp)
      have hil := ind_le p.2.2
      show rangeG d _ (((i : Int), v) :: enumV (i + 1) vs) _ _ = _
      rw [rangeG_cons]
      have ih := fun out s h1 h2 h3 => rows_go from_ to_ d L vs (i + 1) out s hk (fun q hq => hx q (by simp [hq])) (by omega) h1 h2 h3
      obtain ⟨ag, hag⟩ : ∃ ag, ag = rangeG d (poem_Poem_rows_s1 from_ to_) (enumV (i + 1) vs) := ⟨_, rfl⟩
      rw [← hag] at ih ⊢
      unfold poem_Poem_rows_s1 rowsG
      by_cases h1 : i < from_
      · rw [if_pos (.inl h1)]
        exact condTI (decide_eq_true (by show (i : Int) < _; omega)) (ih out s (by omega) (fun r h => by have := hr r h; omega) hs)
      · refine condFI (decide_eq_false (by show ¬ (i : Int) < _; omega)) ?_
        by_cases h2 : to_ ≤ i
        · rw [if_pos (.inr h2)]
          exact condTI (decide_eq_true (by show _ ≤ (i : Int); omega)) (ih out s (by omega) (fun r h => by have := hr r h; omega) hs)
        · rw [if_neg (by omega)]
          refine condFI (decide_eq_false (by show ¬ _ ≤ (i : Int); omega)) (joinI ?_)
          have tail : ∀ (z : List Row) (s' : Int), z ≠ [] → z.length ≤ i + 1 → (∀ r ∈ z, r.length ≤ i) → s' ≠ -1 → (grd (I64 (((mkZ z).length : Int) - 1)) <|
              andThen (getO (mkZ z) (((mkZ z).length : Int) - 1)) fun (x2 : List ByteArray) =>
              grd (0 ≤ v.Indent ∧ v.Indent ≤ 140737488355328) <|
              grd ((spacesB v.Indent).size + v.Text.size ≤ 9223372036854775807) <|
              grd (x2.length + 1 ≤ 2147483648) <|
              ag ((mkZ z).set (((mkZ z).length : Int) - 1 : Int).toNat (x2 ++ [(spacesB v.Indent) ++ v.Text])) s') = d (mkZ (rowsG from_ to_ (i + 1) L (z.dropLast ++ [lastL z ++ [p.2.2]], s')).1) (rowsG from_ to_ (i + 1) L (z.dropLast ++ [lastL z ++ [p.2.2]], s')).2 := fun z s' hz hzl hzr hs' => by
            obtain ⟨w, r, rfl⟩ : ∃ w r, z = w ++ [r] := ⟨_, _, init_last hz⟩
            have hl9 : lastL (w ++ [r]) = r := by unfold lastL; rw [List.getLastD_concat]
            rw [List.dropLast_concat, hl9]
            rw [List.length_append, List.length_singleton] at hzl
            have hlen : (mkZ (w ++ [r])).length = w.length + 1 := by rw [mkZ_len, List.length_append, List.length_singleton]
            have hg : getO (mkZ (w ++ [r])) (((mkZ (w ++ [r])).length : Int) - 1) = some (r.map mkB) := by
              refine getO_of (n := w.length) (by rw [hlen]; omega) ?_
              rw [mkZ_app, List.getElem?_append_right (by rw [mkZ_len]; exact Nat.le_refl _), mkZ_len, Nat.sub_self]; rfl
            have hll : r.length ≤ i := hzr _ (by simp)
            refine grdI ⟨by omega, by rw [hlen]; omega⟩ (thenI hg (grdI ⟨by rw [hv2]; omega, by rw [hv2]; omega⟩ ?_))
            rw [hv1, hv2, line_v]
            have hsz : (spacesB (ind p.2.2 : Int)).size + (mkB (p.2.2.drop (ind p.2.2))).size ≤ 9223372036854775807 := by
              have : (spacesB (ind p.2.2 : Int) ++ mkB (p.2.2.drop (ind p.2.2))).size = (mkB p.2.2).size := by rw [line_v]
              rw [ByteArray.size_append, mkB_size p.2.2] at this
              omega
            refine grdI hsz (grdI (by rw [List.length_map]; omega) ?_)
            have es : (mkZ (w ++ [r])).set (((mkZ (w ++ [r])).length : Int) - 1 : Int).toNat (r.map mkB ++ [mkB p.2.2]) = mkZ (w ++ [r ++ [p.2.2]]) := by
              rw [show (((mkZ (w ++ [r])).length : Int) - 1 : Int).toNat = (mkZ w).length by rw [hlen, mkZ_len]; omega, mkZ_app]
              show ((mkZ w ++ [r.map mkB]).set _ _) = _
              rw [set_last, mkZ_app]
              show _ = _ ++ [(r ++ [p.2.2]).map mkB]
              rw [List.map_append]; rfl
            rw [es]
            refine ih _ s' (by rw [List.length_append, List.length_singleton]; omega) (fun r' h => ?_) (fun _ => by simp)
            rcases List.mem_append.1 h with h | h
            · have := hzr r' (by simp [h]); omega
            · rw [List.mem_singleton] at h; subst h; rw [List.length_append, List.length_singleton]; omega
          by_cases h3 : (p.1 : Int) = s
          · rw [if_neg (by simpa using h3)]
            refine condFI (by rw [hv3, h3]; exact bne_self_eq_false _) ?_
            refine tail out s (hs (by omega)) (by omega) (fun r h => by have := hr r h; omega) (by omega)
          · rw [if_pos h3]
            refine condTI (by rw [hv3]; exact bne_iff_ne.2 h3) (grdI (by rw [mkZ_len]; omega) ?_)
            have h5 := tail (out ++ [[]]) (p.1 : Int) (by simp) (by rw [List.length_append, List.length_singleton]; omega) (fun r h => by
              rcases List.mem_append.1 h with h | h
              · exact hr r h
              · rw [List.mem_singleton] at h; subst h; exact Nat.zero_le _) (by omega)
            have h6 : lastL (out ++ [[]]) = [] := by unfold lastL; rw [List.getLastD_concat]
            rw [List.dropLast_concat, h6, mkZ_app] at h5
            refine Eq.trans ?_ h5
            rw [hv3]; rfl
/-! ### What is cut out -/
def cutR (from_ to_ : Nat) : Nat → Row → Row
  | _, [] => []
  | at_, x :: r => if from_ ≤ at_ ∧ at_ < to_ then x :: cutR from_ to_ (at_ + 1) r else cutR from_ to_ (at_ + 1) r
def cutZ (from_ to_ : Nat) : Nat → List Row → List Row
  | _, [] => []
  | at_, r :: z => (if cutR from_ to_ at_ r = [] then [] else [cutR from_ to_ at_ r]) ++ cutZ from_ to_ (at_ + r.length) z
theorem enumR_len : ∀ (r : Row) (j : Nat), (enumR j r).length = r.length
  | [], j => rfl
  | x :: r, j => by show (enumR (j + 1) r).length + 1 = _; rw [enumR_len r]; rfl
theorem flatZ_len : ∀ (z : List Row) (k : Nat), (flatZ k z).length = tot z
  | [], k => rfl
  | r :: z, k => by
    show ((enumR 0 r).map _ ++ flatZ (k + 1) z).length = _
    rw [List.length_append, List.length_map, enumR_len, flatZ_len z, tot_cons]
theorem rowsG_in (from_ to_ k : Nat) (out : List Row) : ∀ (r : Row) (j at_ : Nat) (acc : Row) (L : List LnE), rowsG from_ to_ at_ ((enumR j r).map (fun p => (k, p)) ++ L) (out ++ [acc], (k : Int)) = rowsG from_ to_ (at_ + r.length) L (out ++ [acc ++ cutR from_ to_ at_ r], (k : Int))
  | [], j, at_, acc, L => by
    show rowsG from_ to_ at_ L _ = rowsG from_ to_ at_ L (out ++ [acc ++ []], _)
    rw [List.append_nil]
  | x :: r, j, at_, acc, L => by
    show rowsG from_ to_ at_ ((k, j, x) :: ((enumR (j + 1) r).map (fun p => (k, p)) ++ L)) _ = _
    rw [rowsG, cutR, List.length_cons, show at_ + (r.length + 1) = at_ + 1 + r.length by omega]
    by_cases h : from_ ≤ at_ ∧ at_ < to_
    · rw [if_neg (by omega), if_neg (by simp), if_pos h]
      show rowsG from_ to_ (at_ + 1) _ ((out ++ [acc]).dropLast ++ [lastL (out ++ [acc]) ++ [x]], (k : Int)) = _
      have h6 : lastL (out ++ [acc]) = acc := by unfold lastL; rw [List.getLastD_concat]
      rw [List.dropLast_concat, h6, rowsG_in from_ to_ k out r (j + 1) (at_ + 1) (acc ++ [x]) L, List.append_assoc]; rfl
    · rw [if_pos (by omega), if_neg h, rowsG_in from_ to_ k out r (j + 1) (at_ + 1) acc L]
theorem rowsG_row (from_ to_ k : Nat) (out : List Row) (s : Int) (hs : s ≠ (k : Int)) : ∀ (r : Row) (j at_ : Nat) (L : List LnE), rowsG from_ to_ at_ ((enumR j r).map (fun p => (k, p)) ++ L) (out, s) =
    if cutR from_ to_ at_ r = [] then rowsG from_ to_ (at_ + r.length) L (out, s) else rowsG from_ to_ (at_ + r.length) L (out ++ [cutR from_ to_ at_ r], (k : Int))
  | [], j, at_, L => by rw [show cutR from_ to_ at_ [] = [] from rfl, if_pos rfl]; rfl
  | x :: r, j, at_, L => by
    show rowsG from_ to_ at_ ((k, j, x) :: ((enumR (j + 1) r).map (fun p => (k, p)) ++ L)) _ = _
    rw [rowsG, cutR, List.length_cons, show at_ + (r.length + 1) = at_ + 1 + r.length by omega]
    by_cases h : from_ ≤ at_ ∧ at_ < to_
    · rw [if_neg (by omega), if_pos (by show (k : Int) ≠ s; omega), if_pos h, if_neg (by simp)]
      exact rowsG_in from_ to_ k out r (j + 1) (at_ + 1) [x] L
    · rw [if_pos (by omega), if_neg h, rowsG_row from_ to_ k out s hs r (j + 1) (at_ + 1) L]
theorem rowsG_all (from_ to_ : Nat) : ∀ (z : List Row) (k at_ : Nat) (out : List Row) (s : Int), s < (k : Int) → (rowsG from_ to_ at_ (flatZ k z) (out, s)).1 = out ++ cutZ from_ to_ at_ z
  | [], k, at_, out, s, hs => (List.append_nil _).symm
  | r :: z, k, at_, out, s, hs => by
    show (rowsG from_ to_ at_ ((enumR 0 r).map (fun p => (k, p)) ++ flatZ (k + 1) z) (out, s)).1 = _
    rw [rowsG_row from_ to_ k out s (by omega), cutZ]
    split
    · rw [rowsG_all from_ to_ z (k + 1) _ out s (by omega)]; rfl
    · rw [rowsG_all from_ to_ z (k + 1) _ _ (k : Int) (by omega), List.append_assoc]
theorem cutR_full (to_ : Nat) : ∀ (r : Row) (at_ : Nat), at_ + r.length ≤ to_ → cutR 0 to_ at_ r = r
  | [], at_, h => rfl
  | x :: r, at_, h => by
    rw [List.length_cons] at h
    rw [cutR, if_pos ⟨Nat.zero_le _, by omega⟩, cutR_full to_ r (at_ + 1) (by omega)]
theorem cutZ_full (to_ : Nat) : ∀ (z : List Row) (at_ : Nat), (∀ r ∈ z, r ≠ []) → at_ + tot z ≤ to_ → cutZ 0 to_ at_ z = z
  | [], at_, hne, h => rfl
  | r :: z, at_, hne, h => by
    rw [tot_cons] at h
    rw [cutZ, cutR_full to_ r at_ (by omega), if_neg (hne r (by simp)), cutZ_full to_ z (at_ + r.length) (fun y hy => hne y (by simp [hy])) (by omega)]
    rfl
/-! ### A poem -/
structure OkP (p : Gpoem_Poem) (t : List UInt8) (z : List Row) : Prop extends GoodP t z where
  title : p.told_title = mkB t
  vok : VOk p.told_lines z
  sp : p.told_stanzas = stSp 0 z
  most : tot z ≤ 512
theorem OkP.len {p : Gpoem_Poem} {t : List UInt8} {z : List Row} (h : OkP p t z) : p.told_lines.length = tot z := by
  have := congrArg List.length h.vok
  rw [List.length_map, List.length_map, flatZ_len] at this
  exact this
theorem PInv.ok {st : RS} (h : PInv st) (src : ByteArray) : OkP (⟨mkB st.t, st.vs, stSp 0 st.stz, src⟩ : Gpoem_Poem) st.t st.stz := ⟨h.good, rfl, h.vok, rfl, by have := h.tot; have := h.most; omega⟩
theorem mem_enumR : ∀ (r : Row) (j : Nat) (p : Nat × List UInt8), p ∈ enumR j r → p.2 ∈ r
  | [], j, p, h => by cases h
  | x :: r, j, p, h => by
    rcases List.mem_cons.1 h with rfl | h
    · simp
    · exact List.mem_cons_of_mem _ (mem_enumR r _ p h)
theorem mem_flatZ : ∀ (z : List Row) (k : Nat) (p : LnE), p ∈ flatZ k z → ∃ r ∈ z, p.2.2 ∈ r
  | [], k, p, h => by cases h
  | r :: z, k, p, h => by
    rcases List.mem_append.1 (show p ∈ (enumR 0 r).map (fun p => (k, p)) ++ flatZ (k + 1) z from h) with h | h
    · obtain ⟨q, hq, rfl⟩ := List.mem_map.1 h
      exact ⟨r, by simp, mem_enumR r 0 q hq⟩
    · obtain ⟨r', h1, h2⟩ := mem_flatZ z _ p h
      exact ⟨r', by simp [h1], h2⟩
theorem rows_v {p : Gpoem_Poem} {t : List UInt8} {z : List Row} (h : OkP p t z) (from_ to_ : Nat) : poem_Poem_rows_v p (from_ : Int) (to_ : Int) = some (mkZ (cutZ from_ to_ 0 z)) := by
  unfold poem_Poem_rows_v
  have hm := h.most
  refine joinI (thenI rfl (thenI (each_v p (by rw [h.len]; omega)) (joinI ?_)))
  have := rows_go from_ to_ (fun (out4 : List (List ByteArray)) (stanza3 : Int) => some out4) (flatZ 0 z) p.told_lines 0 [] (-1) h.vok (fun q hq => by
    obtain ⟨r, h1, h2⟩ := mem_flatZ z 0 q hq
    exact (h.ln r h1 _ h2).le) (by rw [flatZ_len]; omega) (Nat.zero_le _) (fun r h => by cases h) (fun h => absurd rfl h)
  refine this.trans ?_
  rw [rowsG_all from_ to_ z 0 0 [] (-1) (by omega)]
  rfl
theorem wtR_le : ∀ (r : Row), (∀ x ∈ r, x.length ≤ 1024) → wtR r ≤ r.length * 1025
  | [], h => Nat.zero_le _
  | x :: r, h => by
    have h1 := wtR_le r fun y hy => h y (by simp [hy])
    have h2 := h x (by simp)
    rw [wtR_cons, List.length_cons]; omega
theorem wtZ_le : ∀ (z : List Row), (∀ r ∈ z, ∀ x ∈ r, x.length ≤ 1024) → wtZ z ≤ z.length + tot z * 1025
  | [], h => Nat.zero_le _
  | r :: z, h => by
    have h1 := wtZ_le z fun y hy => h y (by simp [hy])
    have h2 := wtR_le r (h r (by simp))
    rw [wtZ_cons, tot_cons, List.length_cons]; omega
theorem OkP.wt {p : Gpoem_Poem} {t : List UInt8} {z : List Row} (h : OkP p t z) : t.length + 3 + wtZ z ≤ 1000000 := by
  have h1 := wtZ_le z fun r hr x hx => (h.ln r hr x hx).le
  have h2 := tot_ge z h.ne
  have h3 := h.most
  have h4 := h.tL
  omega
theorem OkP.full {p : Gpoem_Poem} {t : List UInt8} {z : List Row} (h : OkP p t z) : poem_Poem_rows_v p 0 (p.told_lines.length : Int) = some (mkZ z) := by
  have := rows_v h 0 p.told_lines.length
  rw [cutZ_full _ z 0 h.ne (by rw [h.len]; omega)] at this
  exact this
theorem OkP.print {p : Gpoem_Poem} {t : List UInt8} {z : List Row} (h : OkP p t z) : poem_Poem_Print_v p = some (mkB (prT t z)) := by
  unfold poem_Poem_Print_v
  have := h.wt
  refine thenI h.full (thenI ?_ rfl)
  rw [h.title]
  exact printed_v t z h.ne (by omega)
end Go.Proofs.YtgfkogafkhbgnaaDoor
namespace Go.Proofs.YtgfkogafkhbgnaaDoor
open Go.RowKit Go.Lib
set_option linter.unusedVariables false
set_option linter.unusedSimpArgs false
theorem works_v : law17_works_v = some true := by decide +kernel
/-! ### Finding -/
def findG (at_ : Int) : Nat → List Gapi_Verse → Option (Nat × Int)
  | _, [] => none
  | i, v :: vs => if v.Span_From ≤ at_ ∧ at_ ≤ v.Span_To then some (i, at_ - v.Span_From) else findG at_ (i + 1) vs
theorem find_go (at_ : Int) (ha : I64 at_) (K : Int → Int → Option (Int × Int × Int)) (d : Option (Int × Int × Int)) : ∀ (vs : List Gapi_Verse) (i : Nat), (∀ v ∈ vs, 0 ≤ v.Span_From) →
    rangeG d (poem_Poem_Find_s1 at_ K) (enumV i vs) = match findG at_ i vs with | some (k, n) => K k n | none => d
  | [], i, h => rfl
  | v :: vs, i, h => by
    have hv := h v (by simp)
    show rangeG d _ (((i : Int), v) :: enumV (i + 1) vs) = _
    rw [rangeG_cons, find_go at_ ha K d vs (i + 1) (fun y hy => h y (by simp [hy]))]
    have e : findG at_ i (v :: vs) = if v.Span_From ≤ at_ ∧ at_ ≤ v.Span_To then some (i, at_ - v.Span_From) else findG at_ (i + 1) vs := rfl
    rw [e]
    unfold poem_Poem_Find_s1
    by_cases h1 : v.Span_From ≤ at_
    · refine condTI (decide_eq_true h1) ?_
      by_cases h2 : at_ ≤ v.Span_To
      · rw [if_pos ⟨h1, h2⟩]
        refine condTI (decide_eq_true h2) (grdI ⟨?_, ?_⟩ rfl)
        · show _ ≤ at_ - v.Span_From; omega
        · show at_ - v.Span_From ≤ _; have := ha.2; omega
      · rw [if_neg (fun h => h2 h.2)]
        exact condFI (decide_eq_false h2) rfl
    · rw [if_neg (fun h => h1 h.1)]
      exact condFI (decide_eq_false h1) rfl
theorem find_v (p : Gpoem_Poem) (hp : p.told_lines.length ≤ 1000) (hf : ∀ v ∈ p.told_lines, 0 ≤ v.Span_From) (at_ : Int) (ha : I64 at_) : poem_Poem_Find_v p at_ = some (if at_ < 0 ∨ (p.source.size : Int) < at_ then ((0, 0, 5) : Int × Int × Int) else (match findG at_ 0 p.told_lines with | some (k, n) => (((k : Int), n, 0) : Int × Int × Int) | none => ((0, 0, 4) : Int × Int × Int))) := by
  unfold poem_Poem_Find_v
  by_cases h1 : at_ < 0
  · rw [if_pos (.inl h1)]; exact condTI (decide_eq_true h1) rfl
  · refine condFI (decide_eq_false h1) ?_
    by_cases h2 : (p.source.size : Int) < at_
    · rw [if_pos (.inr h2)]; exact condTI (decide_eq_true h2) rfl
    · rw [if_neg (by omega)]
      refine condFI (decide_eq_false h2) (joinI (thenI rfl (thenI (each_v p (by omega)) (joinI (joinI ?_)))))
      rw [find_go at_ ha _ _ _ _ hf]
      cases findG at_ 0 p.told_lines with
      | none => rfl
      | some x => rfl
theorem reffind_v (l : List Gapi_Verse) (hl : l.length ≤ 1000) (hf : ∀ v ∈ l, 0 ≤ v.Span_From) (at_ : Int) (ha : I64 at_) : ref17_Find_v l at_ = some (match findG at_ 0 l with | some (k, n) => (((k : Int), n) : Int × Int) | none => ((-1, 0) : Int × Int)) := by
  unfold ref17_Find_v
  refine joinI ?_
  have key : ∀ (n i : Nat), i ≤ l.length → l.length - i < n → loopG (fun _ => none) (ref17_Find_s1 l at_ (some ((-1), 0))) n (i : Int) = some (match findG at_ i (l.drop i) with | some (k, n) => (((k : Int), n) : Int × Int) | none => ((-1, 0) : Int × Int)) := by
    intro n
    induction n with
    | zero => intro i h1 h2; omega
    | succ n ih =>
      intro i hi hn
      rw [loopG_succ]
      obtain ⟨ag, hag⟩ : ∃ ag, ag = loopG (fun _ => none) (ref17_Find_s1 l at_ (some ((-1), 0))) n := ⟨_, rfl⟩
      rw [← hag] at ih ⊢
      unfold ref17_Find_s1
      rcases Nat.lt_or_ge i l.length with h | h
      · have hd := List.drop_eq_getElem_cons h
        have hv := hf l[i] (List.getElem_mem h)
        have hg : getO l (i : Int) = some l[i] := getO_nat (List.getElem?_eq_getElem h)
        have go : (grd (I64 ((i : Int) + 1)) <| ag ((i : Int) + 1)) = some (match findG at_ (i + 1) (l.drop (i + 1)) with | some (k, n) => (((k : Int), n) : Int × Int) | none => ((-1, 0) : Int × Int)) := grdI ⟨by omega, by omega⟩ (by rw [show (i : Int) + 1 = ((i + 1 : Nat) : Int) by omega]; exact ih (i + 1) (by omega) (by omega))
        have e : findG at_ i (l[i] :: l.drop (i + 1)) = if l[i].Span_From ≤ at_ ∧ at_ ≤ l[i].Span_To then some (i, at_ - l[i].Span_From) else findG at_ (i + 1) (l.drop (i + 1)) := rfl
        rw [hd, e]
        refine condTI (decide_eq_true (by omega)) (joinI (thenI hg ?_))
        by_cases h1 : l[i].Span_From ≤ at_
        · refine condTI (decide_eq_true h1) ?_
          by_cases h2 : at_ ≤ l[i].Span_To
          · rw [if_pos ⟨h1, h2⟩]
            refine condTI (decide_eq_true h2) (thenI hg (grdI ⟨?_, ?_⟩ rfl))
            · show _ ≤ at_ - l[i].Span_From; omega
            · show at_ - l[i].Span_From ≤ _; have := ha.2; omega
          · rw [if_neg (fun h => h2 h.2)]
            exact condFI (decide_eq_false h2) go
        · rw [if_neg (fun h => h1 h.1)]
          exact condFI (decide_eq_false h1) go
      · rw [List.drop_eq_nil_of_le h]
        exact condFI (decide_eq_false (by omega)) rfl
  have := key fuel 0 (Nat.zero_le _) (by unfold fuel; omega)
  rw [List.drop_zero] at this
  exact this
instance {a b : List (ByteArray × Int × Int)} : Decidable (a = b) := inferInstance
end Go.Proofs.YtgfkogafkhbgnaaDoor
namespace Go.Proofs.YtgfkogafkhbgnaaDoor
open Go.RowKit Go.Lib
set_option linter.unusedVariables false
set_option linter.unusedSimpArgs false
theorem eqV (v : Gapi_Verse) : eq_Gapi_Verse v v = true := (eq_Gapi_Verse_iff v v).2 rfl
theorem eqS (v : Gapi_Span) : eq_Gapi_Span v v = true := (eq_Gapi_Span_iff v v).2 rfl
theorem eqT (v : Gapi_Spot) : eq_Gapi_Spot v v = true := (eq_Gapi_Spot_iff v v).2 rfl
theorem line_at {p : Gpoem_Poem} {i : Nat} {v : Gapi_Verse} (h : p.told_lines[i]? = some v) : poem_Poem_Line_v p (i : Int) = some (v, 0) := by
  have hl := (List.getElem?_eq_some_iff.1 h).1
  unfold poem_Poem_Line_v
  exact condFI (decide_eq_false (by omega)) (condFI (decide_eq_false (by omega)) (thenI (getO_nat h) rfl))
theorem is_each (p : Gpoem_Poem) (hb : p.told_lines.length ≤ 1000) (e d : Int → Option Bool) : ∀ (n i : Nat), i + n = p.told_lines.length → rangeG d (law17_is_s1 p p.told_lines e) (enumV i (p.told_lines.drop i)) (i : Int) = d (p.told_lines.length : Int)
  | 0, i, h => by
    rw [List.drop_eq_nil_of_le (by omega)]
    show d (i : Int) = _
    rw [show i = p.told_lines.length by omega]
  | n + 1, i, h => by
    have hl : i < p.told_lines.length := by omega
    have hd := List.drop_eq_getElem_cons hl
    have hg : p.told_lines[i]? = some p.told_lines[i] := List.getElem?_eq_getElem hl
    rw [hd]
    show rangeG d _ (((i : Int), p.told_lines[i]) :: enumV (i + 1) (p.told_lines.drop (i + 1))) _ = _
    rw [rangeG_cons]
    have ih := is_each p hb e d n (i + 1) (by omega)
    obtain ⟨ag, hag⟩ : ∃ ag, ag = rangeG d (law17_is_s1 p p.told_lines e) (enumV (i + 1) (p.told_lines.drop (i + 1))) := ⟨_, rfl⟩
    rw [← hag] at ih ⊢
    unfold law17_is_s1
    refine condFI (decide_eq_false (by omega)) (condFI (bne_self_eq_false _) (thenI (getO_nat hg) (condFI (by rw [eqV]; rfl) (thenI (line_at hg) (condFI rfl (condFI (by show (!(eq_Gapi_Verse p.told_lines[i] p.told_lines[i])) = false; rw [eqV]; rfl) (grdI ⟨by omega, by omega⟩ ?_)))))))
    rw [show (i : Int) + 1 = ((i + 1 : Nat) : Int) by omega]
    exact ih
theorem stSp_at : ∀ (z : List Row) (n i : Nat) (r : Row), z[i]? = some r → (stSp n z)[i]? = some ⟨((n + tot (z.take i) : Nat) : Int), ((n + tot (z.take i) + r.length : Nat) : Int)⟩
  | [], n, i, r, h => by simp at h
  | y :: z, n, 0, r, h => by
    have : y = r := by simpa using h
    subst this; rfl
  | y :: z, n, i + 1, r, h => by
    show (stSp (n + y.length) z)[i]? = _
    rw [stSp_at z (n + y.length) i r (by simpa using h), List.take_succ_cons, tot_cons, show n + y.length + tot (z.take i) = n + (y.length + tot (z.take i)) by omega]
theorem is_stz {p : Gpoem_Poem} {t : List UInt8} {z : List Row} (h : OkP p t z) (J : Option Bool) : ∀ (n i : Nat), i ≤ z.length → z.length - i < n → loopG (fun _ _ => none) (law17_is_s2 p (⟨mkB t, mkZ z⟩ : Gref17_Poem) J) n (tot (z.take i) : Int) (i : Int) = J := by
  intro n
  induction n with
  | zero => intro i h1 h2; omega
  | succ n ih =>
    intro i hi hn
    rw [loopG_succ]
    obtain ⟨ag, hag⟩ : ∃ ag, ag = loopG (fun _ _ => none) (law17_is_s2 p (⟨mkB t, mkZ z⟩ : Gref17_Poem) J) n := ⟨_, rfl⟩
    rw [← hag] at ih ⊢
    unfold law17_is_s2
    have hm := h.most
    have hzl := tot_ge z h.ne
    rcases Nat.lt_or_ge i z.length with hl | hl
    · have hz : z[i]? = some z[i] := List.getElem?_eq_getElem hl
      have hg : getO (mkZ z) (i : Int) = some (z[i].map mkB) := getO_nat (by unfold mkZ; rw [List.getElem?_map, hz]; rfl)
      have h1 := tot_take z i z[i] hz
      have h2 := tot_take_le z (i + 1)
      have hst : poem_Poem_Stanza_v p (i : Int) = some ((⟨(tot (z.take i) : Int), (tot (z.take i) : Int) + ((z[i].map mkB).length : Int)⟩ : Gapi_Span), 0) := by
        unfold poem_Poem_Stanza_v
        refine condFI (decide_eq_false (by omega)) (condFI (decide_eq_false (by rw [h.sp, stSp_len]; omega)) (thenI (getO_nat (by rw [h.sp]; exact stSp_at z 0 i z[i] hz)) ?_))
        rw [Nat.zero_add, List.length_map]; rfl
      refine condTI (decide_eq_true (by show (i : Int) < ((mkZ z).length : Int); rw [mkZ_len]; omega)) (thenI hg (thenI hst (condFI rfl (grdI (by rw [List.length_map]; exact ⟨by omega, by omega⟩) (condFI (by rw [eqS]; rfl) (grdI (by rw [List.length_map]; exact ⟨by omega, by omega⟩) (grdI ⟨by omega, by omega⟩ ?_)))))))
      rw [List.length_map, show (tot (z.take i) : Int) + (z[i].length : Int) = (tot (z.take (i + 1)) : Int) by omega, show (i : Int) + 1 = ((i + 1 : Nat) : Int) by omega]
      exact ih (i + 1) (by omega) (by omega)
    · exact condFI (decide_eq_false (by show ¬ (i : Int) < ((mkZ z).length : Int); rw [mkZ_len]; omega)) rfl
theorem two_loop {R : Type} {F : (Int → Option R) → Int → Option R} {bot : Int → Option R} {J : Option R} (h0 : ∀ ag, F ag 0 = ag 1) (h1 : ∀ ag, F ag 1 = ag 2) (h2 : ∀ ag, F ag 2 = J) : loopG bot F fuel 0 = J := by
  obtain ⟨n, hn, _⟩ := fuel_eq 3 (by decide)
  rw [hn, show n + 3 = n + 2 + 1 from rfl, loopG_succ, h0, show n + 2 = n + 1 + 1 from rfl, loopG_succ, h1, loopG_succ, h2]
/-- All that is told of a poem. -/
theorem is_v {p : Gpoem_Poem} {t : List UInt8} {z : List Row} (h : OkP p t z) : law17_is_v p p.source (⟨mkB t, mkZ z⟩ : Gref17_Poem) p.told_lines = some true := by
  unfold law17_is_v
  have hm := h.most
  have hl := h.len
  have hw := h.wt
  have hzl := tot_ge z h.ne
  refine thenI rfl ?_
  refine condFI (by simp) ?_
  refine thenI rfl ?_
  refine condFI (by rw [h.title]; simp) ?_
  refine thenI rfl ?_
  refine condFI (bne_self_eq_false _) ?_
  refine thenI rfl ?_
  refine condFI ?_ ?_
  · show (((p.told_stanzas.length : Int) : Int) != ((mkZ z).length : Int)) = false
    rw [h.sp, stSp_len, mkZ_len]; exact bne_self_eq_false _
  refine thenI h.print ?_
  refine thenI (refprint_v t z h.ne (by omega)) ?_
  refine condFI (by simp) ?_
  refine joinI ?_
  refine thenI rfl ?_
  refine thenI (each_v p (by omega)) ?_
  refine joinI (joinI ?_)
  · have := is_each p (by omega) (fun (i5 : Int) => some false) (fun (i4 : Int) => (joinK (fun (j2 : Option Bool) => loopG (fun _ _ => none) (law17_is_s2 p (⟨mkB t, mkZ z⟩ : Gref17_Poem) j2) fuel 0 0) (joinK (fun (j3 : Option Bool) => loopG (fun _ => none) (law17_is_s3 p p.told_lines j3) fuel 0) (joinK (fun (j4 : Option Bool) => loopG (fun _ => none) (law17_is_s4 p (⟨mkB t, mkZ z⟩ : Gref17_Poem) j4) fuel 0) (some ((i4 : Int) == (p.told_lines.length : Int))))))) p.told_lines.length 0 (Nat.zero_add _)
    rw [List.drop_zero] at this
    refine this.trans ?_
    have h2 := is_stz h (joinK (fun (j3 : Option Bool) => loopG (fun _ => none) (law17_is_s3 p p.told_lines j3) fuel 0) (joinK (fun (j4 : Option Bool) => loopG (fun _ => none) (law17_is_s4 p (⟨mkB t, mkZ z⟩ : Gref17_Poem) j4) fuel 0) (some (((p.told_lines.length : Int) : Int) == (p.told_lines.length : Int))))) fuel 0 (Nat.zero_le _) (by unfold fuel; omega)
    refine joinI (h2.trans (joinI ?_))
    have no1 : poem_Poem_Line_v p (-1) = some ((⟨ByteArray.empty, 0, 0, 0, 0, 0⟩ : Gapi_Verse), 5) := by
      unfold poem_Poem_Line_v; exact condTI rfl rfl
    have no2 : poem_Poem_Line_v p (p.told_lines.length : Int) = some ((⟨ByteArray.empty, 0, 0, 0, 0, 0⟩ : Gapi_Verse), 5) := by
      unfold poem_Poem_Line_v; exact condFI (decide_eq_false (by omega)) (condTI (decide_eq_true (by omega)) rfl)
    have no3 : poem_Poem_Stanza_v p (-1) = some ((⟨0, 0⟩ : Gapi_Span), 5) := by
      unfold poem_Poem_Stanza_v; exact condTI rfl rfl
    have no4 : poem_Poem_Stanza_v p ((mkZ z).length : Int) = some ((⟨0, 0⟩ : Gapi_Span), 5) := by
      unfold poem_Poem_Stanza_v; exact condFI (decide_eq_false (by omega)) (condTI (decide_eq_true (by rw [h.sp, stSp_len, mkZ_len]; omega)) rfl)
    have l3 : ∀ J : Option Bool, loopG (fun _ => none) (law17_is_s3 p p.told_lines J) fuel 0 = J := fun J => by
      refine two_loop (fun ag => ?_) (fun ag => ?_) (fun ag => ?_)
      · unfold law17_is_s3
        exact condTI (by simp) (thenI rfl (thenI no1 (condFI (by rw [eqV]; rfl) (condFI rfl (grdI ⟨by decide, by decide⟩ rfl)))))
      · unfold law17_is_s3
        exact condTI (by simp) (thenI rfl (thenI no2 (condFI (by rw [eqV]; rfl) (condFI rfl (grdI ⟨by decide, by decide⟩ rfl)))))
      · unfold law17_is_s3
        exact condFI (by simp) rfl
    have l4 : ∀ J : Option Bool, loopG (fun _ => none) (law17_is_s4 p (⟨mkB t, mkZ z⟩ : Gref17_Poem) J) fuel 0 = J := fun J => by
      refine two_loop (fun ag => ?_) (fun ag => ?_) (fun ag => ?_)
      · unfold law17_is_s4
        exact condTI (by simp) (thenI rfl (thenI no3 (condFI (by rw [eqS]; rfl) (condFI rfl (grdI ⟨by decide, by decide⟩ rfl)))))
      · unfold law17_is_s4
        exact condTI (by simp) (thenI rfl (thenI no4 (condFI (by rw [eqS]; rfl) (condFI rfl (grdI ⟨by decide, by decide⟩ rfl)))))
      · unfold law17_is_s4
        exact condFI (by simp) rfl
    refine (l3 _).trans (joinI ((l4 _).trans ?_))
    exact congrArg some (beq_self_eq_true _)
end Go.Proofs.YtgfkogafkhbgnaaDoor
namespace Go.Proofs.YtgfkogafkhbgnaaDoor
open Go.RowKit Go.Lib
set_option linter.unusedVariables false
set_option linter.unusedSimpArgs false
end Go.Proofs.YtgfkogafkhbgnaaDoor
namespace Go.Proofs.YtgfkogafkhbgnaaDoor
open Go.RowKit Go.Lib
set_option linter.unusedVariables false
set_option linter.unusedSimpArgs false
def law17_PoemReads_v (s1 : ByteArray) (at1 : Int) : Option Bool :=
andThen (law17_works_v) fun (r1 : Bool) =>
bcond (!r1) (
some false
) (
andThen (poem_Read_v s1) fun (r2 : ((Option Gpoem_Poem) × Gapi_Spot)) =>
andThen (ref17_Read_v s1) fun (r3 : (Gref17_Poem × (List Gapi_Verse) × Gapi_Spot)) =>
bcond (!(eq_Gapi_Spot r2.2 r3.2.2)) (
some false
) (
bcond (!(eq_Gapi_Spot r3.2.2 (⟨0, 0⟩ : Gapi_Spot))) (
bcond (r2.1.isNone) (
andThen (law17_works_v) fun (r4 : Bool) =>
some r4
) (
some false
)
) (
bcond (r2.1.isNone) (
andThen (law17_is_nil_v s1 r3.1 r3.2.1) fun (r5 : Bool) =>
some false
) (
andThen (r2.1) fun (p1 : Gpoem_Poem) =>
andThen (law17_is_v p1 s1 r3.1 r3.2.1) fun (r6 : Bool) =>
bcond (!r6) (
some false
) (
andThen (poem_Poem_Find_v p1 at1) fun (r7 : (Int × Int × Int)) =>
andThen (ref17_Find_v r3.2.1 at1) fun (r8 : (Int × Int)) =>
bcond (decide ((at1 : Int) < 0)) (
bcond ((r7.1 : Int) == 0) (
bcond ((r7.2.1 : Int) == 0) (
bcond ((r7.2.2 : Int) == 5) (
andThen (law17_works_v) fun (r9 : Bool) =>
some r9
) (
some false
)
) (
some false
)
) (
some false
)
) (
bcond (decide (((s1.size : Int) : Int) < at1)) (
bcond ((r7.1 : Int) == 0) (
bcond ((r7.2.1 : Int) == 0) (
bcond ((r7.2.2 : Int) == 5) (
andThen (law17_works_v) fun (r10 : Bool) =>
some r10
) (
some false
)
) (
some false
)
) (
some false
)
) (
bcond (decide ((r8.1 : Int) < 0)) (
bcond ((r7.1 : Int) == 0) (
bcond ((r7.2.1 : Int) == 0) (
bcond ((r7.2.2 : Int) == 4) (
andThen (law17_works_v) fun (r11 : Bool) =>
some r11
) (
some false
)
) (
some false
)
) (
some false
)
) (
bcond ((r7.1 : Int) == r8.1) (
bcond ((r7.2.1 : Int) == r8.2) (
bcond ((r7.2.2 : Int) == 0) (
andThen (law17_works_v) fun (r12 : Bool) =>
some r12
) (
some false
)
) (
some false
)
) (
some false
)
)
)
)
)
)
)
)
)
set_option maxRecDepth 100000 in
set_option maxHeartbeats 4000000 in
theorem law17_PoemReads_fn {s1 : ByteArray} {at1 : Int} {r : Bool} (h : law17_PoemReads_v s1 at1 = some r) : FnP Tryd.prog 7 [.string s1, .int .i64 at1] (.bool r) := by
 unfold law17_PoemReads_v at h
 refine FnP.intro Tryd.func7 rfl Tryd.ntmps7 (by simp) ?_
 intro w0 K
 refine TC.seq (TC.region (TO.assign rfl dc rfl (TO.nil (TX.next (TC.seq (TC.seq (TC.region ?_)))))))
 obtain ⟨r1, hq1, h⟩ := andE h
 refine TO.callP (v := .bool r1) (vs := []) rfl dc rfl rfl rfl en_12 (law17_works_fn hq1) (TO.un rfl dc rfl un_not (TO.nil (TX.next ?_)))
 refine TC.condB rfl (fun hb1 => ?_) (fun hb1 => ?_)
 ·
  have h := condT hb1 h
  refine TC.seq (TC.region (TO.assign rfl dc rfl (TO.nil (TX.next (TC.ret (TX.thenRet ?_))))))
  cases h
  exact TX.fin (rs := [.tmp 4]) () (.inl rfl) Tryd.results7 (.cons (.tmp rfl) .nil) rfl Splits.nil
 ·
  have h := condF hb1 h
  refine TC.skip (TX.next (TC.seq (TC.region (TO.move rfl dc rfl ?_))))
  obtain ⟨r2, hq2, h⟩ := andE h
  refine TO.call (vs := [.string s1]) rfl dc rfl rfl rfl en_13 (poem_Read_fn hq2) Splits.nil ?_
  rintro v1
  show TO _ _ _ _ _ _ _ _ _ _ [pobj encN_Gpoem_Poem nest_Gpoem_Poem 93 v1 r2.1]
  refine TO.weakenL (L' := [pobj encN_Gpoem_Poem nest_Gpoem_Poem 93 v1 r2.1]) (Splits.of [0] kr rfl) (TO.move rfl dc rfl (TO.extract rfl dc rfl rfl (TO.extract rfl dc rfl rfl ?_)))
  refine TO.alloc zr_26 rfl dc (fun b1 => ?_)
  refine TO.assign rfl dc rfl (TO.stores (k := 1) (vs := [.int .i64 r2.2.Err, .int .i64 r2.2.At]) (l' := [.int .i64 r2.2.Err, .int .i64 r2.2.At]) sz_26 rfl rfl rfl rfl rfl (show _ ≤ _ by simp) rfl rfl ?_)
  show TO _ _ _ _ _ _ _ _ _ _ [pobj encN_Gpoem_Poem nest_Gpoem_Poem 93 v1 r2.1, cells b1 [.int .i64 r2.2.Err, .int .i64 r2.2.At] 26]
  refine TO.nil (TX.next (TC.seq (TC.region (TO.move rfl dc rfl ?_))))
  obtain ⟨r3, hq3, h⟩ := andE h
  refine TO.call (vs := [.string s1]) rfl dc rfl rfl rfl en_30 (ref17_Read_fn hq3) Splits.nil ?_
  rintro ⟨hd1, v2⟩
  show TO _ _ _ _ _ _ _ _ _ _ [pobj encN_Gpoem_Poem nest_Gpoem_Poem 93 v1 r2.1, cells b1 [.int .i64 r2.2.Err, .int .i64 r2.2.At] 26, vecN encN_T_string nest_T_string 48 1 hd1.v r3.1.Stanzas, vec enc_Gapi_Verse 36 6 v2 r3.2.1]
  refine TO.weakenL (L' := [pobj encN_Gpoem_Poem nest_Gpoem_Poem 93 v1 r2.1, cells b1 [.int .i64 r2.2.Err, .int .i64 r2.2.At] 26, vecN encN_T_string nest_T_string 48 1 hd1.v r3.1.Stanzas, vec enc_Gapi_Verse 36 6 v2 r3.2.1]) (Splits.of [0, 1, 2, 3] kr rfl) ?_
  refine TO.nameHd (k := 3) rfl (fun hd2 he1 => ?_)
  subst he1
  refine TO.move rfl dc rfl (TO.extract rfl dc rfl rfl (TO.extract rfl dc rfl rfl (TO.extract rfl dc rfl rfl ?_)))
  refine TO.alloc zr_56 rfl dc (fun b2 => ?_)
  refine TO.alloc zr_26 rfl dc (fun b3 => ?_)
  show TO _ _ _ _ _ _ _ _ _ _ [pobj encN_Gpoem_Poem nest_Gpoem_Poem 93 v1 r2.1, cells b1 [.int .i64 r2.2.Err, .int .i64 r2.2.At] 26, vecN encN_T_string nest_T_string 48 1 hd1.v r3.1.Stanzas, vec enc_Gapi_Verse 36 6 hd2.v r3.2.1, cells b2 [.string ByteArray.empty, .slice none 0 0] 56, cells b3 [.int .i64 0, .int .i64 0] 26]
  refine TO.stores (k := 4) (vs := [.string r3.1.Title, hd1.v]) (l' := [.string r3.1.Title, hd1.v]) sz_56 rfl rfl rfl rfl rfl (show _ ≤ _ by simp) rfl rfl (TO.assign rfl dc rfl (TO.stores (k := 5) (vs := [.int .i64 r3.2.2.Err, .int .i64 r3.2.2.At]) (l' := [.int .i64 r3.2.2.Err, .int .i64 r3.2.2.At]) sz_26 rfl rfl rfl rfl rfl (show _ ≤ _ by simp) rfl rfl ?_))
  show TO _ _ _ _ _ _ _ _ _ _ [pobj encN_Gpoem_Poem nest_Gpoem_Poem 93 v1 r2.1, cells b1 [.int .i64 r2.2.Err, .int .i64 r2.2.At] 26, vecN encN_T_string nest_T_string 48 1 hd1.v r3.1.Stanzas, vec enc_Gapi_Verse 36 6 hd2.v r3.2.1, cells b2 [.string r3.1.Title, hd1.v] 56, cells b3 [.int .i64 r3.2.2.Err, .int .i64 r3.2.2.At] 26]
  refine TO.nil (TX.next (TC.seq (TC.seq (TC.region (TO.loads (k := 1) (cs := [.int .i64 r2.2.Err, .int .i64 r2.2.At]) rw_26 rfl dc rfl rfl rfl rfl (TO.loads (k := 5) (cs := [.int .i64 r3.2.2.Err, .int .i64 r3.2.2.At]) rw_26 rfl dc rfl rfl rfl rfl (TO.bin rfl dc rfl rfl (bin_neq_26 r2.2 r3.2.2) (TO.nil (TX.next ?_)))))))))
  refine TC.condB rfl (fun hb2 => ?_) (fun hb2 => ?_)
  ·
   have h := condT hb2 h
   refine TC.seq (TC.region (TO.assign rfl dc rfl (TO.nil (TX.next (TC.ret (TX.thenRet ?_))))))
   cases h
   exact TX.fin (rs := [.tmp 4]) () (.inl rfl) Tryd.results7 (.cons (.tmp rfl) .nil) rfl Splits.nil
  ·
   have h := condF hb2 h
   refine TC.skip (TX.next (TC.seq (TC.seq (TC.region (TO.loads (k := 5) (cs := [.int .i64 r3.2.2.Err, .int .i64 r3.2.2.At]) rw_26 rfl dc rfl rfl rfl rfl ?_)))))
   refine TO.build (v := .agg #[.int .i64 0, .int .i64 0]) (ps := []) rfl dc rfl (fun _ => by kernel_rfl) ?_
   refine TO.bin rfl dc rfl rfl (bin_neq_26 r3.2.2 (⟨0, 0⟩ : Gapi_Spot)) (TO.nil (TX.next ?_))
   refine TC.condB rfl (fun hb3 => ?_) (fun hb3 => ?_)
   ·
    have h := condT hb3 h
    refine TC.seq (TC.region (TO.move rfl dc rfl ?_))
    refine TO.objVal (k := 0) rfl (fun hv1 => ?_)
    refine TO.bin rfl dc rfl rfl (bin_objeql Tryd.underlying23 hv1) (TO.move rfl dc rfl ?_)
    refine TO.split (s := 36) rfl (fun hb4 => ?_) (fun hb4 => ?_)
    ·
     have h := condT hb4 h
     obtain ⟨r4, hq4, h⟩ := andE h
     refine TO.callP (v := .bool r4) (vs := []) rfl dc rfl rfl rfl en_12 (law17_works_fn hq4) (TO.pick (b := true) rfl dc rfl rfl (TO.assign rfl dc rfl (TO.nil (TX.next (TC.ret (TX.thenRet ?_))))))
     cases h
     exact TX.fin (rs := [.tmp 4]) () (.inl rfl) Tryd.results7 (.cons (.tmp rfl) .nil) rfl Splits.nil
    ·
     have h := condF hb4 h
     refine TO.skip rfl dc (TO.pick (b := false) rfl dc rfl rfl (TO.assign rfl dc rfl (TO.nil (TX.next (TC.ret (TX.thenRet ?_))))))
     cases h
     exact TX.fin (rs := [.tmp 4]) () (.inl rfl) Tryd.results7 (.cons (.tmp rfl) .nil) rfl Splits.nil
   ·
    have h := condF hb3 h
    refine TC.skip (TX.next (TC.seq (TC.seq (TC.region (TO.move rfl dc rfl (TO.move rfl dc rfl (TO.loads (k := 4) (cs := [.string r3.1.Title, hd1.v]) rw_56 rfl dc rfl rfl rfl rfl (TO.move rfl dc rfl ?_))))))))
    refine TO.objVal (k := 0) rfl (fun hv2 => ?_)
    refine TO.bySplit (b := r2.1.isNone) (fun hb5 => ?_) (fun hb5 => ?_)
    ·
     have h := condT hb5 h
     obtain ⟨_, rfl⟩ := hv2.resolve_right (fun h9 => by have h8 := h9.1; rw [hb5] at h8; cases h8)
     show TO _ _ _ _ _ _ _ _ _ _ [pobj encN_Gpoem_Poem nest_Gpoem_Poem 93 (.pointer none) r2.1, cells b1 [.int .i64 r2.2.Err, .int .i64 r2.2.At] 26, vecN encN_T_string nest_T_string 48 1 hd1.v r3.1.Stanzas, vec enc_Gapi_Verse 36 6 hd2.v r3.2.1, cells b2 [.string r3.1.Title, hd1.v] 56, cells b3 [.int .i64 r3.2.2.Err, .int .i64 r3.2.2.At] 26]
     refine TO.vecVw (k := 3) rfl (fun hw1 => ?_)
     obtain ⟨r5, hq5, h⟩ := andE h
     obtain rfl : false = r5 := Option.some.inj (show some false = some r5 from hq5)
     refine TO.callPR (v := .bool false) (vs := [.pointer none, .string s1, .agg #[.string r3.1.Title, hd1.v], hd2.v]) (Rd.nil : Rd _ _ []) rfl dc rfl rfl rfl en_31 (FnR.closeN (nest := nest_T_string) (e := 48) (v := hd1.v) (xs := r3.1.Stanzas) (RD1 := []) (RD2 := [_]) encN_T_string_len gives_T_string (fun zs_c0 hz_c0 hV_c0 => (law17_is_nil_fn (wv1_h0 := hd1) (wv1 := r3.1) hV_c0 hz_c0 hw1 hq5))) (.own (Splits.of [2] (by kernel_rfl) rfl) (fun _ _ h => sepL.one1.1 h) (.own (As := [vec enc_Gapi_Verse 36 6 hd2.v r3.2.1]) (Splits.of [3] (by kernel_rfl) rfl) (fun _ _ h => roRow_vec enc_Gapi_Verse_len (sepL.one1.1 h)) .nil)) ?_
     refine TO.un rfl dc rfl un_not (TO.nil (TX.next (TC.condT rfl (TC.seq (TC.region (TO.assign rfl dc rfl (TO.nil (TX.next (TC.ret (TX.thenRet ?_))))))))))
     cases h
     exact TX.fin (rs := [.tmp 4]) () (.inl rfl) Tryd.results7 (.cons (.tmp rfl) .nil) rfl Splits.nil
    ·
     have h := condF hb5 h
     obtain ⟨p1, hq6, h⟩ := andE h
     refine TO.entl (As := [pobj encN_Gpoem_Poem nest_Gpoem_Poem 93 v1 r2.1]) (Splits.of [0] kr rfl) (Entl.objOpen hq6) ?_
     rintro ⟨b4, hd3, hd4⟩ hv3
     subst hv3
     show TO _ _ _ _ _ _ _ _ _ _ [emp, cells b1 [.int .i64 r2.2.Err, .int .i64 r2.2.At] 26, vecN encN_T_string nest_T_string 48 1 hd1.v r3.1.Stanzas, vec enc_Gapi_Verse 36 6 hd2.v r3.2.1, cells b2 [.string r3.1.Title, hd1.v] 56, cells b3 [.int .i64 r3.2.2.Err, .int .i64 r3.2.2.At] 26, cells b4 [.string p1.told_title, hd3.v, hd4.v, .string p1.source] 93, vec enc_Gapi_Verse 36 6 hd3.v p1.told_lines, vec enc_Gapi_Span 34 2 hd4.v p1.told_stanzas]
     refine TO.vecVw (k := 3) rfl (fun hw2 => ?_)
     obtain ⟨r6, hq7, h⟩ := andE h
     refine TO.callPR (v := .bool r6) (vs := [.pointer (some ⟨b4, 0, none⟩), .string s1, .agg #[.string r3.1.Title, hd1.v], hd2.v]) (Rd.nil : Rd _ _ []) rfl dc rfl rfl rfl en_31 (FnR.closeN (nest := nest_T_string) (e := 48) (v := hd1.v) (xs := r3.1.Stanzas) (RD1 := [_, _, _]) (RD2 := [_]) encN_T_string_len gives_T_string (fun zs_c3 hz_c3 hV_c3 => (law17_is_fn (bp1 := b4) (p1 := p1) (p1_h0 := hd3) (p1_h1 := hd4) (wv1_h0 := hd1) (wv1 := r3.1) hV_c3 hz_c3 hw2 hq7))) (.own (Splits.of [6] (by kernel_rfl) rfl) (fun _ _ h => sepL.one1.1 h) (.own (Splits.of [7] (by kernel_rfl) rfl) (fun _ _ h => sepL.one1.1 h) (.own (Splits.of [8] (by kernel_rfl) rfl) (fun _ _ h => sepL.one1.1 h) (.own (Splits.of [2] (by kernel_rfl) rfl) (fun _ _ h => sepL.one1.1 h) (.own (As := [vec enc_Gapi_Verse 36 6 hd2.v r3.2.1]) (Splits.of [3] (by kernel_rfl) rfl) (fun _ _ h => roRow_vec enc_Gapi_Verse_len (sepL.one1.1 h)) .nil))))) ?_
     refine TO.un rfl dc rfl un_not (TO.nil (TX.next ?_))
     refine TC.condB rfl (fun hb6 => ?_) (fun hb6 => ?_)
     ·
      have h := condT hb6 h
      refine TC.seq (TC.region (TO.assign rfl dc rfl (TO.nil (TX.next (TC.ret (TX.thenRet ?_))))))
      cases h
      exact TX.fin (rs := [.tmp 4]) () (.inl rfl) Tryd.results7 (.cons (.tmp rfl) .nil) rfl Splits.nil
     ·
      have h := condF hb6 h
      refine TC.skip (TX.next (TC.seq (TC.region (TO.move rfl dc rfl (TO.move rfl dc rfl ?_)))))
      obtain ⟨r7, hq8, h⟩ := andE h
      refine TO.callPR (v := .tuple #[.int .i64 r7.1, .int .i64 r7.2.1, .int .i64 r7.2.2]) (vs := [.pointer (some ⟨b4, 0, none⟩), .int .i64 at1]) (Rd.nil : Rd _ _ []) rfl dc rfl rfl rfl en_32 (poem_Poem_Find_fn (bp1 := b4) (p1 := p1) (p1_h0 := hd3) (p1_h1 := hd4) hq8) (.own (Splits.of [6] (by kernel_rfl) rfl) (fun _ _ h => sepL.one1.1 h) (.own (Splits.of [7] (by kernel_rfl) rfl) (fun _ _ h => sepL.one1.1 h) (.own (Splits.of [8] (by kernel_rfl) rfl) (fun _ _ h => sepL.one1.1 h) .nil))) ?_
      refine TO.move rfl dc rfl (TO.extract rfl dc rfl rfl (TO.extract rfl dc rfl rfl (TO.extract rfl dc rfl rfl (TO.assign rfl dc rfl (TO.assign rfl dc rfl (TO.assign rfl dc rfl (TO.nil (TX.next (TC.seq (TC.region (TO.move rfl dc rfl (TO.move rfl dc rfl ?_))))))))))))
      refine TO.vecVw (k := 3) rfl (fun hw3 => ?_)
      obtain ⟨r8, hq9, h⟩ := andE h
      refine TO.callK (v := .tuple #[.int .i64 r8.1, .int .i64 r8.2]) (vs := [hd2.v, .int .i64 at1]) rfl dc rfl rfl rfl en_33 (ref17_Find_fn hw3 hq9) [3] kr rfl (TO.move rfl dc rfl (TO.extract rfl dc rfl rfl (TO.extract rfl dc rfl rfl (TO.assign rfl dc rfl (TO.assign rfl dc rfl (TO.nil (TX.next (TC.seq (TC.block (TC.seq (TC.region (TO.move rfl dc rfl (TO.bin rfl dc rfl rfl bin_lss ?_)))))))))))))
      refine TO.move rfl dc rfl ?_
      refine TO.split (s := 61) rfl (fun hb7 => ?_) (fun hb7 => ?_)
      ·
       have h := condT hb7 h
       refine TO.skip rfl dc (TO.skip rfl dc (TO.skip rfl dc (TO.skip rfl dc (TO.pick (b := true) rfl dc rfl rfl (TO.assign rfl dc rfl (TO.nil (TX.next (TC.condT rfl (TC.seq (TC.region (TO.move rfl dc rfl (TO.bin rfl dc rfl rfl bin_eql (TO.move rfl dc rfl ?_)))))))))))))
       refine TO.split (s := 69) rfl (fun hb8 => ?_) (fun hb8 => ?_)
       ·
        have h := condT hb8 h
        refine TO.move rfl dc rfl (TO.bin rfl dc rfl rfl bin_eql (TO.pick (b := true) rfl dc rfl rfl (TO.move rfl dc rfl ?_)))
        refine TO.split (s := 73) rfl (fun hb9 => ?_) (fun hb9 => ?_)
        ·
         have h := condT hb9 h
         refine TO.move rfl dc rfl (TO.bin rfl dc rfl rfl bin_eql (TO.pick (b := true) rfl dc rfl rfl (TO.move rfl dc rfl ?_)))
         refine TO.split (s := 77) rfl (fun hb10 => ?_) (fun hb10 => ?_)
         ·
          have h := condT hb10 h
          obtain ⟨r9, hq10, h⟩ := andE h
          refine TO.callP (v := .bool r9) (vs := []) rfl dc rfl rfl rfl en_12 (law17_works_fn hq10) (TO.pick (b := true) rfl dc rfl rfl (TO.assign rfl dc rfl (TO.nil (TX.next (TC.ret (TX.blockRet (TX.thenRet ?_)))))))
          cases h
          exact TX.fin (rs := [.tmp 4]) () (.inl rfl) Tryd.results7 (.cons (.tmp rfl) .nil) rfl Splits.nil
         ·
          have h := condF hb10 h
          refine TO.skip rfl dc (TO.pick (b := false) rfl dc rfl rfl (TO.assign rfl dc rfl (TO.nil (TX.next (TC.ret (TX.blockRet (TX.thenRet ?_)))))))
          cases h
          exact TX.fin (rs := [.tmp 4]) () (.inl rfl) Tryd.results7 (.cons (.tmp rfl) .nil) rfl Splits.nil
        ·
         have h := condF hb9 h
         refine TO.skip rfl dc (TO.skip rfl dc (TO.pick (b := false) rfl dc rfl rfl (TO.move rfl dc rfl (TO.skip rfl dc (TO.pick (b := false) rfl dc rfl rfl (TO.assign rfl dc rfl (TO.nil (TX.next (TC.ret (TX.blockRet (TX.thenRet ?_)))))))))))
         cases h
         exact TX.fin (rs := [.tmp 4]) () (.inl rfl) Tryd.results7 (.cons (.tmp rfl) .nil) rfl Splits.nil
       ·
        have h := condF hb8 h
        refine TO.skip rfl dc (TO.skip rfl dc (TO.pick (b := false) rfl dc rfl rfl (TO.move rfl dc rfl (TO.skip rfl dc (TO.skip rfl dc (TO.pick (b := false) rfl dc rfl rfl (TO.move rfl dc rfl (TO.skip rfl dc (TO.pick (b := false) rfl dc rfl rfl (TO.assign rfl dc rfl (TO.nil (TX.next (TC.ret ?_)))))))))))))
        refine TX.blockRet (TX.thenRet ?_)
        cases h
        exact TX.fin (rs := [.tmp 4]) () (.inl rfl) Tryd.results7 (.cons (.tmp rfl) .nil) rfl Splits.nil
      ·
       have h := condF hb7 h
       refine TO.move rfl dc rfl (TO.move rfl dc rfl (TO.lenStr rfl dc rfl Tryd.underlying9 (TO.bin rfl dc rfl rfl bin_gtr (TO.pick (b := false) rfl dc rfl rfl (TO.assign rfl dc rfl (TO.nil (TX.next ?_)))))))
       refine TC.condB rfl (fun hb11 => ?_) (fun hb11 => ?_)
       ·
        have h := condT hb11 h
        refine TC.seq (TC.region (TO.move rfl dc rfl (TO.bin rfl dc rfl rfl bin_eql (TO.move rfl dc rfl ?_))))
        refine TO.split (s := 69) rfl (fun hb12 => ?_) (fun hb12 => ?_)
        ·
         have h := condT hb12 h
         refine TO.move rfl dc rfl (TO.bin rfl dc rfl rfl bin_eql (TO.pick (b := true) rfl dc rfl rfl (TO.move rfl dc rfl ?_)))
         refine TO.split (s := 73) rfl (fun hb13 => ?_) (fun hb13 => ?_)
         ·
          have h := condT hb13 h
          refine TO.move rfl dc rfl (TO.bin rfl dc rfl rfl bin_eql (TO.pick (b := true) rfl dc rfl rfl (TO.move rfl dc rfl ?_)))
          refine TO.split (s := 77) rfl (fun hb14 => ?_) (fun hb14 => ?_)
          ·
           have h := condT hb14 h
           obtain ⟨r10, hq11, h⟩ := andE h
           refine TO.callP (v := .bool r10) (vs := []) rfl dc rfl rfl rfl en_12 (law17_works_fn hq11) (TO.pick (b := true) rfl dc rfl rfl (TO.assign rfl dc rfl (TO.nil (TX.next (TC.ret (TX.blockRet (TX.thenRet ?_)))))))
           cases h
           exact TX.fin (rs := [.tmp 4]) () (.inl rfl) Tryd.results7 (.cons (.tmp rfl) .nil) rfl Splits.nil
          ·
           have h := condF hb14 h
           refine TO.skip rfl dc (TO.pick (b := false) rfl dc rfl rfl (TO.assign rfl dc rfl (TO.nil (TX.next (TC.ret (TX.blockRet (TX.thenRet ?_)))))))
           cases h
           exact TX.fin (rs := [.tmp 4]) () (.inl rfl) Tryd.results7 (.cons (.tmp rfl) .nil) rfl Splits.nil
         ·
          have h := condF hb13 h
          refine TO.skip rfl dc (TO.skip rfl dc (TO.pick (b := false) rfl dc rfl rfl (TO.move rfl dc rfl (TO.skip rfl dc (TO.pick (b := false) rfl dc rfl rfl (TO.assign rfl dc rfl (TO.nil (TX.next (TC.ret (TX.blockRet (TX.thenRet ?_)))))))))))
          cases h
          exact TX.fin (rs := [.tmp 4]) () (.inl rfl) Tryd.results7 (.cons (.tmp rfl) .nil) rfl Splits.nil
        ·
         have h := condF hb12 h
         refine TO.skip rfl dc (TO.skip rfl dc (TO.pick (b := false) rfl dc rfl rfl (TO.move rfl dc rfl (TO.skip rfl dc (TO.skip rfl dc (TO.pick (b := false) rfl dc rfl rfl (TO.move rfl dc rfl (TO.skip rfl dc (TO.pick (b := false) rfl dc rfl rfl (TO.assign rfl dc rfl (TO.nil (TX.next (TC.ret ?_)))))))))))))
         refine TX.blockRet (TX.thenRet ?_)
         cases h
         exact TX.fin (rs := [.tmp 4]) () (.inl rfl) Tryd.results7 (.cons (.tmp rfl) .nil) rfl Splits.nil
       ·
        have h := condF hb11 h
        refine TC.seq (TC.region (TO.move rfl dc rfl (TO.bin rfl dc rfl rfl bin_lss (TO.assign rfl dc rfl (TO.nil (TX.next ?_))))))
        refine TC.condB rfl (fun hb15 => ?_) (fun hb15 => ?_)
        ·
         have h := condT hb15 h
         refine TC.seq (TC.region (TO.move rfl dc rfl (TO.bin rfl dc rfl rfl bin_eql (TO.move rfl dc rfl ?_))))
         refine TO.split (s := 85) rfl (fun hb16 => ?_) (fun hb16 => ?_)
         ·
          have h := condT hb16 h
          refine TO.move rfl dc rfl (TO.bin rfl dc rfl rfl bin_eql (TO.pick (b := true) rfl dc rfl rfl (TO.move rfl dc rfl ?_)))
          refine TO.split (s := 89) rfl (fun hb17 => ?_) (fun hb17 => ?_)
          ·
           have h := condT hb17 h
           refine TO.move rfl dc rfl (TO.bin rfl dc rfl rfl bin_eql (TO.pick (b := true) rfl dc rfl rfl (TO.move rfl dc rfl ?_)))
           refine TO.split (s := 93) rfl (fun hb18 => ?_) (fun hb18 => ?_)
           ·
            have h := condT hb18 h
            obtain ⟨r11, hq12, h⟩ := andE h
            refine TO.callP (v := .bool r11) (vs := []) rfl dc rfl rfl rfl en_12 (law17_works_fn hq12) (TO.pick (b := true) rfl dc rfl rfl (TO.assign rfl dc rfl (TO.nil (TX.next (TC.ret (TX.blockRet (TX.thenRet ?_)))))))
            cases h
            exact TX.fin (rs := [.tmp 4]) () (.inl rfl) Tryd.results7 (.cons (.tmp rfl) .nil) rfl Splits.nil
           ·
            have h := condF hb18 h
            refine TO.skip rfl dc (TO.pick (b := false) rfl dc rfl rfl (TO.assign rfl dc rfl (TO.nil (TX.next (TC.ret (TX.blockRet (TX.thenRet ?_)))))))
            cases h
            exact TX.fin (rs := [.tmp 4]) () (.inl rfl) Tryd.results7 (.cons (.tmp rfl) .nil) rfl Splits.nil
          ·
           have h := condF hb17 h
           refine TO.skip rfl dc (TO.skip rfl dc (TO.pick (b := false) rfl dc rfl rfl (TO.move rfl dc rfl (TO.skip rfl dc (TO.pick (b := false) rfl dc rfl rfl (TO.assign rfl dc rfl (TO.nil (TX.next (TC.ret (TX.blockRet (TX.thenRet ?_)))))))))))
           cases h
           exact TX.fin (rs := [.tmp 4]) () (.inl rfl) Tryd.results7 (.cons (.tmp rfl) .nil) rfl Splits.nil
         ·
          have h := condF hb16 h
          refine TO.skip rfl dc (TO.skip rfl dc (TO.pick (b := false) rfl dc rfl rfl (TO.move rfl dc rfl (TO.skip rfl dc (TO.skip rfl dc (TO.pick (b := false) rfl dc rfl rfl (TO.move rfl dc rfl (TO.skip rfl dc (TO.pick (b := false) rfl dc rfl rfl (TO.assign rfl dc rfl (TO.nil (TX.next (TC.ret ?_)))))))))))))
          refine TX.blockRet (TX.thenRet ?_)
          cases h
          exact TX.fin (rs := [.tmp 4]) () (.inl rfl) Tryd.results7 (.cons (.tmp rfl) .nil) rfl Splits.nil
        ·
         have h := condF hb15 h
         refine TC.skip (TX.blockNormal (TX.next (TC.seq (TC.region (TO.move rfl dc rfl (TO.move rfl dc rfl (TO.bin rfl dc rfl rfl bin_eql (TO.move rfl dc rfl ?_))))))))
         refine TO.split (s := 99) rfl (fun hb19 => ?_) (fun hb19 => ?_)
         ·
          have h := condT hb19 h
          refine TO.move rfl dc rfl (TO.move rfl dc rfl (TO.bin rfl dc rfl rfl bin_eql (TO.pick (b := true) rfl dc rfl rfl (TO.move rfl dc rfl ?_))))
          refine TO.split (s := 104) rfl (fun hb20 => ?_) (fun hb20 => ?_)
          ·
           have h := condT hb20 h
           refine TO.move rfl dc rfl (TO.bin rfl dc rfl rfl bin_eql (TO.pick (b := true) rfl dc rfl rfl (TO.move rfl dc rfl ?_)))
           refine TO.split (s := 108) rfl (fun hb21 => ?_) (fun hb21 => ?_)
           ·
            have h := condT hb21 h
            obtain ⟨r12, hq13, h⟩ := andE h
            refine TO.callP (v := .bool r12) (vs := []) rfl dc rfl rfl rfl en_12 (law17_works_fn hq13) (TO.pick (b := true) rfl dc rfl rfl (TO.assign rfl dc rfl (TO.nil (TX.next (TC.ret ?_)))))
            cases h
            exact TX.fin (rs := [.tmp 4]) () (.inl rfl) Tryd.results7 (.cons (.tmp rfl) .nil) rfl Splits.nil
           ·
            have h := condF hb21 h
            refine TO.skip rfl dc (TO.pick (b := false) rfl dc rfl rfl (TO.assign rfl dc rfl (TO.nil (TX.next (TC.ret ?_)))))
            cases h
            exact TX.fin (rs := [.tmp 4]) () (.inl rfl) Tryd.results7 (.cons (.tmp rfl) .nil) rfl Splits.nil
          ·
           have h := condF hb20 h
           refine TO.skip rfl dc (TO.skip rfl dc (TO.pick (b := false) rfl dc rfl rfl (TO.move rfl dc rfl (TO.skip rfl dc (TO.pick (b := false) rfl dc rfl rfl (TO.assign rfl dc rfl (TO.nil (TX.next (TC.ret ?_)))))))))
           cases h
           exact TX.fin (rs := [.tmp 4]) () (.inl rfl) Tryd.results7 (.cons (.tmp rfl) .nil) rfl Splits.nil
         ·
          have h := condF hb19 h
          refine TO.skip rfl dc (TO.skip rfl dc (TO.skip rfl dc (TO.pick (b := false) rfl dc rfl rfl (TO.move rfl dc rfl (TO.skip rfl dc (TO.skip rfl dc (TO.pick (b := false) rfl dc rfl rfl (TO.move rfl dc rfl (TO.skip rfl dc (TO.pick (b := false) rfl dc rfl rfl (TO.assign rfl dc rfl (TO.nil (TX.next ?_)))))))))))))
          refine TC.ret ?_
          cases h
          exact TX.fin (rs := [.tmp 4]) () (.inl rfl) Tryd.results7 (.cons (.tmp rfl) .nil) rfl Splits.nil
end Go.Proofs.YtgfkogafkhbgnaaDoor
namespace Go.Proofs.YtgfkogafkhbgnaaDoor
open Go.RowKit Go.Lib
set_option linter.unusedVariables false
set_option linter.unusedSimpArgs false
theorem rd_err_ne {T : List UInt8} {e : Gapi_Spot} (h : rd T = .error e) : eq_Gapi_Spot e (⟨0, 0⟩ : Gapi_Spot) = false := by
  have key : ∀ (xs : List (Nat × List UInt8)) (st : RS), rfold st xs = .error e → e.Err = 3 := by
    intro xs
    induction xs with
    | nil => intro st h; cases h
    | cons x xs ih =>
      intro st h
      unfold rfold at h
      cases hs : rstep st x with
      | ok s1 => rw [hs] at h; exact ih s1 h
      | error e' =>
        rw [hs] at h
        have : e' = e := by cases h; rfl
        subst this
        unfold rstep at hs
        split at hs
        · cases hs
        split at hs
        · cases hs; rfl
        split at hs
        · cases hs
        split at hs
        · cases hs; rfl
        · cases hs
  have h3 : e.Err = 3 := by
    unfold rd at h
    split at h
    · cases h; rfl
    · exact key _ _ h
  cases he : eq_Gapi_Spot e (⟨0, 0⟩ : Gapi_Spot) with
  | false => rfl
  | true =>
    have := (eq_Gapi_Spot_iff _ _).1 he
    rw [this] at h3; cases h3
theorem poemReads_v (T : List UInt8) (at_ : Int) (ha : I64 at_) : law17_PoemReads_v (mkB T) at_ = some true := by
  unfold law17_PoemReads_v
  refine thenI works_v (condFI rfl ?_)
  have hr := read_v T
  have hrr := refread_v T
  cases hrd : rd T with
  | error e =>
    rw [hrd] at hr hrr
    refine thenI hr (thenI hrr (condFI (by show (!(eq_Gapi_Spot e e)) = false; rw [eqT]; rfl) ?_))
    exact condTI (by show (!(eq_Gapi_Spot e (⟨0, 0⟩ : Gapi_Spot))) = true; rw [rd_err_ne hrd]; rfl) (condTI rfl (thenI works_v rfl))
  | ok st =>
    rw [hrd] at hr hrr
    obtain ⟨hI, _⟩ := rd_ok hrd
    have hok := hI.ok (mkB T)
    have hm := hok.most
    have hl : st.vs.length = tot st.stz := hok.len
    refine thenI hr (thenI hrr (condFI (by show (!(eq_Gapi_Spot _ _)) = false; rw [eqT]; rfl) ?_))
    refine condFI rfl (condFI rfl (thenI rfl (thenI (is_v hok) (condFI rfl ?_))))
    refine thenI (find_v _ (by show st.vs.length ≤ 1000; omega) hI.fr at_ ha) (thenI (reffind_v _ (by omega) hI.fr at_ ha) ?_)
    by_cases h1 : at_ < 0
    · refine condTI (decide_eq_true h1) ?_
      rw [if_pos (.inl h1)]
      exact condTI rfl (condTI rfl (condTI rfl (thenI works_v rfl)))
    · refine condFI (decide_eq_false h1) ?_
      by_cases h2 : ((mkB T).size : Int) < at_
      · refine condTI (decide_eq_true h2) ?_
        rw [if_pos (.inr h2)]
        exact condTI rfl (condTI rfl (condTI rfl (thenI works_v rfl)))
      · refine condFI (decide_eq_false h2) ?_
        rw [if_neg (fun h => h.elim h1 h2)]
        show bcond (decide ((match findG at_ 0 st.vs with | some (k, n) => (((k : Int), n) : Int × Int) | none => ((-1, 0) : Int × Int)).1 < 0)) _ _ = _
        cases hf : findG at_ 0 st.vs with
        | none => exact condTI rfl (condTI rfl (condTI rfl (condTI rfl (thenI works_v rfl))))
        | some x =>
          refine condFI (decide_eq_false (by show ¬ ((x.1 : Int) < 0); omega)) ?_
          exact condTI (beq_self_eq_true _) (condTI (beq_self_eq_true _) (condTI rfl (thenI works_v rfl)))
theorem poemReads_any (s : ByteArray) (at_ : Int) (w : World) (h : s.size ≤ 140737488351232) (h1 : -9223372036854775808 ≤ at_) (h2 : at_ ≤ 9223372036854775807) : Calls Tryd.prog 7 #[.string s, .int .i64 at_] w fun e w' => e = .returned (.bool true) ∧ Below w.heap.size w w' :=
  law17_PoemReads_fn (poemReads_v s.data.toList at_ ⟨h1, h2⟩) w
end Go.Proofs.YtgfkogafkhbgnaaDoor
