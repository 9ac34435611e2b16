/-
  Texts laid together: LqI, PqI, PqJ, PqK, PqL, PqM, LqJ, LqC. Nothing is assumed.
-/
import Derived.Test.YtgfkogafkhbgnaaDoorPoemChanges5
import Derived.Test.YtgfkogafkhbgnaaDoorPoemChanges4
set_option maxRecDepth 100000
set_option maxHeartbeats 4000000
namespace Go.Proofs.YtgfkogafkhbgnaaDoor
open Go.RowKit Go.Lib
set_option linter.unusedVariables false
set_option linter.unusedSimpArgs false
def zdW  : Option Bool := zaG (zcU (⟨#[35, 32, 65, 32, 115, 111, 110, 103, 10, 10, 111, 110, 101, 10, 32, 32, 116, 119, 111, 32, 10, 32, 10, 255, 116, 104, 114, 101, 101, 10, 102, 111, 117, 114, 10]⟩ : ByteArray)) fun (r1 : ((Option Gpoem_Poem) × Gapi_Spot)) => zaU (!(zc6 r1.2 (⟨0, 0⟩ : Gapi_Spot))) ( some false
) ( zaG (r1.1) fun (p1 : Gpoem_Poem) => zaG (zeg p1) fun (r2 : Int) => zaU ((r2 : Int) != 4) ( some false
) ( zaG (zdU p1) fun (r3 : Int) => zaU ((r3 : Int) != 2) ( some false
) ( zaG (zef p1) fun (r4 : ByteArray) => zaU (!decide (r4 = (⟨#[65, 32, 115, 111, 110, 103]⟩ : ByteArray))) ( some false
) ( zaG (zcn p1 1 (⟨#[120]⟩ : ByteArray)) fun (r5 : ((Option Gpoem_Poem) × Int)) => zaU ((r5.2 : Int) == 0) ( zaG (r5.1) fun (p2 : Gpoem_Poem) => zaG (zc8 p2) fun (r6 : ByteArray) => zaU (decide (r6 = (⟨#[35, 32, 65, 32, 115, 111, 110, 103, 10, 10, 111, 110, 101, 10, 120, 10, 10, 255, 116, 104, 114, 101, 101, 10, 102, 111, 117, 114, 10]⟩ : ByteArray))) ( zaG (zcV p2 p1) fun (r7 : Bool) => zaU (!r7) ( zaG (zcV p1 p1) fun (r8 : Bool) => some r8
) ( some false
)
) ( some false
)
) ( some false
)
)
)
)
)
theorem zeP  {r : Bool} (h : zdW = some r) : FnP Tryd.prog 12 [] (.bool r) := by
 unfold zdW at h
 refine FnP.intro Tryd.func12 rfl Tryd.ntmps12 (by simp) ?_
 intro w0 K
 refine zas (zai (zak rfl dc rfl (zap (zaj (zas (zai ?_))))))
 obtain ⟨r1, hq1, h⟩ := zbN h
 refine zed (vs := [.string (⟨#[35, 32, 65, 32, 115, 111, 110, 103, 10, 10, 111, 110, 101, 10, 32, 32, 116, 119, 111, 32, 10, 32, 10, 255, 116, 104, 114, 101, 101, 10, 102, 111, 117, 114, 10]⟩ : ByteArray)]) rfl dc rfl rfl rfl znv (zfv hq1) Splits.nil ?_
 rintro v1
 show TO _ _ _ _ _ _ _ _ _ _ [zco zau zat 93 v1 r1.1]
 refine zbw (L' := [zco zau zat 93 v1 r1.1]) (zal [0] kr rfl) (zah rfl dc rfl (zaS rfl dc rfl rfl (zaS rfl dc rfl rfl ?_)))
 refine zbl ziG rfl dc (fun b1 => ?_)
 refine zak rfl dc rfl (zaZ (k := 1) (vs := [zI r1.2.Err, zI r1.2.At]) (l' := [zI r1.2.Err, zI r1.2.At]) zf7 rfl rfl rfl rfl rfl (show _ ≤ _ by simp) rfl rfl ?_)
 show TO _ _ _ _ _ _ _ _ _ _ [zco zau zat 93 v1 r1.1, cells b1 [zI r1.2.Err, zI r1.2.At] 26]
 refine zap (zaj (zas (zas (zai (zbc (k := 1) (cs := [zI r1.2.Err, zI r1.2.At]) zhA rfl dc rfl rfl rfl rfl ?_)))))
 refine zbe (v := .agg #[zI 0, zI 0]) (ps := []) rfl dc rfl (fun _ => by kernel_rfl) ?_
 refine zaz rfl dc rfl rfl (zhq r1.2 (⟨0, 0⟩ : Gapi_Spot)) (zah rfl dc rfl ?_)
 refine za6 (s := 12) rfl (fun hb1 => ?_) (fun hb1 => ?_)
 ·
  have h := za0 hb1 h
  refine zan rfl dc (zan rfl dc (zan rfl dc (zaB (b := true) rfl dc rfl rfl (zah rfl dc rfl (zan rfl dc (zan rfl dc (zan rfl dc (zaB (b := true) rfl dc rfl rfl (zah rfl dc rfl (zan rfl dc (zan rfl dc (zan rfl dc (zaB (b := true) rfl dc rfl rfl ?_)))))))))))))
  refine zap (zaj (zbu rfl (zas (zai (zak rfl dc rfl (zap (zaj (zaX (zay ?_)))))))))
  cases h
  exact za3 (rs := [.tmp 0]) () (.inl rfl) Tryd.results12 (.cons (.tmp rfl) .nil) rfl Splits.nil
 ·
  have h := za1 hb1 h
  refine zah rfl dc rfl ?_
  obtain ⟨p1, hq2, h⟩ := zbN h
  refine ziy (As := [zco zau zat 93 v1 r1.1]) (zal [0] kr rfl) (zeV hq2) ?_
  rintro ⟨b2, hd1, hd2⟩ hv1
  subst hv1
  show TO _ _ _ _ _ _ _ _ _ _ [emp, cells b1 [zI r1.2.Err, zI r1.2.At] 26, cells b2 [.string p1.told_title, hd1.v, hd2.v, .string p1.source] 93, vec zam 36 6 hd1.v p1.told_lines, vec zav 34 2 hd2.v p1.told_stanzas]
  obtain ⟨r2, hq3, h⟩ := zbN h
  refine za4 (v := zI r2) (vs := [zP b2]) (Rd.nil : Rd _ _ []) rfl dc rfl rfl rfl znu (zd4 (bp1 := b2) (p1 := p1) (p1_h0 := hd1) (p1_h1 := hd2) hq3) (.own (zal [2] (by kernel_rfl) rfl) (fun _ _ h => sepL.one1.1 h) (.own (zal [3] (by kernel_rfl) rfl) (fun _ _ h => sepL.one1.1 h) (.own (zal [4] (by kernel_rfl) rfl) (fun _ _ h => sepL.one1.1 h) .nil))) ?_
  refine zaz rfl dc rfl rfl zbE (zaB (b := false) rfl dc rfl rfl (zah rfl dc rfl ?_))
  refine za6 (s := 17) rfl (fun hb2 => ?_) (fun hb2 => ?_)
  ·
   have h := za0 hb2 h
   refine zan rfl dc (zan rfl dc (zan rfl dc (zaB (b := true) rfl dc rfl rfl (zah rfl dc rfl (zan rfl dc (zan rfl dc (zan rfl dc (zaB (b := true) rfl dc rfl rfl (zap (zaj (zbu rfl (zas (zai ?_)))))))))))))
   refine zak rfl dc rfl (zap (zaj (zaX (zay ?_))))
   cases h
   exact za3 (rs := [.tmp 0]) () (.inl rfl) Tryd.results12 (.cons (.tmp rfl) .nil) rfl Splits.nil
  ·
   have h := za1 hb2 h
   refine zah rfl dc rfl ?_
   obtain ⟨r3, hq4, h⟩ := zbN h
   refine za4 (v := zI r3) (vs := [zP b2]) (Rd.nil : Rd _ _ []) rfl dc rfl rfl rfl zom (zek (bp1 := b2) (p1 := p1) (p1_h0 := hd1) (p1_h1 := hd2) hq4) (.own (zal [2] (by kernel_rfl) rfl) (fun _ _ h => sepL.one1.1 h) (.own (zal [3] (by kernel_rfl) rfl) (fun _ _ h => sepL.one1.1 h) (.own (zal [4] (by kernel_rfl) rfl) (fun _ _ h => sepL.one1.1 h) .nil))) ?_
   refine zaz rfl dc rfl rfl zbE (zaB (b := false) rfl dc rfl rfl (zah rfl dc rfl ?_))
   refine za6 (s := 22) rfl (fun hb3 => ?_) (fun hb3 => ?_)
   ·
    have h := za0 hb3 h
    refine zan rfl dc (zan rfl dc (zan rfl dc (zaB (b := true) rfl dc rfl rfl (zap (zaj (zbu rfl (zas (zai (zak rfl dc rfl (zap (zaj (zaX (zay ?_)))))))))))))
    cases h
    exact za3 (rs := [.tmp 0]) () (.inl rfl) Tryd.results12 (.cons (.tmp rfl) .nil) rfl Splits.nil
   ·
    have h := za1 hb3 h
    refine zah rfl dc rfl ?_
    obtain ⟨r4, hq5, h⟩ := zbN h
    refine za4 (v := .string r4) (vs := [zP b2]) (Rd.nil : Rd _ _ []) rfl dc rfl rfl rfl zmJ (zds (bp1 := b2) (p1 := p1) (p1_h0 := hd1) (p1_h1 := hd2) hq5) (.own (zal [2] (by kernel_rfl) rfl) (fun _ _ h => sepL.one1.1 h) (.own (zal [3] (by kernel_rfl) rfl) (fun _ _ h => sepL.one1.1 h) (.own (zal [4] (by kernel_rfl) rfl) (fun _ _ h => sepL.one1.1 h) .nil))) ?_
    refine zaz rfl dc rfl rfl zcY (zaB (b := false) rfl dc rfl rfl (zap (zaj ?_)))
    refine zaM rfl (fun hb4 => ?_) (fun hb4 => ?_)
    ·
     have h := za0 hb4 h
     refine zas (zai (zak rfl dc rfl (zap (zaj (zaX (zay ?_))))))
     cases h
     exact za3 (rs := [.tmp 0]) () (.inl rfl) Tryd.results12 (.cons (.tmp rfl) .nil) rfl Splits.nil
    ·
     have h := za1 hb4 h
     refine zaP (zaj (zas (zai (zah rfl dc rfl ?_))))
     obtain ⟨r5, hq6, h⟩ := zbN h
     refine zdw (vs := [zP b2, zI 1, .string (⟨#[120]⟩ : ByteArray)]) (Rd.nil : Rd _ _ []) rfl dc rfl rfl rfl zo5 (zfY (bp1 := b2) (p1 := p1) (p1_h0 := hd1) (p1_h1 := hd2) hq6) Splits.nil (.own (zal [2] (by kernel_rfl) rfl) (fun _ _ h => sepL.one1.1 h) (.own (zal [3] (by kernel_rfl) rfl) (fun _ _ h => sepL.one1.1 h) (.own (zal [4] (by kernel_rfl) rfl) (fun _ _ h => sepL.one1.1 h) .nil))) ?_
     rintro v2
     show TO _ _ _ _ _ _ _ _ _ _ [emp, cells b1 [zI r1.2.Err, zI r1.2.At] 26, cells b2 [.string p1.told_title, hd1.v, hd2.v, .string p1.source] 93, vec zam 36 6 hd1.v p1.told_lines, vec zav 34 2 hd2.v p1.told_stanzas, zco zau zat 93 v2 r5.1]
     refine zbw (L' := [emp, cells b1 [zI r1.2.Err, zI r1.2.At] 26, cells b2 [.string p1.told_title, hd1.v, hd2.v, .string p1.source] 93, vec zam 36 6 hd1.v p1.told_lines, vec zav 34 2 hd2.v p1.told_stanzas, zco zau zat 93 v2 r5.1]) (zal [0, 1, 2, 3, 4, 5] kr rfl) (zah rfl dc rfl (zaS rfl dc rfl rfl (zaS rfl dc rfl rfl (zak rfl dc rfl (zak rfl dc rfl (zap (zaj (zas (zai (zah rfl dc rfl (zaz rfl dc rfl rfl zb6 (zah rfl dc rfl ?_))))))))))))
     refine za6 (s := 34) rfl (fun hb5 => ?_) (fun hb5 => ?_)
     ·
      have h := za0 hb5 h
      refine zah rfl dc rfl ?_
      obtain ⟨p2, hq7, h⟩ := zbN h
      refine ziy (As := [zco zau zat 93 v2 r5.1]) (zal [5] kr rfl) (zeV hq7) ?_
      rintro ⟨b3, hd3, hd4⟩ hv2
      subst hv2
      show TO _ _ _ _ _ _ _ _ _ _ [emp, cells b1 [zI r1.2.Err, zI r1.2.At] 26, cells b2 [.string p1.told_title, hd1.v, hd2.v, .string p1.source] 93, vec zam 36 6 hd1.v p1.told_lines, vec zav 34 2 hd2.v p1.told_stanzas, emp, cells b3 [.string p2.told_title, hd3.v, hd4.v, .string p2.source] 93, vec zam 36 6 hd3.v p2.told_lines, vec zav 34 2 hd4.v p2.told_stanzas]
      obtain ⟨r6, hq8, h⟩ := zbN h
      refine za4 (v := .string r6) (vs := [zP b3]) (Rd.nil : Rd _ _ []) rfl dc rfl rfl rfl zo7 (zfw (bp1 := b3) (p1 := p2) (p1_h0 := hd3) (p1_h1 := hd4) hq8) (.own (zal [6] (by kernel_rfl) rfl) (fun _ _ h => sepL.one1.1 h) (.own (zal [7] (by kernel_rfl) rfl) (fun _ _ h => sepL.one1.1 h) (.own (zal [8] (by kernel_rfl) rfl) (fun _ _ h => sepL.one1.1 h) .nil))) ?_
      refine zaz rfl dc rfl rfl zgr (zaB (b := true) rfl dc rfl rfl (zah rfl dc rfl ?_))
      refine za6 (s := 39) rfl (fun hb6 => ?_) (fun hb6 => ?_)
      ·
       have h := za0 hb6 h
       refine zah rfl dc rfl (zah rfl dc rfl ?_)
       obtain ⟨r7, hq9, h⟩ := zbN h
       refine za4 (v := .bool r7) (vs := [zP b3, zP b2]) (Rd.nil : Rd _ _ []) rfl dc rfl rfl rfl zmL (zdH (bp1 := b3) (p1 := p2) (p1_h0 := hd3) (p1_h1 := hd4) (bq1 := b2) (q1 := p1) (q1_h0 := hd1) (q1_h1 := hd2) hq9) (.own (zal [6] (by kernel_rfl) rfl) (fun _ _ h => sepL.one1.1 h) (.own (zal [7] (by kernel_rfl) rfl) (fun _ _ h => sepL.one1.1 h) (.own (zal [8] (by kernel_rfl) rfl) (fun _ _ h => sepL.one1.1 h) (.own (zal [2] (by kernel_rfl) rfl) (fun _ _ h => sepL.one1.1 h) (.own (zal [3] (by kernel_rfl) rfl) (fun _ _ h => sepL.one1.1 h) (.own (zal [4] (by kernel_rfl) rfl) (fun _ _ h => sepL.one1.1 h) .nil)))))) ?_
       refine zhJ rfl dc rfl zfX (zaB (b := true) rfl dc rfl rfl (zah rfl dc rfl ?_))
       refine za6 (s := 45) rfl (fun hb7 => ?_) (fun hb7 => ?_)
       ·
        have h := za0 hb7 h
        refine zah rfl dc rfl (zah rfl dc rfl ?_)
        obtain ⟨r8, hq10, h⟩ := zbN h
        refine za4 (v := .bool r8) (vs := [zP b2, zP b2]) (Rd.nil : Rd _ _ []) rfl dc rfl rfl rfl zmL (zdH (bp1 := b2) (p1 := p1) (p1_h0 := hd1) (p1_h1 := hd2) (bq1 := b2) (q1 := p1) (q1_h0 := hd1) (q1_h1 := hd2) hq10) (.own (zal [2] (by kernel_rfl) rfl) (fun _ _ h => sepL.one1.1 h) (.own (zal [3] (by kernel_rfl) rfl) (fun _ _ h => sepL.one1.1 h) (.own (zal [4] (by kernel_rfl) rfl) (fun _ _ h => sepL.one1.1 h) (.own (zal [2] (by kernel_rfl) rfl) (fun _ _ h => sepL.one1.1 h) (.own (zal [3] (by kernel_rfl) rfl) (fun _ _ h => sepL.one1.1 h) (.own (zal [4] (by kernel_rfl) rfl) (fun _ _ h => sepL.one1.1 h) .nil)))))) ?_
        refine zaB (b := true) rfl dc rfl rfl (zak rfl dc rfl (zap (zaj (zaX ?_))))
        cases h
        exact za3 (rs := [.tmp 0]) () (.inl rfl) Tryd.results12 (.cons (.tmp rfl) .nil) rfl Splits.nil
       ·
        have h := za1 hb7 h
        refine zan rfl dc (zan rfl dc (zan rfl dc (zaB (b := false) rfl dc rfl rfl (zak rfl dc rfl (zap (zaj (zaX ?_)))))))
        cases h
        exact za3 (rs := [.tmp 0]) () (.inl rfl) Tryd.results12 (.cons (.tmp rfl) .nil) rfl Splits.nil
      ·
       have h := za1 hb6 h
       refine zan rfl dc (zan rfl dc (zan rfl dc (zan rfl dc (zaB (b := false) rfl dc rfl rfl (zah rfl dc rfl (zan rfl dc (zan rfl dc (zan rfl dc (zaB (b := false) rfl dc rfl rfl (zak rfl dc rfl (zap (zaj (zaX ?_)))))))))))))
       cases h
       exact za3 (rs := [.tmp 0]) () (.inl rfl) Tryd.results12 (.cons (.tmp rfl) .nil) rfl Splits.nil
     ·
      have h := za1 hb5 h
      refine zan rfl dc (zan rfl dc (zan rfl dc (zaB (b := false) rfl dc rfl rfl (zah rfl dc rfl (zan rfl dc (zan rfl dc (zan rfl dc (zan rfl dc (zaB (b := false) rfl dc rfl rfl (zah rfl dc rfl (zan rfl dc (zan rfl dc (zan rfl dc ?_)))))))))))))
      refine zaB (b := false) rfl dc rfl rfl (zak rfl dc rfl (zap (zaj (zaX ?_))))
      cases h
      exact za3 (rs := [.tmp 0]) () (.inl rfl) Tryd.results12 (.cons (.tmp rfl) .nil) rfl Splits.nil
def zfB (source1 : ByteArray) (wv1 : Gref17_Poem) (l1 : List Gapi_Verse) : Option Bool := some false
theorem zig {source1 : ByteArray} {wv1 : Gref17_Poem} {wv1_h0 : Hd} {vvwv10 : Value} {kwv10 : Nat} {Zwv10 zwv10 : List ((List ByteArray) × Hd)} (hwwv10 : Vw vvwv10 Zwv10 1 kwv10 wv1_h0.v zwv10) (hzwv10 : zwv10.map Prod.fst = wv1.Stanzas) {vvl1 vl1 : Value} {Ll1 : List Gapi_Verse} {kl1 : Nat} {l1 : List Gapi_Verse} (hwl1 : Vw vvl1 Ll1 6 kl1 vl1 l1) {r : Bool} (h : zfB source1 wv1 l1 = some r) : FnR Tryd.prog 31 [.pointer none, .string source1, .agg #[.string wv1.Title, wv1_h0.v], vl1] [zbk zae 1 vvwv10 kwv10 Zwv10, zbM zaD Zwv10, zbk zam 6 vvl1 kl1 Ll1] [] (fun _ : Unit => (.bool r)) (fun _ => []) := by
 unfold zfB at h
 refine FnR.intro Tryd.func31 rfl Tryd.ntmps31 (by simp) ?_
 intro w0 K hrd
 refine zjL ?_
 show TC _ _ _ _ _ _ _ _ _ [zev ((([] : List Nat) : List Nat).map zeO)]
 refine zas (zai ?_)
 refine zeE rfl dc rfl (fun b1 => ?_)
 refine zeE rfl dc rfl (fun b2 => ?_)
 show TO _ _ _ _ _ _ _ _ _ _ [zev ((([] : List Nat) : List Nat).map zeO), cells b1 [.pointer none] 23, cells b2 [.string wv1.Title, wv1_h0.v] 56]
 refine zmV (fun _ _ => Vw.one hwl1) rfl dc rfl (fun b3 => ?_)
 refine zbl zqa rfl dc (fun b4 => ?_)
 show TO _ _ _ _ _ _ _ _ _ _ [zev ((([] : List Nat) : List Nat).map zeO), cells b1 [.pointer none] 23, cells b2 [.string wv1.Title, wv1_h0.v] 56, cells b3 [vl1] 57, cells b4 [.bool false] 4]
 refine zap (zaj (zas (zas ?_)))
 refine zbR 34 [(0, 27, .pointer none), (1, 28, .bool true), (2, 29, .bool true), (3, 30, undef), (4, 31, undef), (5, 32, undef), (6, 33, undef), (7, 34, .bool true), (8, 35, .bool true), (9, 36, undef), (10, 37, undef), (11, 38, undef), (12, 39, undef), (13, 40, undef), (14, 41, .bool true), (15, 42, .bool true), (16, 43, undef), (17, 44, undef), (18, 45, undef), (19, 46, undef), (20, 47, undef), (21, 48, .bool true), (22, 49, .bool true), (23, 50, undef), (24, 51, undef), (25, 52, undef), (26, 53, undef), (27, 54, undef), (28, 55, undef), (29, 56, .bool true), (30, 57, .bool true), (31, 58, undef), (32, 59, undef), (33, 60, undef)] mixed kr kr dc (by rfl) kr kr (zac ?_ (zac ?_ (zac ?_ (zac ?_ (zac ?_ (zac ?_ (zac ?_ (zac ?_ (zac ?_ (zac ?_ (zac ?_ (zac ?_ (zac ?_ (zac ?_ (zac ?_ (zac ?_ (zac ?_ (zac ?_ (zac ?_ (zac ?_ (zac ?_ (zac ?_ (zac ?_ (zac ?_ (zac ?_ (zac ?_ (zac ?_ (zac ?_ (zac ?_ (zac ?_ (zac ?_ (zac ?_ (zac ?_ (zac ?_ DrawPre.nil)))))))))))))))))))))))))))))))))) ?_
 ·
  intro D hn hd hcl hu hi
  refine zaN (k := 1) zeF rfl dc (zaE (by rfl) rfl) rfl rfl ?_
  exact zaf 0 hu hi rfl
 ·
  intro D hn hd hcl hu hi
  refine zaz rfl dc (zab (m := 0) hu rfl (hd 0 dc)) rfl (zi6 (m := (none : Option Unit)) Tryd.underlying23 (.inl ⟨rfl, rfl⟩)) ?_
  exact zaf 1 hu hi rfl
 ·
  intro D hn hd hcl hu hi
  refine zah rfl dc (zab (m := 1) hu rfl (hd 1 dc)) ?_
  exact zaf 2 hu hi rfl
 ·
  intro D hn hd hcl hu hi
  refine zan (zb3 rfl (zab (m := 2) hu rfl (hd 2 dc))) dc ?_
  exact zaf 3 hu hi rfl
 ·
  intro D hn hd hcl hu hi
  refine zan (zb3 rfl (zab (m := 2) hu rfl (hd 2 dc))) dc ?_
  exact zaf 4 hu hi rfl
 ·
  intro D hn hd hcl hu hi
  refine zan (zb3 rfl (zab (m := 2) hu rfl (hd 2 dc))) dc ?_
  exact zaf 5 hu hi rfl
 ·
  intro D hn hd hcl hu hi
  refine zan (zb3 rfl (zab (m := 2) hu rfl (hd 2 dc))) dc ?_
  exact zaf 6 hu hi rfl
 ·
  intro D hn hd hcl hu hi
  refine zaB (b := true) rfl dc (zab (m := 2) hu rfl (hd 2 dc)) rfl ?_
  exact zaf 7 hu hi rfl
 ·
  intro D hn hd hcl hu hi
  refine zah rfl dc (zab (m := 7) hu rfl (hd 7 dc)) ?_
  exact zaf 8 hu hi rfl
 ·
  intro D hn hd hcl hu hi
  refine zan (zb3 rfl (zab (m := 8) hu rfl (hd 8 dc))) dc ?_
  exact zaf 9 hu hi rfl
 ·
  intro D hn hd hcl hu hi
  refine zan (zb3 rfl (zab (m := 8) hu rfl (hd 8 dc))) dc ?_
  exact zaf 10 hu hi rfl
 ·
  intro D hn hd hcl hu hi
  refine zan (zb3 rfl (zab (m := 8) hu rfl (hd 8 dc))) dc ?_
  exact zaf 11 hu hi rfl
 ·
  intro D hn hd hcl hu hi
  refine zan (zb3 rfl (zab (m := 8) hu rfl (hd 8 dc))) dc ?_
  exact zaf 12 hu hi rfl
 ·
  intro D hn hd hcl hu hi
  refine zan (zb3 rfl (zab (m := 8) hu rfl (hd 8 dc))) dc ?_
  exact zaf 13 hu hi rfl
 ·
  intro D hn hd hcl hu hi
  refine zaB (b := true) rfl dc (zab (m := 8) hu rfl (hd 8 dc)) rfl ?_
  exact zaf 14 hu hi rfl
 ·
  intro D hn hd hcl hu hi
  refine zah rfl dc (zab (m := 14) hu rfl (hd 14 dc)) ?_
  exact zaf 15 hu hi rfl
 ·
  intro D hn hd hcl hu hi
  refine zan (zb3 rfl (zab (m := 15) hu rfl (hd 15 dc))) dc ?_
  exact zaf 16 hu hi rfl
 ·
  intro D hn hd hcl hu hi
  refine zan (zb3 rfl (zab (m := 15) hu rfl (hd 15 dc))) dc ?_
  exact zaf 17 hu hi rfl
 ·
  intro D hn hd hcl hu hi
  refine zan (zb3 rfl (zab (m := 15) hu rfl (hd 15 dc))) dc ?_
  exact zaf 18 hu hi rfl
 ·
  intro D hn hd hcl hu hi
  refine zan (zb3 rfl (zab (m := 15) hu rfl (hd 15 dc))) dc ?_
  exact zaf 19 hu hi rfl
 ·
  intro D hn hd hcl hu hi
  refine zan (zb3 rfl (zab (m := 15) hu rfl (hd 15 dc))) dc ?_
  exact zaf 20 hu hi rfl
 ·
  intro D hn hd hcl hu hi
  refine zaB (b := true) rfl dc (zab (m := 15) hu rfl (hd 15 dc)) rfl ?_
  exact zaf 21 hu hi rfl
 ·
  intro D hn hd hcl hu hi
  refine zah rfl dc (zab (m := 21) hu rfl (hd 21 dc)) ?_
  exact zaf 22 hu hi rfl
 ·
  intro D hn hd hcl hu hi
  refine zan (zb3 rfl (zab (m := 22) hu rfl (hd 22 dc))) dc ?_
  exact zaf 23 hu hi rfl
 ·
  intro D hn hd hcl hu hi
  refine zan (zb3 rfl (zab (m := 22) hu rfl (hd 22 dc))) dc ?_
  exact zaf 24 hu hi rfl
 ·
  intro D hn hd hcl hu hi
  refine zan (zb3 rfl (zab (m := 22) hu rfl (hd 22 dc))) dc ?_
  exact zaf 25 hu hi rfl
 ·
  intro D hn hd hcl hu hi
  refine zan (zb3 rfl (zab (m := 22) hu rfl (hd 22 dc))) dc ?_
  exact zaf 26 hu hi rfl
 ·
  intro D hn hd hcl hu hi
  refine zan (zb3 rfl (zab (m := 22) hu rfl (hd 22 dc))) dc ?_
  exact zaf 27 hu hi rfl
 ·
  intro D hn hd hcl hu hi
  refine zan (zb3 rfl (zab (m := 22) hu rfl (hd 22 dc))) dc ?_
  exact zaf 28 hu hi rfl
 ·
  intro D hn hd hcl hu hi
  refine zaB (b := true) rfl dc (zab (m := 22) hu rfl (hd 22 dc)) rfl ?_
  exact zaf 29 hu hi rfl
 ·
  intro D hn hd hcl hu hi
  refine zah rfl dc (zab (m := 29) hu rfl (hd 29 dc)) ?_
  exact zaf 30 hu hi rfl
 ·
  intro D hn hd hcl hu hi
  refine zan (zb3 rfl (zab (m := 30) hu rfl (hd 30 dc))) dc ?_
  exact zaf 31 hu hi rfl
 ·
  intro D hn hd hcl hu hi
  refine zan (zb3 rfl (zab (m := 30) hu rfl (hd 30 dc))) dc ?_
  exact zaf 32 hu hi rfl
 ·
  intro D hn hd hcl hu hi
  refine zan (zb3 rfl (zab (m := 30) hu rfl (hd 30 dc))) dc ?_
  exact zaf 33 hu hi rfl
 refine zan rfl dc (zan rfl dc (zaB (b := true) rfl dc rfl rfl (zap (zaj (zbu rfl (zas (zai ?_)))))))
 refine zbo (k := 4) (l' := [.bool false]) zjO rfl rfl rfl rfl rfl (fun _ _ => rfl) rfl ?_
 refine zap (zaj (zaX (zay ?_)))
 cases h
 exact zep (rs := [.cell 8 4]) ([] : List Nat) () (.inl rfl) (zb8 (k := 0) rfl) Tryd.results31 (.cons (.cell zlb (k := 4) rfl rfl) .nil) rfl Splits.nil
def zea (p1 : Gpoem_Poem) (l1 : List Gapi_Verse) (ek1 : Int → Option Bool) (x1 : Int × Gapi_Verse) (ag1 : Int → Option Bool) (i4 : Int) : Option Bool := zaU (decide (((l1.length : Int) : Int) ≤ i4)) ( ek1 i4
) ( zaU ((x1.1 : Int) != i4) ( ek1 i4
) ( zaG (zdh l1 i4) fun (q1 : Gapi_Verse) => zaU (!(zcN x1.2 q1)) ( ek1 i4
) ( zaG (zca p1 i4) fun (r8 : (Gapi_Verse × Int)) => zaU ((r8.2 : Int) != 0) ( ek1 i4
) ( zaU (!(zcN r8.1 x1.2)) ( ek1 i4
) ( grd (I64 (i4 + 1)) <| ag1 (i4 + 1)
)
)
)
)
)
def zdX (p1 : Gpoem_Poem) (wv1 : Gref17_Poem) (j2 : Option Bool) (ag2 : Int → Int → Option Bool) (from3 : Int) (x4 : Int) : Option Bool := zaU (decide ((x4 : Int) < (wv1.Stanzas.length : Int))) ( zaG (zdh wv1.Stanzas x4) fun (x5 : List ByteArray) => zaG (zbQ p1 x4) fun (r9 : (Gapi_Span × Int)) => zaU ((r9.2 : Int) != 0) ( some false
) ( grd (I64 (from3 + (x5.length : Int))) <| zaU (!(zdR r9.1 (⟨from3, from3 + (x5.length : Int)⟩ : Gapi_Span))) ( some false
) ( grd (I64 (from3 + (x5.length : Int))) <| grd (I64 (x4 + 1)) <| ag2 (from3 + (x5.length : Int)) (x4 + 1)
)
)
) ( j2
)
def zdc (p1 : Gpoem_Poem) (l1 : List Gapi_Verse) (j3 : Option Bool) (ag3 : Int → Option Bool) (x8 : Int) : Option Bool := zaU (decide ((x8 : Int) < (([(-1), (l1.length : Int)] : List Int).length : Int))) ( zaG (zdh ([(-1), (l1.length : Int)] : List Int) x8) fun (q2 : Int) => zaG (zca p1 q2) fun (r10 : (Gapi_Verse × Int)) => zaU (!(zcN r10.1 (⟨ByteArray.empty, 0, 0, 0, 0, 0⟩ : Gapi_Verse))) ( some false
) ( zaU ((r10.2 : Int) != 5) ( some false
) ( grd (I64 (x8 + 1)) <| ag3 (x8 + 1)
)
)
) ( j3
)
def zdb (p1 : Gpoem_Poem) (wv1 : Gref17_Poem) (j4 : Option Bool) (ag4 : Int → Option Bool) (x11 : Int) : Option Bool := zaU (decide ((x11 : Int) < (([(-1), (wv1.Stanzas.length : Int)] : List Int).length : Int))) ( zaG (zdh ([(-1), (wv1.Stanzas.length : Int)] : List Int) x11) fun (q3 : Int) => zaG (zbQ p1 q3) fun (r11 : (Gapi_Span × Int)) => zaU (!(zdR r11.1 (⟨0, 0⟩ : Gapi_Span))) ( some false
) ( zaU ((r11.2 : Int) != 5) ( some false
) ( grd (I64 (x11 + 1)) <| ag4 (x11 + 1)
)
)
) ( j4
)
def zfd (p1 : Gpoem_Poem) (source1 : ByteArray) (wv1 : Gref17_Poem) (l1 : List Gapi_Verse) : Option Bool := zaG (zez p1) fun (r1 : ByteArray) => zaU (!decide (r1 = source1)) ( some false
) ( zaG (zef p1) fun (r2 : ByteArray) => zaU (!decide (r2 = wv1.Title)) ( some false
) ( zaG (zeg p1) fun (r3 : Int) => zaU ((r3 : Int) != (l1.length : Int)) ( some false
) ( zaG (zdU p1) fun (r4 : Int) => zaU ((r4 : Int) != (wv1.Stanzas.length : Int)) ( some false
) ( zaG (zc8 p1) fun (r5 : ByteArray) => zaG (zbU wv1) fun (r6 : ByteArray) => zaU (!decide (r5 = r6)) ( some false
) ( zbO (fun (j1 : Int → Option Bool) => zaG (zem p1) fun (r7 : Unit) => zaG (zcT p1) fun (its1 : (List (Int × Gapi_Verse))) => zbO (fun (ek1 : Int → Option Bool) => zbO (fun (dn1 : Int → Option Bool) => zfj dn1 (zea p1 l1 ek1) its1 0
) (fun (i4 : Int) => j1 i4
)
) (fun (i5 : Int) => some false
)
) (fun (i1 : Int) => zbO (fun (j2 : Option Bool) => za8 (fun _ _ => none) (zdX p1 wv1 j2) zb0 0 0
) ( zbO (fun (j3 : Option Bool) => za8 (fun _ => none) (zdc p1 l1 j3) zb0 0
) ( zbO (fun (j4 : Option Bool) => za8 (fun _ => none) (zdb p1 wv1 j4) zb0 0
) ( some ((i1 : Int) == (l1.length : Int))
)
)
)
)
)
)
)
)
)
theorem zgJ {bp1 : Nat} {p1 : Gpoem_Poem} {p1_h0 p1_h1 : Hd} {source1 : ByteArray} {wv1 : Gref17_Poem} {wv1_h0 : Hd} {vvwv10 : Value} {kwv10 : Nat} {Zwv10 zwv10 : List ((List ByteArray) × Hd)} (hwwv10 : Vw vvwv10 Zwv10 1 kwv10 wv1_h0.v zwv10) (hzwv10 : zwv10.map Prod.fst = wv1.Stanzas) {vvl1 vl1 : Value} {Ll1 : List Gapi_Verse} {kl1 : Nat} {l1 : List Gapi_Verse} (hwl1 : Vw vvl1 Ll1 6 kl1 vl1 l1) {r : Bool} (h : zfd p1 source1 wv1 l1 = some r) : FnR Tryd.prog 31 [zP bp1, .string source1, .agg #[.string wv1.Title, wv1_h0.v], vl1] [cells bp1 [.string p1.told_title, p1_h0.v, p1_h1.v, .string p1.source] 93, vec zam 36 6 p1_h0.v p1.told_lines, vec zav 34 2 p1_h1.v p1.told_stanzas, zbk zae 1 vvwv10 kwv10 Zwv10, zbM zaD Zwv10, zbk zam 6 vvl1 kl1 Ll1] [] (fun _ : Unit => (.bool r)) (fun _ => []) := by
 unfold zfd at h
 refine FnR.intro Tryd.func31 rfl Tryd.ntmps31 (by simp) ?_
 intro w0 K hrd
 refine zjL ?_
 show TC _ _ _ _ _ _ _ _ _ [zev ((([] : List Nat) : List Nat).map zeO)]
 refine zas (zai ?_)
 refine zeE rfl dc rfl (fun b1 => ?_)
 refine zeE rfl dc rfl (fun b2 => ?_)
 show TO _ _ _ _ _ _ _ _ _ _ [zev ((([] : List Nat) : List Nat).map zeO), cells b1 [zP bp1] 23, cells b2 [.string wv1.Title, wv1_h0.v] 56]
 refine zmV (fun _ _ => Vw.one hwl1) rfl dc rfl (fun b3 => ?_)
 refine zbl zqa rfl dc (fun b4 => ?_)
 show TO _ _ _ _ _ _ _ _ _ _ [zev ((([] : List Nat) : List Nat).map zeO), cells b1 [zP bp1] 23, cells b2 [.string wv1.Title, wv1_h0.v] 56, cells b3 [vl1] 57, cells b4 [.bool false] 4]
 refine zap (zaj (zas (zas ?_)))
 obtain ⟨r1, hq1, h⟩ := zbN h
 refine zdk (b := !decide (r1 = source1)) (fun hb1 => ?_) (fun hb1 => ?_)
 ·
  have h := za0 hb1 h
  refine zbR 34 [(0, 27, zP bp1), (1, 28, .bool false), (2, 29, .bool false), (3, 30, zP bp1), (4, 31, .string r1), (5, 32, .string source1), (6, 33, .bool true), (7, 34, .bool true), (8, 35, .bool true), (9, 36, undef), (10, 37, undef), (11, 38, undef), (12, 39, undef), (13, 40, undef), (14, 41, .bool true), (15, 42, .bool true), (16, 43, undef), (17, 44, undef), (18, 45, undef), (19, 46, undef), (20, 47, undef), (21, 48, .bool true), (22, 49, .bool true), (23, 50, undef), (24, 51, undef), (25, 52, undef), (26, 53, undef), (27, 54, undef), (28, 55, undef), (29, 56, .bool true), (30, 57, .bool true), (31, 58, undef), (32, 59, undef), (33, 60, undef)] mixed kr kr dc (by rfl) kr kr (zac ?_ (zac ?_ (zac ?_ (zac ?_ (zac ?_ (zac ?_ (zac ?_ (zac ?_ (zac ?_ (zac ?_ (zac ?_ (zac ?_ (zac ?_ (zac ?_ (zac ?_ (zac ?_ (zac ?_ (zac ?_ (zac ?_ (zac ?_ (zac ?_ (zac ?_ (zac ?_ (zac ?_ (zac ?_ (zac ?_ (zac ?_ (zac ?_ (zac ?_ (zac ?_ (zac ?_ (zac ?_ (zac ?_ (zac ?_ DrawPre.nil)))))))))))))))))))))))))))))))))) ?_
  ·
   intro D hn hd hcl hu hi
   refine zaN (k := 1) zeF rfl dc (zaE (by rfl) rfl) rfl rfl ?_
   exact zaf 0 hu hi rfl
  ·
   intro D hn hd hcl hu hi
   refine zaz rfl dc (zab (m := 0) hu rfl (hd 0 dc)) rfl (zbf Tryd.underlying23) ?_
   exact zaf 1 hu hi rfl
  ·
   intro D hn hd hcl hu hi
   refine zah rfl dc (zab (m := 1) hu rfl (hd 1 dc)) ?_
   exact zaf 2 hu hi rfl
  ·
   intro D hn hd hcl hu hi
   refine zaN (k := 1) zeF (zbD rfl (zab (m := 2) hu rfl (hd 2 dc))) dc (zaE (by rfl) rfl) rfl rfl ?_
   exact zaf 3 hu hi rfl
  ·
   intro D hn hd hcl hu hi
   refine za4 (v := .string r1) (vs := [zP bp1]) hrd (zbD rfl (zab (m := 2) hu rfl (hd 2 dc))) dc rfl (evL.cons (zab (m := 3) hu rfl (hd 3 dc)) evL.nil) rfl zmK (zda (bp1 := bp1) (p1 := p1) (p1_h0 := p1_h0) (p1_h1 := p1_h1) hq1) (.ro 0 rfl (.ro 1 rfl (.ro 2 rfl .nil))) ?_
   exact zaf 4 hu hi rfl
  ·
   intro D hn hd hcl hu hi
   refine zah (zbD rfl (zab (m := 2) hu rfl (hd 2 dc))) dc (zaE (by rfl) rfl) ?_
   exact zaf 5 hu hi rfl
  ·
   intro D hn hd hcl hu hi
   refine zaz (zbD rfl (zab (m := 2) hu rfl (hd 2 dc))) dc (zab (m := 4) hu rfl (hd 4 dc)) (zab (m := 5) hu rfl (hd 5 dc)) zcY (zbP (show Value.bool (!decide (r1 = source1)) = Value.bool true from congrArg Value.bool hb1) ?_)
   exact zaf 6 hu hi rfl
  ·
   intro D hn hd hcl hu hi
   refine zaB (b := false) rfl dc (zab (m := 2) hu rfl (hd 2 dc)) (zab (m := 6) hu rfl (hd 6 dc)) ?_
   exact zaf 7 hu hi rfl
  ·
   intro D hn hd hcl hu hi
   refine zah rfl dc (zab (m := 7) hu rfl (hd 7 dc)) ?_
   exact zaf 8 hu hi rfl
  ·
   intro D hn hd hcl hu hi
   refine zan (zb3 rfl (zab (m := 8) hu rfl (hd 8 dc))) dc ?_
   exact zaf 9 hu hi rfl
  ·
   intro D hn hd hcl hu hi
   refine zan (zb3 rfl (zab (m := 8) hu rfl (hd 8 dc))) dc ?_
   exact zaf 10 hu hi rfl
  ·
   intro D hn hd hcl hu hi
   refine zan (zb3 rfl (zab (m := 8) hu rfl (hd 8 dc))) dc ?_
   exact zaf 11 hu hi rfl
  ·
   intro D hn hd hcl hu hi
   refine zan (zb3 rfl (zab (m := 8) hu rfl (hd 8 dc))) dc ?_
   exact zaf 12 hu hi rfl
  ·
   intro D hn hd hcl hu hi
   refine zan (zb3 rfl (zab (m := 8) hu rfl (hd 8 dc))) dc ?_
   exact zaf 13 hu hi rfl
  ·
   intro D hn hd hcl hu hi
   refine zaB (b := true) rfl dc (zab (m := 8) hu rfl (hd 8 dc)) rfl ?_
   exact zaf 14 hu hi rfl
  ·
   intro D hn hd hcl hu hi
   refine zah rfl dc (zab (m := 14) hu rfl (hd 14 dc)) ?_
   exact zaf 15 hu hi rfl
  ·
   intro D hn hd hcl hu hi
   refine zan (zb3 rfl (zab (m := 15) hu rfl (hd 15 dc))) dc ?_
   exact zaf 16 hu hi rfl
  ·
   intro D hn hd hcl hu hi
   refine zan (zb3 rfl (zab (m := 15) hu rfl (hd 15 dc))) dc ?_
   exact zaf 17 hu hi rfl
  ·
   intro D hn hd hcl hu hi
   refine zan (zb3 rfl (zab (m := 15) hu rfl (hd 15 dc))) dc ?_
   exact zaf 18 hu hi rfl
  ·
   intro D hn hd hcl hu hi
   refine zan (zb3 rfl (zab (m := 15) hu rfl (hd 15 dc))) dc ?_
   exact zaf 19 hu hi rfl
  ·
   intro D hn hd hcl hu hi
   refine zan (zb3 rfl (zab (m := 15) hu rfl (hd 15 dc))) dc ?_
   exact zaf 20 hu hi rfl
  ·
   intro D hn hd hcl hu hi
   refine zaB (b := true) rfl dc (zab (m := 15) hu rfl (hd 15 dc)) rfl ?_
   exact zaf 21 hu hi rfl
  ·
   intro D hn hd hcl hu hi
   refine zah rfl dc (zab (m := 21) hu rfl (hd 21 dc)) ?_
   exact zaf 22 hu hi rfl
  ·
   intro D hn hd hcl hu hi
   refine zan (zb3 rfl (zab (m := 22) hu rfl (hd 22 dc))) dc ?_
   exact zaf 23 hu hi rfl
  ·
   intro D hn hd hcl hu hi
   refine zan (zb3 rfl (zab (m := 22) hu rfl (hd 22 dc))) dc ?_
   exact zaf 24 hu hi rfl
  ·
   intro D hn hd hcl hu hi
   refine zan (zb3 rfl (zab (m := 22) hu rfl (hd 22 dc))) dc ?_
   exact zaf 25 hu hi rfl
  ·
   intro D hn hd hcl hu hi
   refine zan (zb3 rfl (zab (m := 22) hu rfl (hd 22 dc))) dc ?_
   exact zaf 26 hu hi rfl
  ·
   intro D hn hd hcl hu hi
   refine zan (zb3 rfl (zab (m := 22) hu rfl (hd 22 dc))) dc ?_
   exact zaf 27 hu hi rfl
  ·
   intro D hn hd hcl hu hi
   refine zan (zb3 rfl (zab (m := 22) hu rfl (hd 22 dc))) dc ?_
   exact zaf 28 hu hi rfl
  ·
   intro D hn hd hcl hu hi
   refine zaB (b := true) rfl dc (zab (m := 22) hu rfl (hd 22 dc)) rfl ?_
   exact zaf 29 hu hi rfl
  ·
   intro D hn hd hcl hu hi
   refine zah rfl dc (zab (m := 29) hu rfl (hd 29 dc)) ?_
   exact zaf 30 hu hi rfl
  ·
   intro D hn hd hcl hu hi
   refine zan (zb3 rfl (zab (m := 30) hu rfl (hd 30 dc))) dc ?_
   exact zaf 31 hu hi rfl
  ·
   intro D hn hd hcl hu hi
   refine zan (zb3 rfl (zab (m := 30) hu rfl (hd 30 dc))) dc ?_
   exact zaf 32 hu hi rfl
  ·
   intro D hn hd hcl hu hi
   refine zan (zb3 rfl (zab (m := 30) hu rfl (hd 30 dc))) dc ?_
   exact zaf 33 hu hi rfl
  refine zan rfl dc (zan rfl dc (zaB (b := true) rfl dc rfl rfl (zap (zaj (zbu rfl (zas (zai ?_)))))))
  refine zbo (k := 4) (l' := [.bool false]) zjO rfl rfl rfl rfl rfl (fun _ _ => rfl) rfl ?_
  refine zap (zaj (zaX (zay ?_)))
  cases h
  exact zep (rs := [.cell 8 4]) ([] : List Nat) () (.inl rfl) (zb8 (k := 0) rfl) Tryd.results31 (.cons (.cell zlb (k := 4) rfl rfl) .nil) rfl Splits.nil
 ·
  have h := za1 hb1 h
  obtain ⟨r2, hq2, h⟩ := zbN h
  refine zdk (b := !decide (r2 = wv1.Title)) (fun hb2 => ?_) (fun hb2 => ?_)
  ·
   have h := za0 hb2 h
   refine zbR 34 [(0, 27, zP bp1), (1, 28, .bool false), (2, 29, .bool false), (3, 30, zP bp1), (4, 31, .string r1), (5, 32, .string source1), (6, 33, .bool false), (7, 34, .bool false), (8, 35, .bool false), (9, 36, zP bp1), (10, 37, .string r2), (11, 38, zP b2), (12, 39, .string wv1.Title), (13, 40, .bool true), (14, 41, .bool true), (15, 42, .bool true), (16, 43, undef), (17, 44, undef), (18, 45, undef), (19, 46, undef), (20, 47, undef), (21, 48, .bool true), (22, 49, .bool true), (23, 50, undef), (24, 51, undef), (25, 52, undef), (26, 53, undef), (27, 54, undef), (28, 55, undef), (29, 56, .bool true), (30, 57, .bool true), (31, 58, undef), (32, 59, undef), (33, 60, undef)] mixed kr kr dc (by rfl) kr kr (zac ?_ (zac ?_ (zac ?_ (zac ?_ (zac ?_ (zac ?_ (zac ?_ (zac ?_ (zac ?_ (zac ?_ (zac ?_ (zac ?_ (zac ?_ (zac ?_ (zac ?_ (zac ?_ (zac ?_ (zac ?_ (zac ?_ (zac ?_ (zac ?_ (zac ?_ (zac ?_ (zac ?_ (zac ?_ (zac ?_ (zac ?_ (zac ?_ (zac ?_ (zac ?_ (zac ?_ (zac ?_ (zac ?_ (zac ?_ DrawPre.nil)))))))))))))))))))))))))))))))))) ?_
   ·
    intro D hn hd hcl hu hi
    refine zaN (k := 1) zeF rfl dc (zaE (by rfl) rfl) rfl rfl ?_
    exact zaf 0 hu hi rfl
   ·
    intro D hn hd hcl hu hi
    refine zaz rfl dc (zab (m := 0) hu rfl (hd 0 dc)) rfl (zbf Tryd.underlying23) ?_
    exact zaf 1 hu hi rfl
   ·
    intro D hn hd hcl hu hi
    refine zah rfl dc (zab (m := 1) hu rfl (hd 1 dc)) ?_
    exact zaf 2 hu hi rfl
   ·
    intro D hn hd hcl hu hi
    refine zaN (k := 1) zeF (zbD rfl (zab (m := 2) hu rfl (hd 2 dc))) dc (zaE (by rfl) rfl) rfl rfl ?_
    exact zaf 3 hu hi rfl
   ·
    intro D hn hd hcl hu hi
    refine za4 (v := .string r1) (vs := [zP bp1]) hrd (zbD rfl (zab (m := 2) hu rfl (hd 2 dc))) dc rfl (evL.cons (zab (m := 3) hu rfl (hd 3 dc)) evL.nil) rfl zmK (zda (bp1 := bp1) (p1 := p1) (p1_h0 := p1_h0) (p1_h1 := p1_h1) hq1) (.ro 0 rfl (.ro 1 rfl (.ro 2 rfl .nil))) ?_
    exact zaf 4 hu hi rfl
   ·
    intro D hn hd hcl hu hi
    refine zah (zbD rfl (zab (m := 2) hu rfl (hd 2 dc))) dc (zaE (by rfl) rfl) ?_
    exact zaf 5 hu hi rfl
   ·
    intro D hn hd hcl hu hi
    refine zaz (zbD rfl (zab (m := 2) hu rfl (hd 2 dc))) dc (zab (m := 4) hu rfl (hd 4 dc)) (zab (m := 5) hu rfl (hd 5 dc)) zcY (zbP (show Value.bool (!decide (r1 = source1)) = Value.bool false from congrArg Value.bool hb1) ?_)
    exact zaf 6 hu hi rfl
   ·
    intro D hn hd hcl hu hi
    refine zaB (b := false) rfl dc (zab (m := 2) hu rfl (hd 2 dc)) (zab (m := 6) hu rfl (hd 6 dc)) ?_
    exact zaf 7 hu hi rfl
   ·
    intro D hn hd hcl hu hi
    refine zah rfl dc (zab (m := 7) hu rfl (hd 7 dc)) ?_
    exact zaf 8 hu hi rfl
   ·
    intro D hn hd hcl hu hi
    refine zaN (k := 1) zeF (zbD rfl (zab (m := 8) hu rfl (hd 8 dc))) dc (zaE (by rfl) rfl) rfl rfl ?_
    exact zaf 9 hu hi rfl
   ·
    intro D hn hd hcl hu hi
    refine za4 (v := .string r2) (vs := [zP bp1]) hrd (zbD rfl (zab (m := 8) hu rfl (hd 8 dc))) dc rfl (evL.cons (zab (m := 9) hu rfl (hd 9 dc)) evL.nil) rfl zmJ (zds (bp1 := bp1) (p1 := p1) (p1_h0 := p1_h0) (p1_h1 := p1_h1) hq2) (.ro 0 rfl (.ro 1 rfl (.ro 2 rfl .nil))) ?_
    exact zaf 10 hu hi rfl
   ·
    intro D hn hd hcl hu hi
    refine zar zeL (zbD rfl (zab (m := 8) hu rfl (hd 8 dc))) dc (zaE (by rfl) rfl) (show _ = 0 from rfl) ?_
    exact zaf 11 hu hi rfl
   ·
    intro D hn hd hcl hu hi
    refine zaN (k := 2) zgm (zbD rfl (zab (m := 8) hu rfl (hd 8 dc))) dc (zab (m := 11) hu rfl (hd 11 dc)) rfl rfl ?_
    exact zaf 12 hu hi rfl
   ·
    intro D hn hd hcl hu hi
    refine zaz (zbD rfl (zab (m := 8) hu rfl (hd 8 dc))) dc (zab (m := 10) hu rfl (hd 10 dc)) (zab (m := 12) hu rfl (hd 12 dc)) zcY (zbP (show Value.bool (!decide (r2 = wv1.Title)) = Value.bool true from congrArg Value.bool hb2) ?_)
    exact zaf 13 hu hi rfl
   ·
    intro D hn hd hcl hu hi
    refine zaB (b := false) rfl dc (zab (m := 8) hu rfl (hd 8 dc)) (zab (m := 13) hu rfl (hd 13 dc)) ?_
    exact zaf 14 hu hi rfl
   ·
    intro D hn hd hcl hu hi
    refine zah rfl dc (zab (m := 14) hu rfl (hd 14 dc)) ?_
    exact zaf 15 hu hi rfl
   ·
    intro D hn hd hcl hu hi
    refine zan (zb3 rfl (zab (m := 15) hu rfl (hd 15 dc))) dc ?_
    exact zaf 16 hu hi rfl
   ·
    intro D hn hd hcl hu hi
    refine zan (zb3 rfl (zab (m := 15) hu rfl (hd 15 dc))) dc ?_
    exact zaf 17 hu hi rfl
   ·
    intro D hn hd hcl hu hi
    refine zan (zb3 rfl (zab (m := 15) hu rfl (hd 15 dc))) dc ?_
    exact zaf 18 hu hi rfl
   ·
    intro D hn hd hcl hu hi
    refine zan (zb3 rfl (zab (m := 15) hu rfl (hd 15 dc))) dc ?_
    exact zaf 19 hu hi rfl
   ·
    intro D hn hd hcl hu hi
    refine zan (zb3 rfl (zab (m := 15) hu rfl (hd 15 dc))) dc ?_
    exact zaf 20 hu hi rfl
   ·
    intro D hn hd hcl hu hi
    refine zaB (b := true) rfl dc (zab (m := 15) hu rfl (hd 15 dc)) rfl ?_
    exact zaf 21 hu hi rfl
   ·
    intro D hn hd hcl hu hi
    refine zah rfl dc (zab (m := 21) hu rfl (hd 21 dc)) ?_
    exact zaf 22 hu hi rfl
   ·
    intro D hn hd hcl hu hi
    refine zan (zb3 rfl (zab (m := 22) hu rfl (hd 22 dc))) dc ?_
    exact zaf 23 hu hi rfl
   ·
    intro D hn hd hcl hu hi
    refine zan (zb3 rfl (zab (m := 22) hu rfl (hd 22 dc))) dc ?_
    exact zaf 24 hu hi rfl
   ·
    intro D hn hd hcl hu hi
    refine zan (zb3 rfl (zab (m := 22) hu rfl (hd 22 dc))) dc ?_
    exact zaf 25 hu hi rfl
   ·
    intro D hn hd hcl hu hi
    refine zan (zb3 rfl (zab (m := 22) hu rfl (hd 22 dc))) dc ?_
    exact zaf 26 hu hi rfl
   ·
    intro D hn hd hcl hu hi
    refine zan (zb3 rfl (zab (m := 22) hu rfl (hd 22 dc))) dc ?_
    exact zaf 27 hu hi rfl
   ·
    intro D hn hd hcl hu hi
    refine zan (zb3 rfl (zab (m := 22) hu rfl (hd 22 dc))) dc ?_
    exact zaf 28 hu hi rfl
   ·
    intro D hn hd hcl hu hi
    refine zaB (b := true) rfl dc (zab (m := 22) hu rfl (hd 22 dc)) rfl ?_
    exact zaf 29 hu hi rfl
   ·
    intro D hn hd hcl hu hi
    refine zah rfl dc (zab (m := 29) hu rfl (hd 29 dc)) ?_
    exact zaf 30 hu hi rfl
   ·
    intro D hn hd hcl hu hi
    refine zan (zb3 rfl (zab (m := 30) hu rfl (hd 30 dc))) dc ?_
    exact zaf 31 hu hi rfl
   ·
    intro D hn hd hcl hu hi
    refine zan (zb3 rfl (zab (m := 30) hu rfl (hd 30 dc))) dc ?_
    exact zaf 32 hu hi rfl
   ·
    intro D hn hd hcl hu hi
    refine zan (zb3 rfl (zab (m := 30) hu rfl (hd 30 dc))) dc ?_
    exact zaf 33 hu hi rfl
   refine zan rfl dc (zan rfl dc (zaB (b := true) rfl dc rfl rfl (zap (zaj (zbu rfl (zas (zai ?_)))))))
   refine zbo (k := 4) (l' := [.bool false]) zjO rfl rfl rfl rfl rfl (fun _ _ => rfl) rfl ?_
   refine zap (zaj (zaX (zay ?_)))
   cases h
   exact zep (rs := [.cell 8 4]) ([] : List Nat) () (.inl rfl) (zb8 (k := 0) rfl) Tryd.results31 (.cons (.cell zlb (k := 4) rfl rfl) .nil) rfl Splits.nil
  ·
   have h := za1 hb2 h
   obtain ⟨r3, hq3, h⟩ := zbN h
   refine zdk (b := (r3 : Int) != (l1.length : Int)) (fun hb3 => ?_) (fun hb3 => ?_)
   ·
    have h := za0 hb3 h
    refine zbR 34 [(0, 27, zP bp1), (1, 28, .bool false), (2, 29, .bool false), (3, 30, zP bp1), (4, 31, .string r1), (5, 32, .string source1), (6, 33, .bool false), (7, 34, .bool false), (8, 35, .bool false), (9, 36, zP bp1), (10, 37, .string r2), (11, 38, zP b2), (12, 39, .string wv1.Title), (13, 40, .bool false), (14, 41, .bool false), (15, 42, .bool false), (16, 43, zP bp1), (17, 44, zI r3), (18, 45, vl1), (19, 46, zI (l1.length : Int)), (20, 47, .bool true), (21, 48, .bool true), (22, 49, .bool true), (23, 50, undef), (24, 51, undef), (25, 52, undef), (26, 53, undef), (27, 54, undef), (28, 55, undef), (29, 56, .bool true), (30, 57, .bool true), (31, 58, undef), (32, 59, undef), (33, 60, undef)] mixed kr kr dc (by rfl) kr kr (zac ?_ (zac ?_ (zac ?_ (zac ?_ (zac ?_ (zac ?_ (zac ?_ (zac ?_ (zac ?_ (zac ?_ (zac ?_ (zac ?_ (zac ?_ (zac ?_ (zac ?_ (zac ?_ (zac ?_ (zac ?_ (zac ?_ (zac ?_ (zac ?_ (zac ?_ (zac ?_ (zac ?_ (zac ?_ (zac ?_ (zac ?_ (zac ?_ (zac ?_ (zac ?_ (zac ?_ (zac ?_ (zac ?_ (zac ?_ DrawPre.nil)))))))))))))))))))))))))))))))))) ?_
    ·
     intro D hn hd hcl hu hi
     refine zaN (k := 1) zeF rfl dc (zaE (by rfl) rfl) rfl rfl ?_
     exact zaf 0 hu hi rfl
    ·
     intro D hn hd hcl hu hi
     refine zaz rfl dc (zab (m := 0) hu rfl (hd 0 dc)) rfl (zbf Tryd.underlying23) ?_
     exact zaf 1 hu hi rfl
    ·
     intro D hn hd hcl hu hi
     refine zah rfl dc (zab (m := 1) hu rfl (hd 1 dc)) ?_
     exact zaf 2 hu hi rfl
    ·
     intro D hn hd hcl hu hi
     refine zaN (k := 1) zeF (zbD rfl (zab (m := 2) hu rfl (hd 2 dc))) dc (zaE (by rfl) rfl) rfl rfl ?_
     exact zaf 3 hu hi rfl
    ·
     intro D hn hd hcl hu hi
     refine za4 (v := .string r1) (vs := [zP bp1]) hrd (zbD rfl (zab (m := 2) hu rfl (hd 2 dc))) dc rfl (evL.cons (zab (m := 3) hu rfl (hd 3 dc)) evL.nil) rfl zmK (zda (bp1 := bp1) (p1 := p1) (p1_h0 := p1_h0) (p1_h1 := p1_h1) hq1) (.ro 0 rfl (.ro 1 rfl (.ro 2 rfl .nil))) ?_
     exact zaf 4 hu hi rfl
    ·
     intro D hn hd hcl hu hi
     refine zah (zbD rfl (zab (m := 2) hu rfl (hd 2 dc))) dc (zaE (by rfl) rfl) ?_
     exact zaf 5 hu hi rfl
    ·
     intro D hn hd hcl hu hi
     refine zaz (zbD rfl (zab (m := 2) hu rfl (hd 2 dc))) dc (zab (m := 4) hu rfl (hd 4 dc)) (zab (m := 5) hu rfl (hd 5 dc)) zcY (zbP (show Value.bool (!decide (r1 = source1)) = Value.bool false from congrArg Value.bool hb1) ?_)
     exact zaf 6 hu hi rfl
    ·
     intro D hn hd hcl hu hi
     refine zaB (b := false) rfl dc (zab (m := 2) hu rfl (hd 2 dc)) (zab (m := 6) hu rfl (hd 6 dc)) ?_
     exact zaf 7 hu hi rfl
    ·
     intro D hn hd hcl hu hi
     refine zah rfl dc (zab (m := 7) hu rfl (hd 7 dc)) ?_
     exact zaf 8 hu hi rfl
    ·
     intro D hn hd hcl hu hi
     refine zaN (k := 1) zeF (zbD rfl (zab (m := 8) hu rfl (hd 8 dc))) dc (zaE (by rfl) rfl) rfl rfl ?_
     exact zaf 9 hu hi rfl
    ·
     intro D hn hd hcl hu hi
     refine za4 (v := .string r2) (vs := [zP bp1]) hrd (zbD rfl (zab (m := 8) hu rfl (hd 8 dc))) dc rfl (evL.cons (zab (m := 9) hu rfl (hd 9 dc)) evL.nil) rfl zmJ (zds (bp1 := bp1) (p1 := p1) (p1_h0 := p1_h0) (p1_h1 := p1_h1) hq2) (.ro 0 rfl (.ro 1 rfl (.ro 2 rfl .nil))) ?_
     exact zaf 10 hu hi rfl
    ·
     intro D hn hd hcl hu hi
     refine zar zeL (zbD rfl (zab (m := 8) hu rfl (hd 8 dc))) dc (zaE (by rfl) rfl) (show _ = 0 from rfl) ?_
     exact zaf 11 hu hi rfl
    ·
     intro D hn hd hcl hu hi
     refine zaN (k := 2) zgm (zbD rfl (zab (m := 8) hu rfl (hd 8 dc))) dc (zab (m := 11) hu rfl (hd 11 dc)) rfl rfl ?_
     exact zaf 12 hu hi rfl
    ·
     intro D hn hd hcl hu hi
     refine zaz (zbD rfl (zab (m := 8) hu rfl (hd 8 dc))) dc (zab (m := 10) hu rfl (hd 10 dc)) (zab (m := 12) hu rfl (hd 12 dc)) zcY (zbP (show Value.bool (!decide (r2 = wv1.Title)) = Value.bool false from congrArg Value.bool hb2) ?_)
     exact zaf 13 hu hi rfl
    ·
     intro D hn hd hcl hu hi
     refine zaB (b := false) rfl dc (zab (m := 8) hu rfl (hd 8 dc)) (zab (m := 13) hu rfl (hd 13 dc)) ?_
     exact zaf 14 hu hi rfl
    ·
     intro D hn hd hcl hu hi
     refine zah rfl dc (zab (m := 14) hu rfl (hd 14 dc)) ?_
     exact zaf 15 hu hi rfl
    ·
     intro D hn hd hcl hu hi
     refine zaN (k := 1) zeF (zbD rfl (zab (m := 15) hu rfl (hd 15 dc))) dc (zaE (by rfl) rfl) rfl rfl ?_
     exact zaf 16 hu hi rfl
    ·
     intro D hn hd hcl hu hi
     refine za4 (v := zI r3) (vs := [zP bp1]) hrd (zbD rfl (zab (m := 15) hu rfl (hd 15 dc))) dc rfl (evL.cons (zab (m := 16) hu rfl (hd 16 dc)) evL.nil) rfl znu (zd4 (bp1 := bp1) (p1 := p1) (p1_h0 := p1_h0) (p1_h1 := p1_h1) hq3) (.ro 0 rfl (.ro 1 rfl (.ro 2 rfl .nil))) ?_
     exact zaf 17 hu hi rfl
    ·
     intro D hn hd hcl hu hi
     refine zaN (k := 3) zew (zbD rfl (zab (m := 15) hu rfl (hd 15 dc))) dc (zaE (by rfl) rfl) rfl rfl ?_
     exact zaf 18 hu hi rfl
    ·
     intro D hn hd hcl hu hi
     refine zbG hwl1 (zbD rfl (zab (m := 15) hu rfl (hd 15 dc))) dc (zab (m := 18) hu rfl (hd 18 dc)) Tryd.underlying57 ?_
     exact zaf 19 hu hi rfl
    ·
     intro D hn hd hcl hu hi
     refine zaz (zbD rfl (zab (m := 15) hu rfl (hd 15 dc))) dc (zab (m := 17) hu rfl (hd 17 dc)) (zab (m := 19) hu rfl (hd 19 dc)) zbE (zbP (show Value.bool ((r3 : Int) != (l1.length : Int)) = Value.bool true from congrArg Value.bool hb3) ?_)
     exact zaf 20 hu hi rfl
    ·
     intro D hn hd hcl hu hi
     refine zaB (b := false) rfl dc (zab (m := 15) hu rfl (hd 15 dc)) (zab (m := 20) hu rfl (hd 20 dc)) ?_
     exact zaf 21 hu hi rfl
    ·
     intro D hn hd hcl hu hi
     refine zah rfl dc (zab (m := 21) hu rfl (hd 21 dc)) ?_
     exact zaf 22 hu hi rfl
    ·
     intro D hn hd hcl hu hi
     refine zan (zb3 rfl (zab (m := 22) hu rfl (hd 22 dc))) dc ?_
     exact zaf 23 hu hi rfl
    ·
     intro D hn hd hcl hu hi
     refine zan (zb3 rfl (zab (m := 22) hu rfl (hd 22 dc))) dc ?_
     exact zaf 24 hu hi rfl
    ·
     intro D hn hd hcl hu hi
     refine zan (zb3 rfl (zab (m := 22) hu rfl (hd 22 dc))) dc ?_
     exact zaf 25 hu hi rfl
    ·
     intro D hn hd hcl hu hi
     refine zan (zb3 rfl (zab (m := 22) hu rfl (hd 22 dc))) dc ?_
     exact zaf 26 hu hi rfl
    ·
     intro D hn hd hcl hu hi
     refine zan (zb3 rfl (zab (m := 22) hu rfl (hd 22 dc))) dc ?_
     exact zaf 27 hu hi rfl
    ·
     intro D hn hd hcl hu hi
     refine zan (zb3 rfl (zab (m := 22) hu rfl (hd 22 dc))) dc ?_
     exact zaf 28 hu hi rfl
    ·
     intro D hn hd hcl hu hi
     refine zaB (b := true) rfl dc (zab (m := 22) hu rfl (hd 22 dc)) rfl ?_
     exact zaf 29 hu hi rfl
    ·
     intro D hn hd hcl hu hi
     refine zah rfl dc (zab (m := 29) hu rfl (hd 29 dc)) ?_
     exact zaf 30 hu hi rfl
    ·
     intro D hn hd hcl hu hi
     refine zan (zb3 rfl (zab (m := 30) hu rfl (hd 30 dc))) dc ?_
     exact zaf 31 hu hi rfl
    ·
     intro D hn hd hcl hu hi
     refine zan (zb3 rfl (zab (m := 30) hu rfl (hd 30 dc))) dc ?_
     exact zaf 32 hu hi rfl
    ·
     intro D hn hd hcl hu hi
     refine zan (zb3 rfl (zab (m := 30) hu rfl (hd 30 dc))) dc ?_
     exact zaf 33 hu hi rfl
    refine zan rfl dc (zan rfl dc (zaB (b := true) rfl dc rfl rfl (zap (zaj (zbu rfl (zas (zai ?_)))))))
    refine zbo (k := 4) (l' := [.bool false]) zjO rfl rfl rfl rfl rfl (fun _ _ => rfl) rfl ?_
    refine zap (zaj (zaX (zay ?_)))
    cases h
    exact zep (rs := [.cell 8 4]) ([] : List Nat) () (.inl rfl) (zb8 (k := 0) rfl) Tryd.results31 (.cons (.cell zlb (k := 4) rfl rfl) .nil) rfl Splits.nil
   ·
    have h := za1 hb3 h
    obtain ⟨r4, hq4, h⟩ := zbN h
    refine zdk (b := (r4 : Int) != (wv1.Stanzas.length : Int)) (fun hb4 => ?_) (fun hb4 => ?_)
    ·
     have h := za0 hb4 h
     refine zbR 34 [(0, 27, zP bp1), (1, 28, .bool false), (2, 29, .bool false), (3, 30, zP bp1), (4, 31, .string r1), (5, 32, .string source1), (6, 33, .bool false), (7, 34, .bool false), (8, 35, .bool false), (9, 36, zP bp1), (10, 37, .string r2), (11, 38, zP b2), (12, 39, .string wv1.Title), (13, 40, .bool false), (14, 41, .bool false), (15, 42, .bool false), (16, 43, zP bp1), (17, 44, zI r3), (18, 45, vl1), (19, 46, zI (l1.length : Int)), (20, 47, .bool false), (21, 48, .bool false), (22, 49, .bool false), (23, 50, zP bp1), (24, 51, zI r4), (25, 52, .pointer (some ⟨b2, 1, none⟩)), (26, 53, wv1_h0.v), (27, 54, zI (wv1.Stanzas.length : Int)), (28, 55, .bool true), (29, 56, .bool true), (30, 57, .bool true), (31, 58, undef), (32, 59, undef), (33, 60, undef)] mixed kr kr dc (by rfl) kr kr (zac ?_ (zac ?_ (zac ?_ (zac ?_ (zac ?_ (zac ?_ (zac ?_ (zac ?_ (zac ?_ (zac ?_ (zac ?_ (zac ?_ (zac ?_ (zac ?_ (zac ?_ (zac ?_ (zac ?_ (zac ?_ (zac ?_ (zac ?_ (zac ?_ (zac ?_ (zac ?_ (zac ?_ (zac ?_ (zac ?_ (zac ?_ (zac ?_ (zac ?_ (zac ?_ (zac ?_ (zac ?_ (zac ?_ (zac ?_ DrawPre.nil)))))))))))))))))))))))))))))))))) ?_
     ·
      intro D hn hd hcl hu hi
      refine zaN (k := 1) zeF rfl dc (zaE (by rfl) rfl) rfl rfl ?_
      exact zaf 0 hu hi rfl
     ·
      intro D hn hd hcl hu hi
      refine zaz rfl dc (zab (m := 0) hu rfl (hd 0 dc)) rfl (zbf Tryd.underlying23) ?_
      exact zaf 1 hu hi rfl
     ·
      intro D hn hd hcl hu hi
      refine zah rfl dc (zab (m := 1) hu rfl (hd 1 dc)) ?_
      exact zaf 2 hu hi rfl
     ·
      intro D hn hd hcl hu hi
      refine zaN (k := 1) zeF (zbD rfl (zab (m := 2) hu rfl (hd 2 dc))) dc (zaE (by rfl) rfl) rfl rfl ?_
      exact zaf 3 hu hi rfl
     ·
      intro D hn hd hcl hu hi
      refine za4 (v := .string r1) (vs := [zP bp1]) hrd (zbD rfl (zab (m := 2) hu rfl (hd 2 dc))) dc rfl (evL.cons (zab (m := 3) hu rfl (hd 3 dc)) evL.nil) rfl zmK (zda (bp1 := bp1) (p1 := p1) (p1_h0 := p1_h0) (p1_h1 := p1_h1) hq1) (.ro 0 rfl (.ro 1 rfl (.ro 2 rfl .nil))) ?_
      exact zaf 4 hu hi rfl
     ·
      intro D hn hd hcl hu hi
      refine zah (zbD rfl (zab (m := 2) hu rfl (hd 2 dc))) dc (zaE (by rfl) rfl) ?_
      exact zaf 5 hu hi rfl
     ·
      intro D hn hd hcl hu hi
      refine zaz (zbD rfl (zab (m := 2) hu rfl (hd 2 dc))) dc (zab (m := 4) hu rfl (hd 4 dc)) (zab (m := 5) hu rfl (hd 5 dc)) zcY (zbP (show Value.bool (!decide (r1 = source1)) = Value.bool false from congrArg Value.bool hb1) ?_)
      exact zaf 6 hu hi rfl
     ·
      intro D hn hd hcl hu hi
      refine zaB (b := false) rfl dc (zab (m := 2) hu rfl (hd 2 dc)) (zab (m := 6) hu rfl (hd 6 dc)) ?_
      exact zaf 7 hu hi rfl
     ·
      intro D hn hd hcl hu hi
      refine zah rfl dc (zab (m := 7) hu rfl (hd 7 dc)) ?_
      exact zaf 8 hu hi rfl
     ·
      intro D hn hd hcl hu hi
      refine zaN (k := 1) zeF (zbD rfl (zab (m := 8) hu rfl (hd 8 dc))) dc (zaE (by rfl) rfl) rfl rfl ?_
      exact zaf 9 hu hi rfl
     ·
      intro D hn hd hcl hu hi
      refine za4 (v := .string r2) (vs := [zP bp1]) hrd (zbD rfl (zab (m := 8) hu rfl (hd 8 dc))) dc rfl (evL.cons (zab (m := 9) hu rfl (hd 9 dc)) evL.nil) rfl zmJ (zds (bp1 := bp1) (p1 := p1) (p1_h0 := p1_h0) (p1_h1 := p1_h1) hq2) (.ro 0 rfl (.ro 1 rfl (.ro 2 rfl .nil))) ?_
      exact zaf 10 hu hi rfl
     ·
      intro D hn hd hcl hu hi
      refine zar zeL (zbD rfl (zab (m := 8) hu rfl (hd 8 dc))) dc (zaE (by rfl) rfl) (show _ = 0 from rfl) ?_
      exact zaf 11 hu hi rfl
     ·
      intro D hn hd hcl hu hi
      refine zaN (k := 2) zgm (zbD rfl (zab (m := 8) hu rfl (hd 8 dc))) dc (zab (m := 11) hu rfl (hd 11 dc)) rfl rfl ?_
      exact zaf 12 hu hi rfl
     ·
      intro D hn hd hcl hu hi
      refine zaz (zbD rfl (zab (m := 8) hu rfl (hd 8 dc))) dc (zab (m := 10) hu rfl (hd 10 dc)) (zab (m := 12) hu rfl (hd 12 dc)) zcY (zbP (show Value.bool (!decide (r2 = wv1.Title)) = Value.bool false from congrArg Value.bool hb2) ?_)
      exact zaf 13 hu hi rfl
     ·
      intro D hn hd hcl hu hi
      refine zaB (b := false) rfl dc (zab (m := 8) hu rfl (hd 8 dc)) (zab (m := 13) hu rfl (hd 13 dc)) ?_
      exact zaf 14 hu hi rfl
     ·
      intro D hn hd hcl hu hi
      refine zah rfl dc (zab (m := 14) hu rfl (hd 14 dc)) ?_
      exact zaf 15 hu hi rfl
     ·
      intro D hn hd hcl hu hi
      refine zaN (k := 1) zeF (zbD rfl (zab (m := 15) hu rfl (hd 15 dc))) dc (zaE (by rfl) rfl) rfl rfl ?_
      exact zaf 16 hu hi rfl
     ·
      intro D hn hd hcl hu hi
      refine za4 (v := zI r3) (vs := [zP bp1]) hrd (zbD rfl (zab (m := 15) hu rfl (hd 15 dc))) dc rfl (evL.cons (zab (m := 16) hu rfl (hd 16 dc)) evL.nil) rfl znu (zd4 (bp1 := bp1) (p1 := p1) (p1_h0 := p1_h0) (p1_h1 := p1_h1) hq3) (.ro 0 rfl (.ro 1 rfl (.ro 2 rfl .nil))) ?_
      exact zaf 17 hu hi rfl
     ·
      intro D hn hd hcl hu hi
      refine zaN (k := 3) zew (zbD rfl (zab (m := 15) hu rfl (hd 15 dc))) dc (zaE (by rfl) rfl) rfl rfl ?_
      exact zaf 18 hu hi rfl
     ·
      intro D hn hd hcl hu hi
      refine zbG hwl1 (zbD rfl (zab (m := 15) hu rfl (hd 15 dc))) dc (zab (m := 18) hu rfl (hd 18 dc)) Tryd.underlying57 ?_
      exact zaf 19 hu hi rfl
     ·
      intro D hn hd hcl hu hi
      refine zaz (zbD rfl (zab (m := 15) hu rfl (hd 15 dc))) dc (zab (m := 17) hu rfl (hd 17 dc)) (zab (m := 19) hu rfl (hd 19 dc)) zbE (zbP (show Value.bool ((r3 : Int) != (l1.length : Int)) = Value.bool false from congrArg Value.bool hb3) ?_)
      exact zaf 20 hu hi rfl
     ·
      intro D hn hd hcl hu hi
      refine zaB (b := false) rfl dc (zab (m := 15) hu rfl (hd 15 dc)) (zab (m := 20) hu rfl (hd 20 dc)) ?_
      exact zaf 21 hu hi rfl
     ·
      intro D hn hd hcl hu hi
      refine zah rfl dc (zab (m := 21) hu rfl (hd 21 dc)) ?_
      exact zaf 22 hu hi rfl
     ·
      intro D hn hd hcl hu hi
      refine zaN (k := 1) zeF (zbD rfl (zab (m := 22) hu rfl (hd 22 dc))) dc (zaE (by rfl) rfl) rfl rfl ?_
      exact zaf 23 hu hi rfl
     ·
      intro D hn hd hcl hu hi
      refine za4 (v := zI r4) (vs := [zP bp1]) hrd (zbD rfl (zab (m := 22) hu rfl (hd 22 dc))) dc rfl (evL.cons (zab (m := 23) hu rfl (hd 23 dc)) evL.nil) rfl zom (zek (bp1 := bp1) (p1 := p1) (p1_h0 := p1_h0) (p1_h1 := p1_h1) hq4) (.ro 0 rfl (.ro 1 rfl (.ro 2 rfl .nil))) ?_
      exact zaf 24 hu hi rfl
     ·
      intro D hn hd hcl hu hi
      refine zar zbC (zbD rfl (zab (m := 22) hu rfl (hd 22 dc))) dc (zaE (by rfl) rfl) (show _ = 1 from rfl) ?_
      exact zaf 25 hu hi rfl
     ·
      intro D hn hd hcl hu hi
      refine zaN (k := 2) zc7 (zbD rfl (zab (m := 22) hu rfl (hd 22 dc))) dc (zab (m := 25) hu rfl (hd 25 dc)) rfl rfl ?_
      exact zaf 26 hu hi rfl
     ·
      intro D hn hd hcl hu hi
      refine zcS hzwv10 hwwv10 (zbD rfl (zab (m := 22) hu rfl (hd 22 dc))) dc (zab (m := 26) hu rfl (hd 26 dc)) Tryd.underlying54 ?_
      exact zaf 27 hu hi rfl
     ·
      intro D hn hd hcl hu hi
      refine zaz (zbD rfl (zab (m := 22) hu rfl (hd 22 dc))) dc (zab (m := 24) hu rfl (hd 24 dc)) (zab (m := 27) hu rfl (hd 27 dc)) zbE (zbP (show Value.bool ((r4 : Int) != (wv1.Stanzas.length : Int)) = Value.bool true from congrArg Value.bool hb4) ?_)
      exact zaf 28 hu hi rfl
     ·
      intro D hn hd hcl hu hi
      refine zaB (b := false) rfl dc (zab (m := 22) hu rfl (hd 22 dc)) (zab (m := 28) hu rfl (hd 28 dc)) ?_
      exact zaf 29 hu hi rfl
     ·
      intro D hn hd hcl hu hi
      refine zah rfl dc (zab (m := 29) hu rfl (hd 29 dc)) ?_
      exact zaf 30 hu hi rfl
     ·
      intro D hn hd hcl hu hi
      refine zan (zb3 rfl (zab (m := 30) hu rfl (hd 30 dc))) dc ?_
      exact zaf 31 hu hi rfl
     ·
      intro D hn hd hcl hu hi
      refine zan (zb3 rfl (zab (m := 30) hu rfl (hd 30 dc))) dc ?_
      exact zaf 32 hu hi rfl
     ·
      intro D hn hd hcl hu hi
      refine zan (zb3 rfl (zab (m := 30) hu rfl (hd 30 dc))) dc ?_
      exact zaf 33 hu hi rfl
     refine zan rfl dc (zan rfl dc (zaB (b := true) rfl dc rfl rfl (zap (zaj (zbu rfl (zas (zai ?_)))))))
     refine zbo (k := 4) (l' := [.bool false]) zjO rfl rfl rfl rfl rfl (fun _ _ => rfl) rfl ?_
     refine zap (zaj (zaX (zay ?_)))
     cases h
     exact zep (rs := [.cell 8 4]) ([] : List Nat) () (.inl rfl) (zb8 (k := 0) rfl) Tryd.results31 (.cons (.cell zlb (k := 4) rfl rfl) .nil) rfl Splits.nil
    ·
     have h := za1 hb4 h
     obtain ⟨r5, hq5, h⟩ := zbN h
     obtain ⟨r6, hq6, h⟩ := zbN h
     refine zbR 34 [(0, 27, zP bp1), (1, 28, .bool false), (2, 29, .bool false), (3, 30, zP bp1), (4, 31, .string r1), (5, 32, .string source1), (6, 33, .bool false), (7, 34, .bool false), (8, 35, .bool false), (9, 36, zP bp1), (10, 37, .string r2), (11, 38, zP b2), (12, 39, .string wv1.Title), (13, 40, .bool false), (14, 41, .bool false), (15, 42, .bool false), (16, 43, zP bp1), (17, 44, zI r3), (18, 45, vl1), (19, 46, zI (l1.length : Int)), (20, 47, .bool false), (21, 48, .bool false), (22, 49, .bool false), (23, 50, zP bp1), (24, 51, zI r4), (25, 52, .pointer (some ⟨b2, 1, none⟩)), (26, 53, wv1_h0.v), (27, 54, zI (wv1.Stanzas.length : Int)), (28, 55, .bool false), (29, 56, .bool false), (30, 57, .bool false), (31, 58, zP bp1), (32, 59, .string r5), (33, 60, .agg #[.string wv1.Title, wv1_h0.v])] mixed kr kr dc (by rfl) kr kr (zac ?_ (zac ?_ (zac ?_ (zac ?_ (zac ?_ (zac ?_ (zac ?_ (zac ?_ (zac ?_ (zac ?_ (zac ?_ (zac ?_ (zac ?_ (zac ?_ (zac ?_ (zac ?_ (zac ?_ (zac ?_ (zac ?_ (zac ?_ (zac ?_ (zac ?_ (zac ?_ (zac ?_ (zac ?_ (zac ?_ (zac ?_ (zac ?_ (zac ?_ (zac ?_ (zac ?_ (zac ?_ (zac ?_ (zac ?_ DrawPre.nil)))))))))))))))))))))))))))))))))) ?_
     ·
      intro D hn hd hcl hu hi
      refine zaN (k := 1) zeF rfl dc (zaE (by rfl) rfl) rfl rfl ?_
      exact zaf 0 hu hi rfl
     ·
      intro D hn hd hcl hu hi
      refine zaz rfl dc (zab (m := 0) hu rfl (hd 0 dc)) rfl (zbf Tryd.underlying23) ?_
      exact zaf 1 hu hi rfl
     ·
      intro D hn hd hcl hu hi
      refine zah rfl dc (zab (m := 1) hu rfl (hd 1 dc)) ?_
      exact zaf 2 hu hi rfl
     ·
      intro D hn hd hcl hu hi
      refine zaN (k := 1) zeF (zbD rfl (zab (m := 2) hu rfl (hd 2 dc))) dc (zaE (by rfl) rfl) rfl rfl ?_
      exact zaf 3 hu hi rfl
     ·
      intro D hn hd hcl hu hi
      refine za4 (v := .string r1) (vs := [zP bp1]) hrd (zbD rfl (zab (m := 2) hu rfl (hd 2 dc))) dc rfl (evL.cons (zab (m := 3) hu rfl (hd 3 dc)) evL.nil) rfl zmK (zda (bp1 := bp1) (p1 := p1) (p1_h0 := p1_h0) (p1_h1 := p1_h1) hq1) (.ro 0 rfl (.ro 1 rfl (.ro 2 rfl .nil))) ?_
      exact zaf 4 hu hi rfl
     ·
      intro D hn hd hcl hu hi
      refine zah (zbD rfl (zab (m := 2) hu rfl (hd 2 dc))) dc (zaE (by rfl) rfl) ?_
      exact zaf 5 hu hi rfl
     ·
      intro D hn hd hcl hu hi
      refine zaz (zbD rfl (zab (m := 2) hu rfl (hd 2 dc))) dc (zab (m := 4) hu rfl (hd 4 dc)) (zab (m := 5) hu rfl (hd 5 dc)) zcY (zbP (show Value.bool (!decide (r1 = source1)) = Value.bool false from congrArg Value.bool hb1) ?_)
      exact zaf 6 hu hi rfl
     ·
      intro D hn hd hcl hu hi
      refine zaB (b := false) rfl dc (zab (m := 2) hu rfl (hd 2 dc)) (zab (m := 6) hu rfl (hd 6 dc)) ?_
      exact zaf 7 hu hi rfl
     ·
      intro D hn hd hcl hu hi
      refine zah rfl dc (zab (m := 7) hu rfl (hd 7 dc)) ?_
      exact zaf 8 hu hi rfl
     ·
      intro D hn hd hcl hu hi
      refine zaN (k := 1) zeF (zbD rfl (zab (m := 8) hu rfl (hd 8 dc))) dc (zaE (by rfl) rfl) rfl rfl ?_
      exact zaf 9 hu hi rfl
     ·
      intro D hn hd hcl hu hi
      refine za4 (v := .string r2) (vs := [zP bp1]) hrd (zbD rfl (zab (m := 8) hu rfl (hd 8 dc))) dc rfl (evL.cons (zab (m := 9) hu rfl (hd 9 dc)) evL.nil) rfl zmJ (zds (bp1 := bp1) (p1 := p1) (p1_h0 := p1_h0) (p1_h1 := p1_h1) hq2) (.ro 0 rfl (.ro 1 rfl (.ro 2 rfl .nil))) ?_
      exact zaf 10 hu hi rfl
     ·
      intro D hn hd hcl hu hi
      refine zar zeL (zbD rfl (zab (m := 8) hu rfl (hd 8 dc))) dc (zaE (by rfl) rfl) (show _ = 0 from rfl) ?_
      exact zaf 11 hu hi rfl
     ·
      intro D hn hd hcl hu hi
      refine zaN (k := 2) zgm (zbD rfl (zab (m := 8) hu rfl (hd 8 dc))) dc (zab (m := 11) hu rfl (hd 11 dc)) rfl rfl ?_
      exact zaf 12 hu hi rfl
     ·
      intro D hn hd hcl hu hi
      refine zaz (zbD rfl (zab (m := 8) hu rfl (hd 8 dc))) dc (zab (m := 10) hu rfl (hd 10 dc)) (zab (m := 12) hu rfl (hd 12 dc)) zcY (zbP (show Value.bool (!decide (r2 = wv1.Title)) = Value.bool false from congrArg Value.bool hb2) ?_)
      exact zaf 13 hu hi rfl
     ·
      intro D hn hd hcl hu hi
      refine zaB (b := false) rfl dc (zab (m := 8) hu rfl (hd 8 dc)) (zab (m := 13) hu rfl (hd 13 dc)) ?_
      exact zaf 14 hu hi rfl
     ·
      intro D hn hd hcl hu hi
      refine zah rfl dc (zab (m := 14) hu rfl (hd 14 dc)) ?_
      exact zaf 15 hu hi rfl
     ·
      intro D hn hd hcl hu hi
      refine zaN (k := 1) zeF (zbD rfl (zab (m := 15) hu rfl (hd 15 dc))) dc (zaE (by rfl) rfl) rfl rfl ?_
      exact zaf 16 hu hi rfl
     ·
      intro D hn hd hcl hu hi
      refine za4 (v := zI r3) (vs := [zP bp1]) hrd (zbD rfl (zab (m := 15) hu rfl (hd 15 dc))) dc rfl (evL.cons (zab (m := 16) hu rfl (hd 16 dc)) evL.nil) rfl znu (zd4 (bp1 := bp1) (p1 := p1) (p1_h0 := p1_h0) (p1_h1 := p1_h1) hq3) (.ro 0 rfl (.ro 1 rfl (.ro 2 rfl .nil))) ?_
      exact zaf 17 hu hi rfl
     ·
      intro D hn hd hcl hu hi
      refine zaN (k := 3) zew (zbD rfl (zab (m := 15) hu rfl (hd 15 dc))) dc (zaE (by rfl) rfl) rfl rfl ?_
      exact zaf 18 hu hi rfl
     ·
      intro D hn hd hcl hu hi
      refine zbG hwl1 (zbD rfl (zab (m := 15) hu rfl (hd 15 dc))) dc (zab (m := 18) hu rfl (hd 18 dc)) Tryd.underlying57 ?_
      exact zaf 19 hu hi rfl
     ·
      intro D hn hd hcl hu hi
      refine zaz (zbD rfl (zab (m := 15) hu rfl (hd 15 dc))) dc (zab (m := 17) hu rfl (hd 17 dc)) (zab (m := 19) hu rfl (hd 19 dc)) zbE (zbP (show Value.bool ((r3 : Int) != (l1.length : Int)) = Value.bool false from congrArg Value.bool hb3) ?_)
      exact zaf 20 hu hi rfl
     ·
      intro D hn hd hcl hu hi
      refine zaB (b := false) rfl dc (zab (m := 15) hu rfl (hd 15 dc)) (zab (m := 20) hu rfl (hd 20 dc)) ?_
      exact zaf 21 hu hi rfl
     ·
      intro D hn hd hcl hu hi
      refine zah rfl dc (zab (m := 21) hu rfl (hd 21 dc)) ?_
      exact zaf 22 hu hi rfl
     ·
      intro D hn hd hcl hu hi
      refine zaN (k := 1) zeF (zbD rfl (zab (m := 22) hu rfl (hd 22 dc))) dc (zaE (by rfl) rfl) rfl rfl ?_
      exact zaf 23 hu hi rfl
     ·
      intro D hn hd hcl hu hi
      refine za4 (v := zI r4) (vs := [zP bp1]) hrd (zbD rfl (zab (m := 22) hu rfl (hd 22 dc))) dc rfl (evL.cons (zab (m := 23) hu rfl (hd 23 dc)) evL.nil) rfl zom (zek (bp1 := bp1) (p1 := p1) (p1_h0 := p1_h0) (p1_h1 := p1_h1) hq4) (.ro 0 rfl (.ro 1 rfl (.ro 2 rfl .nil))) ?_
      exact zaf 24 hu hi rfl
     ·
      intro D hn hd hcl hu hi
      refine zar zbC (zbD rfl (zab (m := 22) hu rfl (hd 22 dc))) dc (zaE (by rfl) rfl) (show _ = 1 from rfl) ?_
      exact zaf 25 hu hi rfl
     ·
      intro D hn hd hcl hu hi
      refine zaN (k := 2) zc7 (zbD rfl (zab (m := 22) hu rfl (hd 22 dc))) dc (zab (m := 25) hu rfl (hd 25 dc)) rfl rfl ?_
      exact zaf 26 hu hi rfl
     ·
      intro D hn hd hcl hu hi
      refine zcS hzwv10 hwwv10 (zbD rfl (zab (m := 22) hu rfl (hd 22 dc))) dc (zab (m := 26) hu rfl (hd 26 dc)) Tryd.underlying54 ?_
      exact zaf 27 hu hi rfl
     ·
      intro D hn hd hcl hu hi
      refine zaz (zbD rfl (zab (m := 22) hu rfl (hd 22 dc))) dc (zab (m := 24) hu rfl (hd 24 dc)) (zab (m := 27) hu rfl (hd 27 dc)) zbE (zbP (show Value.bool ((r4 : Int) != (wv1.Stanzas.length : Int)) = Value.bool false from congrArg Value.bool hb4) ?_)
      exact zaf 28 hu hi rfl
     ·
      intro D hn hd hcl hu hi
      refine zaB (b := false) rfl dc (zab (m := 22) hu rfl (hd 22 dc)) (zab (m := 28) hu rfl (hd 28 dc)) ?_
      exact zaf 29 hu hi rfl
     ·
      intro D hn hd hcl hu hi
      refine zah rfl dc (zab (m := 29) hu rfl (hd 29 dc)) ?_
      exact zaf 30 hu hi rfl
     ·
      intro D hn hd hcl hu hi
      refine zaN (k := 1) zeF (zbD rfl (zab (m := 30) hu rfl (hd 30 dc))) dc (zaE (by rfl) rfl) rfl rfl ?_
      exact zaf 31 hu hi rfl
     ·
      intro D hn hd hcl hu hi
      refine za4 (v := .string r5) (vs := [zP bp1]) hrd (zbD rfl (zab (m := 30) hu rfl (hd 30 dc))) dc rfl (evL.cons (zab (m := 31) hu rfl (hd 31 dc)) evL.nil) rfl zo7 (zfw (bp1 := bp1) (p1 := p1) (p1_h0 := p1_h0) (p1_h1 := p1_h1) hq5) (.ro 0 rfl (.ro 1 rfl (.ro 2 rfl .nil))) ?_
      exact zaf 32 hu hi rfl
     ·
      intro D hn hd hcl hu hi
      refine zbc (k := 2) (cs := [.string wv1.Title, wv1_h0.v]) zcw (zbD rfl (zab (m := 30) hu rfl (hd 30 dc))) dc (zaE (by rfl) rfl) rfl rfl rfl ?_
      exact zaf 33 hu hi rfl
     refine za4 (v := .string r6) (vs := [.agg #[.string wv1.Title, wv1_h0.v]]) hrd rfl dc rfl rfl rfl zlS (zd1 (p1_h0 := wv1_h0) (p1 := wv1) hwwv10 hzwv10 hq6) (.ro 3 rfl (.ro 4 rfl .nil)) (zaz rfl dc rfl rfl zcY (zaB (b := false) rfl dc rfl rfl (zap (zaj ?_))))
     refine zaM rfl (fun hb5 => ?_) (fun hb5 => ?_)
     ·
      have h := za0 hb5 h
      refine zas (zai ?_)
      refine zbo (k := 4) (l' := [.bool false]) zjO rfl rfl rfl rfl rfl (fun _ _ => rfl) rfl ?_
      refine zap (zaj (zaX (zay ?_)))
      cases h
      exact zep (rs := [.cell 8 4]) ([] : List Nat) () (.inl rfl) (zb8 (k := 0) rfl) Tryd.results31 (.cons (.cell zlb (k := 4) rfl rfl) .nil) rfl Splits.nil
     ·
      have h := za1 hb5 h
      refine zaP (zaj ?_)
      obtain ⟨j1, hj1, h⟩ := zcp h
      refine zbm (β := Int × Nat × (List Nat)) 1 rfl (fun b => j1 b.1 = some r) (fun b => zdA b.2.2) (fun b => [(4, zP b1), (6, zP b2), (7, zP b3), (8, zP b4), (9, zP b.2.1)]) (fun b => [cells b1 [zP bp1] 23, cells b2 [.string wv1.Title, wv1_h0.v] 56, cells b3 [vl1] 57, cells b4 [.bool false] 4, cells b.2.1 [zI b.1] 3, zev ((b.2.2 : List Nat).map zeO)]) (fun cut => ?_) ?_
      ·
       refine zas (zai ?_)
       refine zbl zqb rfl dc (fun b6 => ?_)
       refine zbo (k := 5) (l' := [zI 0]) zjh rfl rfl rfl rfl rfl (fun _ _ => rfl) rfl ?_
       show TO _ _ _ _ _ _ _ _ _ _ [zev ((([] : List Nat) : List Nat).map zeO), cells b1 [zP bp1] 23, cells b2 [.string wv1.Title, wv1_h0.v] 56, cells b3 [vl1] 57, cells b4 [.bool false] 4, cells b6 [zI 0] 3]
       refine zap (zaj (cut (zas (zai (zaN (k := 1) zeF rfl dc rfl rfl rfl ?_)))))
       obtain ⟨r7, hq7, h⟩ := zbN h
       refine zdw (vs := [zP bp1]) hrd rfl dc rfl rfl rfl zo8 (zfH (bp1 := bp1) (p1 := p1) (p1_h0 := p1_h0) (p1_h1 := p1_h1) hq7) Splits.nil (.ro 0 rfl (.ro 1 rfl (.ro 2 rfl .nil))) ?_
       rintro b7
       show TO _ _ _ _ _ _ _ _ _ _ [zev ((([] : List Nat) : List Nat).map zeO), cells b1 [zP bp1] 23, cells b2 [.string wv1.Title, wv1_h0.v] 56, cells b3 [vl1] 57, cells b4 [.bool false] 4, cells b6 [zI 0] 3, cells b7 [zP bp1] 23]
       refine zbw (L' := [zev ((([] : List Nat) : List Nat).map zeO), cells b1 [zP bp1] 23, cells b2 [.string wv1.Title, wv1_h0.v] 56, cells b3 [vl1] 57, cells b4 [.bool false] 4, cells b6 [zI 0] 3, cells b7 [zP bp1] 23]) (zal [0, 1, 2, 3, 4, 5, 6] kr rfl) (zap (zaj (za2 ?_)))
       obtain ⟨its1, hq8, h⟩ := zbN h
       obtain ⟨ek1, hek1, h⟩ := zcp h
       obtain ⟨dn1, hdn1, h⟩ := zcp h
       refine zkw (α := Int × Gapi_Verse) (β := Int) (γ := Int) (δ := Nat) (ps := [66, 67]) hrd Ro.nil rfl zo1 (ze4 hq8) (fun pre b => ∀ post, its1 = pre ++ post → zfj dn1 (zea p1 l1 ek1) post b = some r) (fun pre b => [cells b1 [zP bp1] 23, cells b2 [.string wv1.Title, wv1_h0.v] 56, cells b3 [vl1] 57, cells b4 [.bool false] 4, cells b6 [zI b] 3]) (fun c pre g => (fun g => c = .ret ∧ ek1 g = some r) g) (fun c pre g => (fun g => [cells b1 [zP bp1] 23, cells b2 [.string wv1.Title, wv1_h0.v] 56, cells b3 [vl1] 57, cells b4 [.bool false] 4, cells b6 [zI g] 3]) g) (fun pre x b j => [(4, zP b1), (6, zP b2), (7, zP b3), (8, zP b4), (9, zP b6), (65, .func (.func 52) #[] #[zP b7]), (10, zI x.1), (11, zP j)]) (fun pre x b j => [cells b1 [zP bp1] 23, cells b2 [.string wv1.Title, wv1_h0.v] 56, cells b3 [vl1] 57, cells b4 [.bool false] 4, cells b6 [zI b] 3, cells j [.string x.2.Text, zI x.2.Indent, zI x.2.Stanza, zI x.2.In, zI x.2.Span_From, zI x.2.Span_To] 36]) 0 (fun post e => by rw [List.nil_append] at e; subst e; exact h) (zal [1, 2, 3, 4, 5] kr rfl) (.own (As := [cells b7 [zP bp1] 23]) (zal [6] (by kernel_rfl) rfl) (fun _ _ h => sepL.one1.1 h) (.ro 0 rfl (.ro 1 rfl (.ro 2 rfl .nil)))) (fun _ => rfl) dc ?_ ?_ ?_ ?_
       ·
        rintro lp rc pre x1 post i4 w1 K1 hxs1 hext hro hinv
        have hrd := hrd.ext hext
        refine zas (zai (zak rfl dc rfl (zap (zaj (zai ?_)))))
        refine zbl ziF rfl dc (fun b8 => ?_)
        refine zaZ (k := 5) (vs := [.string x1.2.Text, zI x1.2.Indent, zI x1.2.Stanza, zI x1.2.In, zI x1.2.Span_From, zI x1.2.Span_To]) (l' := [.string x1.2.Text, zI x1.2.Indent, zI x1.2.Stanza, zI x1.2.In, zI x1.2.Span_From, zI x1.2.Span_To]) zf3 rfl rfl rfl rfl rfl (show _ ≤ _ by simp) rfl rfl ?_
        show TO _ _ _ _ _ _ _ _ _ _ [cells b1 [zP bp1] 23, cells b2 [.string wv1.Title, wv1_h0.v] 56, cells b3 [vl1] 57, cells b4 [.bool false] 4, cells b6 [zI i4] 3, cells b8 [.string x1.2.Text, zI x1.2.Indent, zI x1.2.Stanza, zI x1.2.In, zI x1.2.Span_From, zI x1.2.Span_To] 36]
        refine zap ?_
        exact fun a w ha hw => ⟨b8, (zad rfl (zad rfl (zad rfl (zad rfl (zad rfl (zad rfl (zad rfl (zad rfl (zaH))))))))) _ _ _ ha, hw.weaken (zal [0, 1, 2, 3, 4, 5] kr rfl)⟩
       ·
        rintro lp rc pre x1 post1 i4 jb1 w1 K1 hxs1 hext hro hinv
        have hrd := hrd.ext hext
        have h := hinv (x1 :: post1) hxs1
        obtain ⟨ag1, hag1⟩ : ∃ ag, ag = zfj dn1 (zea p1 l1 ek1) post1 := ⟨_, rfl⟩
        have h : zea p1 l1 ek1 x1 ag1 i4 = some r := by rw [hag1]; exact h
        unfold zea at h
        show TC _ _ _ _ _ _ _ _ [(4, zP b1), (6, zP b2), (7, zP b3), (8, zP b4), (9, zP b6), (65, .func (.func 52) #[] #[zP b7]), (10, zI x1.1), (11, zP jb1)] [cells b1 [zP bp1] 23, cells b2 [.string wv1.Title, wv1_h0.v] 56, cells b3 [vl1] 57, cells b4 [.bool false] 4, cells b6 [zI i4] 3, cells jb1 [.string x1.2.Text, zI x1.2.Indent, zI x1.2.Stanza, zI x1.2.In, zI x1.2.Span_From, zI x1.2.Span_To] 36]
        refine za2 (zas (zas ?_))
        refine zdk (b := decide (((l1.length : Int) : Int) ≤ i4)) (fun hb6 => ?_) (fun hb6 => ?_)
        ·
         have h := za0 hb6 h
         refine zbR 15 [(0, 68, zI i4), (1, 69, vl1), (2, 70, zI (l1.length : Int)), (3, 71, .bool true), (4, 72, .bool true), (5, 73, undef), (6, 74, undef), (7, 75, undef), (8, 76, .bool true), (9, 77, .bool true), (10, 78, undef), (11, 79, undef), (12, 80, undef), (13, 81, undef), (14, 82, undef)] mixed kr kr dc (by rfl) kr kr (zac ?_ (zac ?_ (zac ?_ (zac ?_ (zac ?_ (zac ?_ (zac ?_ (zac ?_ (zac ?_ (zac ?_ (zac ?_ (zac ?_ (zac ?_ (zac ?_ (zac ?_ DrawPre.nil))))))))))))))) ?_
         ·
          intro D hn hd hcl hu hi
          refine zaN (k := 4) zfb rfl dc (zaE (by rfl) rfl) rfl rfl ?_
          exact zaf 0 hu hi rfl
         ·
          intro D hn hd hcl hu hi
          refine zaN (k := 2) zew rfl dc (zaE (by rfl) rfl) rfl rfl ?_
          exact zaf 1 hu hi rfl
         ·
          intro D hn hd hcl hu hi
          refine zbG hwl1 rfl dc (zab (m := 1) hu rfl (hd 1 dc)) Tryd.underlying57 ?_
          exact zaf 2 hu hi rfl
         ·
          intro D hn hd hcl hu hi
          refine zaz rfl dc (zab (m := 0) hu rfl (hd 0 dc)) (zab (m := 2) hu rfl (hd 2 dc)) zeC (zbP (show Value.bool (decide (((l1.length : Int) : Int) ≤ i4)) = Value.bool true from congrArg Value.bool hb6) ?_)
          exact zaf 3 hu hi rfl
         ·
          intro D hn hd hcl hu hi
          refine zah rfl dc (zab (m := 3) hu rfl (hd 3 dc)) ?_
          exact zaf 4 hu hi rfl
         ·
          intro D hn hd hcl hu hi
          refine zan (zb3 rfl (zab (m := 4) hu rfl (hd 4 dc))) dc ?_
          exact zaf 5 hu hi rfl
         ·
          intro D hn hd hcl hu hi
          refine zan (zb3 rfl (zab (m := 4) hu rfl (hd 4 dc))) dc ?_
          exact zaf 6 hu hi rfl
         ·
          intro D hn hd hcl hu hi
          refine zan (zb3 rfl (zab (m := 4) hu rfl (hd 4 dc))) dc ?_
          exact zaf 7 hu hi rfl
         ·
          intro D hn hd hcl hu hi
          refine zaB (b := true) rfl dc (zab (m := 4) hu rfl (hd 4 dc)) rfl ?_
          exact zaf 8 hu hi rfl
         ·
          intro D hn hd hcl hu hi
          refine zah rfl dc (zab (m := 8) hu rfl (hd 8 dc)) ?_
          exact zaf 9 hu hi rfl
         ·
          intro D hn hd hcl hu hi
          refine zan (zb3 rfl (zab (m := 9) hu rfl (hd 9 dc))) dc ?_
          exact zaf 10 hu hi rfl
         ·
          intro D hn hd hcl hu hi
          refine zan (zb3 rfl (zab (m := 9) hu rfl (hd 9 dc))) dc ?_
          exact zaf 11 hu hi rfl
         ·
          intro D hn hd hcl hu hi
          refine zan (zb3 rfl (zab (m := 9) hu rfl (hd 9 dc))) dc ?_
          exact zaf 12 hu hi rfl
         ·
          intro D hn hd hcl hu hi
          refine zan (zb3 rfl (zab (m := 9) hu rfl (hd 9 dc))) dc ?_
          exact zaf 13 hu hi rfl
         ·
          intro D hn hd hcl hu hi
          refine zan (zb3 rfl (zab (m := 9) hu rfl (hd 9 dc))) dc ?_
          exact zaf 14 hu hi rfl
         refine zan rfl dc (zaB (b := true) rfl dc rfl rfl (zap (zaj (zbu rfl (zas (zai ?_))))))
         refine zbo (k := 3) (l' := [.bool false]) zjO rfl rfl rfl rfl rfl (fun _ _ => rfl) rfl ?_
         refine zap (zaj (zaX (zay (zaI ?_))))
         exact zfp i4 (show _ ∧ _ from ⟨rfl, h⟩) (zal [0, 1, 2, 3, 4] kr rfl)
        ·
         have h := za1 hb6 h
         refine zdk (b := (x1.1 : Int) != i4) (fun hb7 => ?_) (fun hb7 => ?_)
         ·
          have h := za0 hb7 h
          refine zbR 15 [(0, 68, zI i4), (1, 69, vl1), (2, 70, zI (l1.length : Int)), (3, 71, .bool false), (4, 72, .bool false), (5, 73, zI x1.1), (6, 74, zI i4), (7, 75, .bool true), (8, 76, .bool true), (9, 77, .bool true), (10, 78, undef), (11, 79, undef), (12, 80, undef), (13, 81, undef), (14, 82, undef)] mixed kr kr dc (by rfl) kr kr (zac ?_ (zac ?_ (zac ?_ (zac ?_ (zac ?_ (zac ?_ (zac ?_ (zac ?_ (zac ?_ (zac ?_ (zac ?_ (zac ?_ (zac ?_ (zac ?_ (zac ?_ DrawPre.nil))))))))))))))) ?_
          ·
           intro D hn hd hcl hu hi
           refine zaN (k := 4) zfb rfl dc (zaE (by rfl) rfl) rfl rfl ?_
           exact zaf 0 hu hi rfl
          ·
           intro D hn hd hcl hu hi
           refine zaN (k := 2) zew rfl dc (zaE (by rfl) rfl) rfl rfl ?_
           exact zaf 1 hu hi rfl
          ·
           intro D hn hd hcl hu hi
           refine zbG hwl1 rfl dc (zab (m := 1) hu rfl (hd 1 dc)) Tryd.underlying57 ?_
           exact zaf 2 hu hi rfl
          ·
           intro D hn hd hcl hu hi
           refine zaz rfl dc (zab (m := 0) hu rfl (hd 0 dc)) (zab (m := 2) hu rfl (hd 2 dc)) zeC (zbP (show Value.bool (decide (((l1.length : Int) : Int) ≤ i4)) = Value.bool false from congrArg Value.bool hb6) ?_)
           exact zaf 3 hu hi rfl
          ·
           intro D hn hd hcl hu hi
           refine zah rfl dc (zab (m := 3) hu rfl (hd 3 dc)) ?_
           exact zaf 4 hu hi rfl
          ·
           intro D hn hd hcl hu hi
           refine zah (zbD rfl (zab (m := 4) hu rfl (hd 4 dc))) dc (zaE (by rfl) rfl) ?_
           exact zaf 5 hu hi rfl
          ·
           intro D hn hd hcl hu hi
           refine zaN (k := 4) zfb (zbD rfl (zab (m := 4) hu rfl (hd 4 dc))) dc (zaE (by rfl) rfl) rfl rfl ?_
           exact zaf 6 hu hi rfl
          ·
           intro D hn hd hcl hu hi
           refine zaz (zbD rfl (zab (m := 4) hu rfl (hd 4 dc))) dc (zab (m := 5) hu rfl (hd 5 dc)) (zab (m := 6) hu rfl (hd 6 dc)) zbE (zbP (show Value.bool ((x1.1 : Int) != i4) = Value.bool true from congrArg Value.bool hb7) ?_)
           exact zaf 7 hu hi rfl
          ·
           intro D hn hd hcl hu hi
           refine zaB (b := false) rfl dc (zab (m := 4) hu rfl (hd 4 dc)) (zab (m := 7) hu rfl (hd 7 dc)) ?_
           exact zaf 8 hu hi rfl
          ·
           intro D hn hd hcl hu hi
           refine zah rfl dc (zab (m := 8) hu rfl (hd 8 dc)) ?_
           exact zaf 9 hu hi rfl
          ·
           intro D hn hd hcl hu hi
           refine zan (zb3 rfl (zab (m := 9) hu rfl (hd 9 dc))) dc ?_
           exact zaf 10 hu hi rfl
          ·
           intro D hn hd hcl hu hi
           refine zan (zb3 rfl (zab (m := 9) hu rfl (hd 9 dc))) dc ?_
           exact zaf 11 hu hi rfl
          ·
           intro D hn hd hcl hu hi
           refine zan (zb3 rfl (zab (m := 9) hu rfl (hd 9 dc))) dc ?_
           exact zaf 12 hu hi rfl
          ·
           intro D hn hd hcl hu hi
           refine zan (zb3 rfl (zab (m := 9) hu rfl (hd 9 dc))) dc ?_
           exact zaf 13 hu hi rfl
          ·
           intro D hn hd hcl hu hi
           refine zan (zb3 rfl (zab (m := 9) hu rfl (hd 9 dc))) dc ?_
           exact zaf 14 hu hi rfl
          refine zan rfl dc (zaB (b := true) rfl dc rfl rfl (zap (zaj (zbu rfl (zas (zai ?_))))))
          refine zbo (k := 3) (l' := [.bool false]) zjO rfl rfl rfl rfl rfl (fun _ _ => rfl) rfl ?_
          refine zap (zaj (zaX (zay (zaI ?_))))
          exact zfp i4 (show _ ∧ _ from ⟨rfl, h⟩) (zal [0, 1, 2, 3, 4] kr rfl)
         ·
          have h := za1 hb7 h
          obtain ⟨q1, hq9, h⟩ := zbN h
          refine zbR 15 [(0, 68, zI i4), (1, 69, vl1), (2, 70, zI (l1.length : Int)), (3, 71, .bool false), (4, 72, .bool false), (5, 73, zI x1.1), (6, 74, zI i4), (7, 75, .bool false), (8, 76, .bool false), (9, 77, .bool false), (10, 78, .agg #[.string x1.2.Text, zI x1.2.Indent, zI x1.2.Stanza, zI x1.2.In, zI x1.2.Span_From, zI x1.2.Span_To]), (11, 79, vl1), (12, 80, zI i4), (13, 81, .pointer (some ⟨zff vvl1, (kl1 + (i4 : Int).toNat) * 6, none⟩)), (14, 82, .agg #[.string q1.Text, zI q1.Indent, zI q1.Stanza, zI q1.In, zI q1.Span_From, zI q1.Span_To])] mixed kr kr dc (by rfl) kr kr (zac ?_ (zac ?_ (zac ?_ (zac ?_ (zac ?_ (zac ?_ (zac ?_ (zac ?_ (zac ?_ (zac ?_ (zac ?_ (zac ?_ (zac ?_ (zac ?_ (zac ?_ DrawPre.nil))))))))))))))) ?_
          ·
           intro D hn hd hcl hu hi
           refine zaN (k := 4) zfb rfl dc (zaE (by rfl) rfl) rfl rfl ?_
           exact zaf 0 hu hi rfl
          ·
           intro D hn hd hcl hu hi
           refine zaN (k := 2) zew rfl dc (zaE (by rfl) rfl) rfl rfl ?_
           exact zaf 1 hu hi rfl
          ·
           intro D hn hd hcl hu hi
           refine zbG hwl1 rfl dc (zab (m := 1) hu rfl (hd 1 dc)) Tryd.underlying57 ?_
           exact zaf 2 hu hi rfl
          ·
           intro D hn hd hcl hu hi
           refine zaz rfl dc (zab (m := 0) hu rfl (hd 0 dc)) (zab (m := 2) hu rfl (hd 2 dc)) zeC (zbP (show Value.bool (decide (((l1.length : Int) : Int) ≤ i4)) = Value.bool false from congrArg Value.bool hb6) ?_)
           exact zaf 3 hu hi rfl
          ·
           intro D hn hd hcl hu hi
           refine zah rfl dc (zab (m := 3) hu rfl (hd 3 dc)) ?_
           exact zaf 4 hu hi rfl
          ·
           intro D hn hd hcl hu hi
           refine zah (zbD rfl (zab (m := 4) hu rfl (hd 4 dc))) dc (zaE (by rfl) rfl) ?_
           exact zaf 5 hu hi rfl
          ·
           intro D hn hd hcl hu hi
           refine zaN (k := 4) zfb (zbD rfl (zab (m := 4) hu rfl (hd 4 dc))) dc (zaE (by rfl) rfl) rfl rfl ?_
           exact zaf 6 hu hi rfl
          ·
           intro D hn hd hcl hu hi
           refine zaz (zbD rfl (zab (m := 4) hu rfl (hd 4 dc))) dc (zab (m := 5) hu rfl (hd 5 dc)) (zab (m := 6) hu rfl (hd 6 dc)) zbE (zbP (show Value.bool ((x1.1 : Int) != i4) = Value.bool false from congrArg Value.bool hb7) ?_)
           exact zaf 7 hu hi rfl
          ·
           intro D hn hd hcl hu hi
           refine zaB (b := false) rfl dc (zab (m := 4) hu rfl (hd 4 dc)) (zab (m := 7) hu rfl (hd 7 dc)) ?_
           exact zaf 8 hu hi rfl
          ·
           intro D hn hd hcl hu hi
           refine zah rfl dc (zab (m := 8) hu rfl (hd 8 dc)) ?_
           exact zaf 9 hu hi rfl
          ·
           intro D hn hd hcl hu hi
           refine zbc (k := 5) (cs := [.string x1.2.Text, zI x1.2.Indent, zI x1.2.Stanza, zI x1.2.In, zI x1.2.Span_From, zI x1.2.Span_To]) zgF (zbD rfl (zab (m := 9) hu rfl (hd 9 dc))) dc (zaE (by rfl) rfl) rfl rfl rfl ?_
           exact zaf 10 hu hi rfl
          ·
           intro D hn hd hcl hu hi
           refine zaN (k := 2) zew (zbD rfl (zab (m := 9) hu rfl (hd 9 dc))) dc (zaE (by rfl) rfl) rfl rfl ?_
           exact zaf 11 hu hi rfl
          ·
           intro D hn hd hcl hu hi
           refine zaN (k := 4) zfb (zbD rfl (zab (m := 9) hu rfl (hd 9 dc))) dc (zaE (by rfl) rfl) rfl rfl ?_
           exact zaf 12 hu hi rfl
          ·
           intro D hn hd hcl hu hi
           refine zbd hwl1 hq9 Tryd.underlying57 zf3 (zbD rfl (zab (m := 9) hu rfl (hd 9 dc))) dc (zab (m := 11) hu rfl (hd 11 dc)) (zab (m := 12) hu rfl (hd 12 dc)) rfl ?_
           exact zaf 13 hu hi rfl
          ·
           intro D hn hd hcl hu hi
           refine zjJ (m := kl1 + (i4 : Int).toNat) (j := 0) (i := 5) (q := q1) (cs := [.string q1.Text, zI q1.Indent, zI q1.Stanza, zI q1.In, zI q1.Span_From, zI q1.Span_To]) hrd rfl (by omega) zgF (zbD rfl (zab (m := 9) hu rfl (hd 9 dc))) dc (zab (m := 13) hu rfl (hd 13 dc)) (Vw.get hwl1 hq9) rfl rfl rfl ?_
           exact zaf 14 hu hi rfl
          refine zaz rfl dc rfl rfl (zhp x1.2 q1) (zaB (b := false) rfl dc rfl rfl (zap (zaj ?_)))
          refine zaM rfl (fun hb8 => ?_) (fun hb8 => ?_)
          ·
           have h := za0 hb8 h
           refine zas (zai ?_)
           refine zbo (k := 3) (l' := [.bool false]) zjO rfl rfl rfl rfl rfl (fun _ _ => rfl) rfl ?_
           refine zap (zaj (zaX (zay (zaI ?_))))
           exact zfp i4 (show _ ∧ _ from ⟨rfl, h⟩) (zal [0, 1, 2, 3, 4] kr rfl)
          ·
           have h := za1 hb8 h
           refine zaP (zaj (zas (zai (zaN (k := 0) zeF rfl dc rfl rfl rfl (zaN (k := 4) zfb rfl dc rfl rfl rfl ?_)))))
           obtain ⟨r8, hq10, h⟩ := zbN h
           refine za4 (v := .tuple #[.agg #[.string r8.1.Text, zI r8.1.Indent, zI r8.1.Stanza, zI r8.1.In, zI r8.1.Span_From, zI r8.1.Span_To], zI r8.2]) (vs := [zP bp1, zI i4]) hrd rfl dc rfl rfl rfl zo6 (zfG (bp1 := bp1) (p1 := p1) (p1_h0 := p1_h0) (p1_h1 := p1_h1) hq10) (.ro 0 rfl (.ro 1 rfl (.ro 2 rfl .nil))) (zah rfl dc rfl (zaS rfl dc rfl rfl (zaS rfl dc rfl rfl ?_)))
           refine zbl ziF rfl dc (fun b9 => ?_)
           refine zaZ (k := 6) (vs := [.string r8.1.Text, zI r8.1.Indent, zI r8.1.Stanza, zI r8.1.In, zI r8.1.Span_From, zI r8.1.Span_To]) (l' := [.string r8.1.Text, zI r8.1.Indent, zI r8.1.Stanza, zI r8.1.In, zI r8.1.Span_From, zI r8.1.Span_To]) zf3 rfl rfl rfl rfl rfl (show _ ≤ _ by simp) rfl rfl ?_
           show TO _ _ _ _ _ _ _ _ _ _ [cells b1 [zP bp1] 23, cells b2 [.string wv1.Title, wv1_h0.v] 56, cells b3 [vl1] 57, cells b4 [.bool false] 4, cells b6 [zI i4] 3, cells jb1 [.string x1.2.Text, zI x1.2.Indent, zI x1.2.Stanza, zI x1.2.In, zI x1.2.Span_From, zI x1.2.Span_To] 36, cells b9 [.string r8.1.Text, zI r8.1.Indent, zI r8.1.Stanza, zI r8.1.In, zI r8.1.Span_From, zI r8.1.Span_To] 36]
           refine zak rfl dc rfl (zap (zaj (zas (zas (zai (zah rfl dc rfl (zaz rfl dc rfl rfl zbE (zah rfl dc rfl ?_))))))))
           refine za6 (s := 93) rfl (fun hb9 => ?_) (fun hb9 => ?_)
           ·
            have h := za0 hb9 h
            refine zan rfl dc (zan rfl dc (zan rfl dc (zaB (b := true) rfl dc rfl rfl (zap (zaj (zbu rfl (zas (zai ?_))))))))
            refine zbo (k := 3) (l' := [.bool false]) zjO rfl rfl rfl rfl rfl (fun _ _ => rfl) rfl ?_
            refine zap (zaj (zaX (zay (zaI ?_))))
            exact zfp i4 (show _ ∧ _ from ⟨rfl, h⟩) (zal [0, 1, 2, 3, 4] kr rfl)
           ·
            have h := za1 hb9 h
            refine zbc (k := 6) (cs := [.string r8.1.Text, zI r8.1.Indent, zI r8.1.Stanza, zI r8.1.In, zI r8.1.Span_From, zI r8.1.Span_To]) zgF rfl dc rfl rfl rfl rfl (zbc (k := 5) (cs := [.string x1.2.Text, zI x1.2.Indent, zI x1.2.Stanza, zI x1.2.In, zI x1.2.Span_From, zI x1.2.Span_To]) zgF rfl dc rfl rfl rfl rfl (zaz rfl dc rfl rfl (zhp r8.1 x1.2) (zaB (b := false) rfl dc rfl rfl (zap (zaj ?_)))))
            refine zaM rfl (fun hb10 => ?_) (fun hb10 => ?_)
            ·
             have h := za0 hb10 h
             refine zas (zai ?_)
             refine zbo (k := 3) (l' := [.bool false]) zjO rfl rfl rfl rfl rfl (fun _ _ => rfl) rfl ?_
             refine zap (zaj (zaX (zay (zaI ?_))))
             exact zfp i4 (show _ ∧ _ from ⟨rfl, h⟩) (zal [0, 1, 2, 3, 4] kr rfl)
            ·
             have h := za1 hb10 h
             refine zaP (zaj (zai (zaN (k := 4) zfb rfl dc rfl rfl rfl ?_)))
             obtain ⟨hg1, h⟩ := zcb h
             refine zaz rfl dc rfl rfl (zbh (r := i4 + 1) (IntWalk.i64_in _ hg1)) ?_
             refine zbo (k := 4) (l' := [zI (i4 + 1)]) zjh rfl rfl rfl rfl rfl (fun _ _ => rfl) rfl ?_
             refine zap (zaA ?_)
             exact zhV (i4 + 1) (fun post2 e2 => by have e9 := zgS hxs1 e2; subst e9; subst hag1; exact h) (zal [0, 1, 2, 3, 4] kr rfl)
       ·
        rintro dm1 i4 hinv
        have h : dn1 i4 = some r := hinv [] (List.append_nil _).symm
        rw [hdn1] at h
        show TX _ _ _ _ _ _ _ [zev ((([] : List Nat) : List Nat).map zeO), emp, emp, emp, emp, emp, cells b7 [zP bp1] 23, cells b1 [zP bp1] 23, cells b2 [.string wv1.Title, wv1_h0.v] 56, cells b3 [vl1] 57, cells b4 [.bool false] 4, cells b6 [zI i4] 3, zeO dm1]
        refine zix (k := 12) (j := 0) rfl rfl dc ?_
        show TX _ _ _ _ _ _ _ [zev ((dm1 :: ([] : List Nat) : List Nat).map zeO), emp, emp, emp, emp, emp, cells b7 [zP bp1] 23, cells b1 [zP bp1] 23, cells b2 [.string wv1.Title, wv1_h0.v] 56, cells b3 [vl1] 57, cells b4 [.bool false] 4, cells b6 [zI i4] 3, emp]
        refine zaA ?_
        exact zaO (i4, b6, dm1 :: ([] : List Nat)) h rfl (zad rfl (zad rfl (zad rfl (zad rfl (zad rfl (zaH)))))) (zal [7, 8, 9, 10, 11, 0] kr rfl)
       ·
        rintro dm1 c pre x1 post g hxs hX
        obtain ⟨rfl, h⟩ := (show _ ∧ _ from hX)
        generalize g = i5 at *
        rw [hek1] at h
        show TC _ _ _ _ _ _ _ _ _ [zev ((([] : List Nat) : List Nat).map zeO), emp, emp, emp, emp, emp, cells b7 [zP bp1] 23, cells b1 [zP bp1] 23, cells b2 [.string wv1.Title, wv1_h0.v] 56, cells b3 [vl1] 57, cells b4 [.bool false] 4, cells b6 [zI i5] 3, zeO dm1]
        refine zk0 (k := 12) (j := 0) rfl rfl dc ?_
        show TC _ _ _ _ _ _ _ _ _ [zev ((dm1 :: ([] : List Nat) : List Nat).map zeO), emp, emp, emp, emp, emp, cells b7 [zP bp1] 23, cells b1 [zP bp1] 23, cells b2 [.string wv1.Title, wv1_h0.v] 56, cells b3 [vl1] 57, cells b4 [.bool false] 4, cells b6 [zI i5] 3, emp]
        refine zaX (zaI (zay ?_))
        cases h
        exact zep (rs := [.cell 8 4]) (dm1 :: ([] : List Nat)) () (.inl rfl) (zb8 (k := 0) rfl) Tryd.results31 (.cons (.cell zlb (k := 10) rfl rfl) .nil) rfl Splits.nil
      ·
       rintro ⟨i1, b5, ds1⟩ h
       rw [hj1] at h
       show TC _ _ _ _ _ (zdA ds1) _ _ [(4, zP b1), (6, zP b2), (7, zP b3), (8, zP b4), (9, zP b5)] [cells b1 [zP bp1] 23, cells b2 [.string wv1.Title, wv1_h0.v] 56, cells b3 [vl1] 57, cells b4 [.bool false] 4, cells b5 [zI i1] 3, zev ((ds1 : List Nat).map zeO)]
       obtain ⟨j2, hj2, h⟩ := zcp h
       refine zbm (β := Unit) 1 rfl (fun b => j2 = some r) (fun b => zdA ds1) (fun b => [(4, zP b1), (6, zP b2), (7, zP b3), (8, zP b4), (9, zP b5)]) (fun b => [cells b1 [zP bp1] 23, cells b2 [.string wv1.Title, wv1_h0.v] 56, cells b3 [vl1] 57, cells b4 [.bool false] 4, cells b5 [zI i1] 3, zev ((ds1 : List Nat).map zeO)]) (fun cut => ?_) ?_
       ·
        refine zas (zai (zak rfl dc rfl (zap (zaj (cut (zas (zai (zar zbC rfl dc rfl (show _ = 1 from rfl) (zaN (k := 1) zc7 rfl dc rfl rfl rfl (zcS hzwv10 hwwv10 rfl dc rfl Tryd.underlying54 (zah rfl dc rfl (zap (zaj ?_)))))))))))))
        refine za2 ?_
        refine zbJ (β := Nat × Int × Int) (fun b => za8 (fun _ _ => none) (zdX p1 wv1 j2) b.1 b.2.1 b.2.2 = some r) (fun b => zdA ds1) (fun b => [(4, zP b1), (6, zP b2), (7, zP b3), (8, zP b4), (9, zP b5), (14, zI b.2.1), (101, wv1_h0.v), (102, zI (wv1.Stanzas.length : Int)), (103, zI b.2.2)]) (fun b => [cells b1 [zP bp1] 23, cells b2 [.string wv1.Title, wv1_h0.v] 56, cells b3 [vl1] 57, cells b4 [.bool false] 4, cells b5 [zI i1] 3, zev ((ds1 : List Nat).map zeO)]) (fun b => b.1) (zb0, 0, 0) h rfl (zad rfl (zad rfl (zad rfl (zad rfl (zad rfl (zad rfl (zad rfl (zad rfl (zad rfl (zaH)))))))))) (zal [0, 1, 2, 3, 4, 5] kr rfl) ?_
        rintro ⟨n1, from3, x4⟩ h
        cases n1 with
        | zero => exact zdV h
        | succ n1 =>
         obtain ⟨ag2, hag2⟩ : ∃ ag, ag = za8 (fun _ _ => none) (zdX p1 wv1 j2) n1 := ⟨_, rfl⟩
         have h : zdX p1 wv1 j2 ag2 from3 x4 = some r := by rw [hag2]; exact h
         unfold zdX at h
         show TC _ _ _ _ _ (zdA ds1) _ _ [(4, zP b1), (6, zP b2), (7, zP b3), (8, zP b4), (9, zP b5), (14, zI from3), (101, wv1_h0.v), (102, zI (wv1.Stanzas.length : Int)), (103, zI x4)] [cells b1 [zP bp1] 23, cells b2 [.string wv1.Title, wv1_h0.v] 56, cells b3 [vl1] 57, cells b4 [.bool false] 4, cells b5 [zI i1] 3, zev ((ds1 : List Nat).map zeO)]
         refine zas (zai (zaz rfl dc rfl rfl zbF (zap (zaj (zas ?_)))))
         refine zaM rfl (fun hb11 => ?_) (fun hb11 => ?_)
         ·
          have h := za0 hb11 h
          refine zaP (zaj (zas (za2 (zas (zai (zah rfl dc rfl ?_))))))
          obtain ⟨x5, hq11, h⟩ := zbN h
          obtain ⟨eh1, eq1⟩ := zeb hzwv10 hq11
          have hrd : Rd _ _ [cells bp1 [.string p1.told_title, p1_h0.v, p1_h1.v, .string p1.source] 93, vec zam 36 6 p1_h0.v p1.told_lines, vec zav 34 2 p1_h1.v p1.told_stanzas, zbk zae 1 vvwv10 kwv10 Zwv10, zbM zaD Zwv10, zbk zam 6 vvl1 kl1 Ll1, zej zbT 1 eh1 x5] := hrd.openEl (i := 4) (z := (x5, eh1)) rfl (Vw.get hwwv10 eq1)
          obtain ⟨vv1, k1, L1, hV1, hrd⟩ := hrd.openSl (i := 6) rfl
          replace hrd : Rd _ _ [cells bp1 [.string p1.told_title, p1_h0.v, p1_h1.v, .string p1.source] 93, vec zam 36 6 p1_h0.v p1.told_lines, vec zav 34 2 p1_h1.v p1.told_stanzas, zbk zae 1 vvwv10 kwv10 Zwv10, zbM zaD Zwv10, zbk zam 6 vvl1 kl1 Ll1, zej zbT 1 eh1 x5, zbk zbT 1 vv1 k1 L1] := hrd
          refine zbd hwwv10 eq1 Tryd.underlying54 zet rfl dc rfl rfl rfl (zbi (n := kwv10 + (x4 : Int).toNat) (j := 0) (i := 3) (q := (x5, eh1)) hrd rfl (by omega) zeR rfl dc rfl (Vw.get hwwv10 eq1) rfl rfl (zak rfl dc rfl (zak rfl dc rfl (zap (zaj (zas (zai (zaN (k := 0) zeF rfl dc rfl rfl rfl (zah rfl dc rfl ?_)))))))))
          obtain ⟨r9, hq12, h⟩ := zbN h
          refine za4 (v := .tuple #[.agg #[zI r9.1.From, zI r9.1.To], zI r9.2]) (vs := [zP bp1, zI x4]) hrd rfl dc rfl rfl rfl zo4 (zfk (bp1 := bp1) (p1 := p1) (p1_h0 := p1_h0) (p1_h1 := p1_h1) hq12) (.ro 0 rfl (.ro 1 rfl (.ro 2 rfl .nil))) (zah rfl dc rfl (zaS rfl dc rfl rfl (zaS rfl dc rfl rfl ?_)))
          refine zbl zky rfl dc (fun b10 => ?_)
          refine zaZ (k := 6) (vs := [zI r9.1.From, zI r9.1.To]) (l' := [zI r9.1.From, zI r9.1.To]) zgt rfl rfl rfl rfl rfl (show _ ≤ _ by simp) rfl rfl ?_
          show TO _ _ _ _ _ _ _ _ _ _ [cells b1 [zP bp1] 23, cells b2 [.string wv1.Title, wv1_h0.v] 56, cells b3 [vl1] 57, cells b4 [.bool false] 4, cells b5 [zI i1] 3, zev ((ds1 : List Nat).map zeO), cells b10 [zI r9.1.From, zI r9.1.To] 34]
          refine zak rfl dc rfl (zap (zaj (zas (zas (zai (zah rfl dc rfl (zaz rfl dc rfl rfl zbE (zah rfl dc rfl ?_))))))))
          refine za6 (s := 116) rfl (fun hb12 => ?_) (fun hb12 => ?_)
          ·
           have h := za0 hb12 h
           refine zan rfl dc (zan rfl dc (zan rfl dc (zan rfl dc (zan rfl dc (zan rfl dc (zan rfl dc (zan rfl dc (zaB (b := true) rfl dc rfl rfl (zap (zaj (zbu rfl (zas (zai ?_)))))))))))))
           refine zbo (k := 3) (l' := [.bool false]) zjO rfl rfl rfl rfl rfl (fun _ _ => rfl) rfl ?_
           refine zap (zaj (zaX (zay (zaI (zay (zay (zaI (zay ?_))))))))
           cases h
           exact zep (rs := [.cell 8 4]) ds1 () (.inl rfl) (zb8 (k := 5) rfl) Tryd.results31 (.cons (.cell zlb (k := 3) rfl rfl) .nil) rfl Splits.nil
          ·
           have h := za1 hb12 h
           refine zbc (k := 6) (cs := [zI r9.1.From, zI r9.1.To]) zhf rfl dc rfl rfl rfl rfl (zah rfl dc rfl (zah rfl dc rfl (zah rfl dc rfl (zbG hV1 rfl dc rfl Tryd.underlying48 ?_))))
           obtain ⟨hg2, h⟩ := zcb h
           refine zaz rfl dc rfl rfl (zbh (r := from3 + (x5.length : Int)) (IntWalk.i64_in _ hg2)) ?_
           refine zbe (v := .agg #[zI from3, zI (from3 + (x5.length : Int))]) (ps := [(0, .tmp 118), (1, .tmp 122)]) rfl dc rfl (fun _ => by kernel_rfl) ?_
           refine zaz rfl dc rfl rfl (zi7 r9.1 (⟨from3, from3 + (x5.length : Int)⟩ : Gapi_Span)) (zaB (b := false) rfl dc rfl rfl (zap (zaj ?_)))
           refine zaM rfl (fun hb13 => ?_) (fun hb13 => ?_)
           ·
            have h := za0 hb13 h
            refine zas (zai ?_)
            refine zbo (k := 3) (l' := [.bool false]) zjO rfl rfl rfl rfl rfl (fun _ _ => rfl) rfl ?_
            refine zap (zaj (zaX (zay (zaI (zay (zay (zaI (zay ?_))))))))
            cases h
            exact zep (rs := [.cell 8 4]) ds1 () (.inl rfl) (zb8 (k := 5) rfl) Tryd.results31 (.cons (.cell zlb (k := 3) rfl rfl) .nil) rfl Splits.nil
           ·
            have h := za1 hb13 h
            refine zaP (zaj (zai (zah rfl dc rfl (zah rfl dc rfl (zbG hV1 rfl dc rfl Tryd.underlying48 ?_)))))
            obtain ⟨hg3, h⟩ := zcb h
            refine zaz rfl dc rfl rfl (zbh (r := from3 + (x5.length : Int)) (IntWalk.i64_in _ hg3)) (zak rfl dc rfl (zap (zaA (zaj (zai ?_)))))
            obtain ⟨hg4, h⟩ := zcb h
            refine zaz rfl dc rfl rfl (zbh (r := x4 + 1) (IntWalk.i64_in _ hg4)) (zah rfl dc rfl (zap ?_))
            subst hag2
            exact zbj (n1, from3 + (x5.length : Int), x4 + 1) h (Nat.lt_succ_self _) rfl (zad rfl (zad rfl (zad rfl (zad rfl (zad rfl (zad rfl (zad rfl (zad rfl (zad rfl (zaH)))))))))) (zal [0, 1, 2, 3, 4, 5] kr rfl)
         ·
          have h := za1 hb11 h
          refine zby (zaJ (zaJ (zaV ?_)))
          exact zaO () h rfl (zad rfl (zad rfl (zad rfl (zad rfl (zad rfl (zaH)))))) (zal [0, 1, 2, 3, 4, 5] kr rfl)
       ·
        rintro _ h
        rw [hj2] at h
        show TC _ _ _ _ _ (zdA ds1) _ _ [(4, zP b1), (6, zP b2), (7, zP b3), (8, zP b4), (9, zP b5)] [cells b1 [zP bp1] 23, cells b2 [.string wv1.Title, wv1_h0.v] 56, cells b3 [vl1] 57, cells b4 [.bool false] 4, cells b5 [zI i1] 3, zev ((ds1 : List Nat).map zeO)]
        obtain ⟨j3, hj3, h⟩ := zcp h
        refine zbm (β := Unit) 0 rfl (fun b => j3 = some r) (fun b => zdA ds1) (fun b => [(4, zP b1), (6, zP b2), (7, zP b3), (8, zP b4), (9, zP b5)]) (fun b => [cells b1 [zP bp1] 23, cells b2 [.string wv1.Title, wv1_h0.v] 56, cells b3 [vl1] 57, cells b4 [.bool false] 4, cells b5 [zI i1] 3, zev ((ds1 : List Nat).map zeO)]) (fun cut => ?_) ?_
        ·
         refine cut (zas (zai (zaN (k := 2) zew rfl dc rfl rfl rfl (zbG hwl1 rfl dc rfl Tryd.underlying57 ?_))))
         refine zbg (cs := [zI (-1), zI (l1.length : Int)]) (te := 3) (ps := [(0, .const (zI (-1))), (1, .tmp 132)]) rfl dc rfl (fun _ => by kernel_rfl) (fun b11 => ?_)
         refine zlq ([(-1), (l1.length : Int)] : List Int) (k := 6) rfl zhR rfl (show 2 ≤ maxLen by decide) ?_
         show TO _ _ _ _ _ _ _ _ _ _ [cells b1 [zP bp1] 23, cells b2 [.string wv1.Title, wv1_h0.v] 56, cells b3 [vl1] 57, cells b4 [.bool false] 4, cells b5 [zI i1] 3, zev ((ds1 : List Nat).map zeO), vec (znq (.i64)) 3 1 (.slice (some ⟨b11, 0, none⟩) 2 2) ([(-1), (l1.length : Int)] : List Int)]
         refine zdf (k := 6) rfl dc rfl rfl Tryd.underlying29 (zah rfl dc rfl (zap (zaj (za2 ?_))))
         refine zbJ (β := Nat × Int) (fun b => za8 (fun _ => none) (zdc p1 l1 j3) b.1 b.2 = some r) (fun b => zdA ds1) (fun b => [(4, zP b1), (6, zP b2), (7, zP b3), (8, zP b4), (9, zP b5), (133, (.slice (some ⟨b11, 0, none⟩) 2 2)), (134, zI (([(-1), (l1.length : Int)] : List Int).length : Int)), (135, zI b.2)]) (fun b => [cells b1 [zP bp1] 23, cells b2 [.string wv1.Title, wv1_h0.v] 56, cells b3 [vl1] 57, cells b4 [.bool false] 4, cells b5 [zI i1] 3, vec (znq (.i64)) 3 1 (.slice (some ⟨b11, 0, none⟩) 2 2) ([(-1), (l1.length : Int)] : List Int), zev ((ds1 : List Nat).map zeO)]) (fun b => b.1) (zb0, 0) h rfl (zad rfl (zad rfl (zad rfl (zad rfl (zad rfl (zad rfl (zad rfl (zad rfl (zaH))))))))) (zal [0, 1, 2, 3, 4, 6, 5] kr rfl) ?_
         rintro ⟨n2, x8⟩ h
         cases n2 with
         | zero => exact zdV h
         | succ n2 =>
          obtain ⟨ag3, hag3⟩ : ∃ ag, ag = za8 (fun _ => none) (zdc p1 l1 j3) n2 := ⟨_, rfl⟩
          have h : zdc p1 l1 j3 ag3 x8 = some r := by rw [hag3]; exact h
          unfold zdc at h
          show TC _ _ _ _ _ (zdA ds1) _ _ [(4, zP b1), (6, zP b2), (7, zP b3), (8, zP b4), (9, zP b5), (133, (.slice (some ⟨b11, 0, none⟩) 2 2)), (134, zI (([(-1), (l1.length : Int)] : List Int).length : Int)), (135, zI x8)] [cells b1 [zP bp1] 23, cells b2 [.string wv1.Title, wv1_h0.v] 56, cells b3 [vl1] 57, cells b4 [.bool false] 4, cells b5 [zI i1] 3, vec (znq (.i64)) 3 1 (.slice (some ⟨b11, 0, none⟩) 2 2) ([(-1), (l1.length : Int)] : List Int), zev ((ds1 : List Nat).map zeO)]
          refine zas (zai (zaz rfl dc rfl rfl zbF (zap (zaj (zas ?_)))))
          refine zaM rfl (fun hb14 => ?_) (fun hb14 => ?_)
          ·
           have h := za0 hb14 h
           refine zaP (zaj (zas (za2 (zas (zai ?_)))))
           obtain ⟨q2, hq13, h⟩ := zbN h
           refine zce (k := 5) hq13 Tryd.underlying29 zjh rfl dc rfl rfl rfl rfl (zd2 (i := (x8 : Int).toNat) (j := 0) (k := 5) (q := q2) zfb zhR rfl dc rfl rfl (zcq hq13) rfl dc rfl (zak rfl dc rfl (zap (zaj (zas (zai (zaN (k := 0) zeF rfl dc rfl rfl rfl (zah rfl dc rfl ?_))))))))
           obtain ⟨r10, hq14, h⟩ := zbN h
           refine za4 (v := .tuple #[.agg #[.string r10.1.Text, zI r10.1.Indent, zI r10.1.Stanza, zI r10.1.In, zI r10.1.Span_From, zI r10.1.Span_To], zI r10.2]) (vs := [zP bp1, zI q2]) hrd rfl dc rfl rfl rfl zo6 (zfG (bp1 := bp1) (p1 := p1) (p1_h0 := p1_h0) (p1_h1 := p1_h1) hq14) (.ro 0 rfl (.ro 1 rfl (.ro 2 rfl .nil))) (zah rfl dc rfl (zaS rfl dc rfl rfl (zaS rfl dc rfl rfl ?_)))
           refine zbl ziF rfl dc (fun b12 => ?_)
           refine zaZ (k := 7) (vs := [.string r10.1.Text, zI r10.1.Indent, zI r10.1.Stanza, zI r10.1.In, zI r10.1.Span_From, zI r10.1.Span_To]) (l' := [.string r10.1.Text, zI r10.1.Indent, zI r10.1.Stanza, zI r10.1.In, zI r10.1.Span_From, zI r10.1.Span_To]) zf3 rfl rfl rfl rfl rfl (show _ ≤ _ by simp) rfl rfl ?_
           show TO _ _ _ _ _ _ _ _ _ _ [cells b1 [zP bp1] 23, cells b2 [.string wv1.Title, wv1_h0.v] 56, cells b3 [vl1] 57, cells b4 [.bool false] 4, cells b5 [zI i1] 3, vec (znq (.i64)) 3 1 (.slice (some ⟨b11, 0, none⟩) 2 2) ([(-1), (l1.length : Int)] : List Int), zev ((ds1 : List Nat).map zeO), cells b12 [.string r10.1.Text, zI r10.1.Indent, zI r10.1.Stanza, zI r10.1.In, zI r10.1.Span_From, zI r10.1.Span_To] 36]
           refine zak rfl dc rfl (zap (zaj (zas (zai (zbc (k := 7) (cs := [.string r10.1.Text, zI r10.1.Indent, zI r10.1.Stanza, zI r10.1.In, zI r10.1.Span_From, zI r10.1.Span_To]) zgF rfl dc rfl rfl rfl rfl ?_)))))
           refine zbe (v := .agg #[.string ByteArray.empty, zI 0, zI 0, zI 0, zI 0, zI 0]) (ps := []) rfl dc rfl (fun _ => by kernel_rfl) ?_
           refine zaz rfl dc rfl rfl (zhp r10.1 (⟨ByteArray.empty, 0, 0, 0, 0, 0⟩ : Gapi_Verse)) (zah rfl dc rfl ?_)
           refine za6 (s := 148) rfl (fun hb15 => ?_) (fun hb15 => ?_)
           ·
            have h := za0 hb15 h
            refine zan rfl dc (zan rfl dc (zaB (b := true) rfl dc rfl rfl (zap (zaj (zbu rfl (zas (zai ?_)))))))
            refine zbo (k := 3) (l' := [.bool false]) zjO rfl rfl rfl rfl rfl (fun _ _ => rfl) rfl ?_
            refine zap (zaj (zaX (zaI (zay (zay (zaI (zay ?_)))))))
            cases h
            exact zep (rs := [.cell 8 4]) ds1 () (.inl rfl) (zb8 (k := 6) rfl) Tryd.results31 (.cons (.cell zlb (k := 3) rfl rfl) .nil) rfl Splits.nil
           ·
            have h := za1 hb15 h
            refine zah rfl dc rfl (zaz rfl dc rfl rfl zbE (zaB (b := false) rfl dc rfl rfl (zap (zaj ?_))))
            refine zaM rfl (fun hb16 => ?_) (fun hb16 => ?_)
            ·
             have h := za0 hb16 h
             refine zas (zai ?_)
             refine zbo (k := 3) (l' := [.bool false]) zjO rfl rfl rfl rfl rfl (fun _ _ => rfl) rfl ?_
             refine zap (zaj (zaX (zaI (zay (zay (zaI (zay ?_)))))))
             cases h
             exact zep (rs := [.cell 8 4]) ds1 () (.inl rfl) (zb8 (k := 6) rfl) Tryd.results31 (.cons (.cell zlb (k := 3) rfl rfl) .nil) rfl Splits.nil
            ·
             have h := za1 hb16 h
             refine zaP (zaA (zaj (zai ?_)))
             obtain ⟨hg5, h⟩ := zcb h
             refine zaz rfl dc rfl rfl (zbh (r := x8 + 1) (IntWalk.i64_in _ hg5)) (zah rfl dc rfl (zap ?_))
             subst hag3
             exact zbj (n2, x8 + 1) h (Nat.lt_succ_self _) rfl (zad rfl (zad rfl (zad rfl (zad rfl (zad rfl (zad rfl (zad rfl (zad rfl (zaH))))))))) (zal [0, 1, 2, 3, 4, 5, 6] kr rfl)
          ·
           have h := za1 hb14 h
           refine zby (zaJ (zaJ (zaV ?_)))
           exact zaO () h rfl (zad rfl (zad rfl (zad rfl (zad rfl (zad rfl (zaH)))))) (zal [0, 1, 2, 3, 4, 6] kr rfl)
        ·
         rintro _ h
         rw [hj3] at h
         show TC _ _ _ _ _ (zdA ds1) _ _ [(4, zP b1), (6, zP b2), (7, zP b3), (8, zP b4), (9, zP b5)] [cells b1 [zP bp1] 23, cells b2 [.string wv1.Title, wv1_h0.v] 56, cells b3 [vl1] 57, cells b4 [.bool false] 4, cells b5 [zI i1] 3, zev ((ds1 : List Nat).map zeO)]
         obtain ⟨j4, hj4, h⟩ := zcp h
         refine zbm (β := Unit) 0 rfl (fun b => j4 = some r) (fun b => zdA ds1) (fun b => [(7, zP b3), (8, zP b4), (9, zP b5)]) (fun b => [cells b3 [vl1] 57, cells b4 [.bool false] 4, cells b5 [zI i1] 3, zev ((ds1 : List Nat).map zeO)]) (fun cut => ?_) ?_
         ·
          refine cut (zas (zai (zar zbC rfl dc rfl (show _ = 1 from rfl) (zaN (k := 1) zc7 rfl dc rfl rfl rfl (zcS hzwv10 hwwv10 rfl dc rfl Tryd.underlying54 ?_)))))
          refine zbg (cs := [zI (-1), zI (wv1.Stanzas.length : Int)]) (te := 3) (ps := [(0, .const (zI (-1))), (1, .tmp 155)]) rfl dc rfl (fun _ => by kernel_rfl) (fun b13 => ?_)
          refine zlq ([(-1), (wv1.Stanzas.length : Int)] : List Int) (k := 6) rfl zhR rfl (show 2 ≤ maxLen by decide) ?_
          show TO _ _ _ _ _ _ _ _ _ _ [cells b1 [zP bp1] 23, cells b2 [.string wv1.Title, wv1_h0.v] 56, cells b3 [vl1] 57, cells b4 [.bool false] 4, cells b5 [zI i1] 3, zev ((ds1 : List Nat).map zeO), vec (znq (.i64)) 3 1 (.slice (some ⟨b13, 0, none⟩) 2 2) ([(-1), (wv1.Stanzas.length : Int)] : List Int)]
          refine zdf (k := 6) rfl dc rfl rfl Tryd.underlying29 (zah rfl dc rfl (zap (zaj (za2 ?_))))
          refine zbJ (β := Nat × Int) (fun b => za8 (fun _ => none) (zdb p1 wv1 j4) b.1 b.2 = some r) (fun b => zdA ds1) (fun b => [(4, zP b1), (7, zP b3), (8, zP b4), (9, zP b5), (156, (.slice (some ⟨b13, 0, none⟩) 2 2)), (157, zI (([(-1), (wv1.Stanzas.length : Int)] : List Int).length : Int)), (158, zI b.2)]) (fun b => [cells b1 [zP bp1] 23, cells b3 [vl1] 57, cells b4 [.bool false] 4, cells b5 [zI i1] 3, vec (znq (.i64)) 3 1 (.slice (some ⟨b13, 0, none⟩) 2 2) ([(-1), (wv1.Stanzas.length : Int)] : List Int), zev ((ds1 : List Nat).map zeO)]) (fun b => b.1) (zb0, 0) h rfl (zad rfl (zad rfl (zad rfl (zad rfl (zad rfl (zad rfl (zad rfl (zaH)))))))) (zal [0, 2, 3, 4, 6, 5] kr rfl) ?_
          rintro ⟨n3, x11⟩ h
          cases n3 with
          | zero => exact zdV h
          | succ n3 =>
           obtain ⟨ag4, hag4⟩ : ∃ ag, ag = za8 (fun _ => none) (zdb p1 wv1 j4) n3 := ⟨_, rfl⟩
           have h : zdb p1 wv1 j4 ag4 x11 = some r := by rw [hag4]; exact h
           unfold zdb at h
           show TC _ _ _ _ _ (zdA ds1) _ _ [(4, zP b1), (7, zP b3), (8, zP b4), (9, zP b5), (156, (.slice (some ⟨b13, 0, none⟩) 2 2)), (157, zI (([(-1), (wv1.Stanzas.length : Int)] : List Int).length : Int)), (158, zI x11)] [cells b1 [zP bp1] 23, cells b3 [vl1] 57, cells b4 [.bool false] 4, cells b5 [zI i1] 3, vec (znq (.i64)) 3 1 (.slice (some ⟨b13, 0, none⟩) 2 2) ([(-1), (wv1.Stanzas.length : Int)] : List Int), zev ((ds1 : List Nat).map zeO)]
           refine zas (zai (zaz rfl dc rfl rfl zbF (zap (zaj (zas ?_)))))
           refine zaM rfl (fun hb17 => ?_) (fun hb17 => ?_)
           ·
            have h := za0 hb17 h
            refine zaP (zaj (zas (za2 (zas (zai ?_)))))
            obtain ⟨q3, hq15, h⟩ := zbN h
            refine zce (k := 4) hq15 Tryd.underlying29 zjh rfl dc rfl rfl rfl rfl (zd2 (i := (x11 : Int).toNat) (j := 0) (k := 4) (q := q3) zfb zhR rfl dc rfl rfl (zcq hq15) rfl dc rfl (zak rfl dc rfl (zap (zaj (zas (zai (zaN (k := 0) zeF rfl dc rfl rfl rfl (zah rfl dc rfl ?_))))))))
            obtain ⟨r11, hq16, h⟩ := zbN h
            refine za4 (v := .tuple #[.agg #[zI r11.1.From, zI r11.1.To], zI r11.2]) (vs := [zP bp1, zI q3]) hrd rfl dc rfl rfl rfl zo4 (zfk (bp1 := bp1) (p1 := p1) (p1_h0 := p1_h0) (p1_h1 := p1_h1) hq16) (.ro 0 rfl (.ro 1 rfl (.ro 2 rfl .nil))) (zah rfl dc rfl (zaS rfl dc rfl rfl (zaS rfl dc rfl rfl ?_)))
            refine zbl zky rfl dc (fun b14 => ?_)
            refine zaZ (k := 6) (vs := [zI r11.1.From, zI r11.1.To]) (l' := [zI r11.1.From, zI r11.1.To]) zgt rfl rfl rfl rfl rfl (show _ ≤ _ by simp) rfl rfl ?_
            show TO _ _ _ _ _ _ _ _ _ _ [cells b1 [zP bp1] 23, cells b3 [vl1] 57, cells b4 [.bool false] 4, cells b5 [zI i1] 3, vec (znq (.i64)) 3 1 (.slice (some ⟨b13, 0, none⟩) 2 2) ([(-1), (wv1.Stanzas.length : Int)] : List Int), zev ((ds1 : List Nat).map zeO), cells b14 [zI r11.1.From, zI r11.1.To] 34]
            refine zak rfl dc rfl (zap (zaj (zas (zai (zbc (k := 6) (cs := [zI r11.1.From, zI r11.1.To]) zhf rfl dc rfl rfl rfl rfl ?_)))))
            refine zbe (v := .agg #[zI 0, zI 0]) (ps := []) rfl dc rfl (fun _ => by kernel_rfl) ?_
            refine zaz rfl dc rfl rfl (zi7 r11.1 (⟨0, 0⟩ : Gapi_Span)) (zah rfl dc rfl ?_)
            refine za6 (s := 171) rfl (fun hb18 => ?_) (fun hb18 => ?_)
            ·
             have h := za0 hb18 h
             refine zan rfl dc (zan rfl dc (zaB (b := true) rfl dc rfl rfl (zap (zaj (zbu rfl (zas (zai ?_)))))))
             refine zbo (k := 2) (l' := [.bool false]) zjO rfl rfl rfl rfl rfl (fun _ _ => rfl) rfl ?_
             refine zap (zaj (zaX (zaI (zay (zay (zaI (zay ?_)))))))
             cases h
             exact zep (rs := [.cell 8 4]) ds1 () (.inl rfl) (zb8 (k := 5) rfl) Tryd.results31 (.cons (.cell zlb (k := 2) rfl rfl) .nil) rfl Splits.nil
            ·
             have h := za1 hb18 h
             refine zah rfl dc rfl (zaz rfl dc rfl rfl zbE (zaB (b := false) rfl dc rfl rfl (zap (zaj ?_))))
             refine zaM rfl (fun hb19 => ?_) (fun hb19 => ?_)
             ·
              have h := za0 hb19 h
              refine zas (zai ?_)
              refine zbo (k := 2) (l' := [.bool false]) zjO rfl rfl rfl rfl rfl (fun _ _ => rfl) rfl ?_
              refine zap (zaj (zaX (zaI (zay (zay (zaI (zay ?_)))))))
              cases h
              exact zep (rs := [.cell 8 4]) ds1 () (.inl rfl) (zb8 (k := 5) rfl) Tryd.results31 (.cons (.cell zlb (k := 2) rfl rfl) .nil) rfl Splits.nil
             ·
              have h := za1 hb19 h
              refine zaP (zaA (zaj (zai ?_)))
              obtain ⟨hg6, h⟩ := zcb h
              refine zaz rfl dc rfl rfl (zbh (r := x11 + 1) (IntWalk.i64_in _ hg6)) (zah rfl dc rfl (zap ?_))
              subst hag4
              exact zbj (n3, x11 + 1) h (Nat.lt_succ_self _) rfl (zad rfl (zad rfl (zad rfl (zad rfl (zad rfl (zad rfl (zad rfl (zaH)))))))) (zal [0, 1, 2, 3, 4, 5] kr rfl)
           ·
            have h := za1 hb17 h
            refine zby (zaJ (zaJ (zaV ?_)))
            exact zaO () h rfl (zad rfl (zad rfl (zad rfl (zaH)))) (zal [1, 2, 3, 5] kr rfl)
         ·
          rintro _ h
          rw [hj4] at h
          show TC _ _ _ _ _ (zdA ds1) _ _ [(7, zP b3), (8, zP b4), (9, zP b5)] [cells b3 [vl1] 57, cells b4 [.bool false] 4, cells b5 [zI i1] 3, zev ((ds1 : List Nat).map zeO)]
          refine zas (zai (zaN (k := 2) zfb rfl dc rfl rfl rfl (zaN (k := 0) zew rfl dc rfl rfl rfl (zbG hwl1 rfl dc rfl Tryd.underlying57 (zaz rfl dc rfl rfl zb6 ?_)))))
          refine zbo (k := 1) (l' := [.bool ((i1 : Int) == (l1.length : Int))]) zjO rfl rfl rfl rfl rfl (fun _ _ => rfl) rfl ?_
          refine zap (zaj (zaX ?_))
          cases h
          exact zep (rs := [.cell 8 4]) ds1 () (.inl rfl) (zb8 (k := 3) rfl) Tryd.results31 (.cons (.cell zlb (k := 1) rfl rfl) .nil) rfl Splits.nil
def zdI (e1 : Int) (wv1 : Gref17_Poem) (no1 : Int) : Option Bool := zaU ((no1 : Int) != 0) ( some ((e1 : Int) == no1)
) ( zaG (zbU wv1) fun (r1 : ByteArray) => zaG (zcZ r1) fun (r2 : (Gref17_Poem × (List Gapi_Verse) × Gapi_Spot)) => zaU ((e1 : Int) == 0) ( zaG (zfB r1 wv1 r2.2.1) fun (r3 : Bool) => some false
) ( some false
)
)
theorem zgZ {e1 : Int} {wv1 : Gref17_Poem} {wv1_h0 : Hd} {vvwv10 : Value} {kwv10 : Nat} {Zwv10 zwv10 : List ((List ByteArray) × Hd)} (hwwv10 : Vw vvwv10 Zwv10 1 kwv10 wv1_h0.v zwv10) (hzwv10 : zwv10.map Prod.fst = wv1.Stanzas) {no1 : Int} {r : Bool} (h : zdI e1 wv1 no1 = some r) : FnR Tryd.prog 37 [.pointer none, zI e1, .agg #[.string wv1.Title, wv1_h0.v], zI no1] [zbk zae 1 vvwv10 kwv10 Zwv10, zbM zaD Zwv10] [] (fun _ : Unit => (.bool r)) (fun _ => []) := by
 unfold zdI at h
 refine FnR.intro Tryd.func37 rfl Tryd.ntmps37 (by simp) ?_
 intro w0 K hrd
 refine zas (zai ?_)
 refine zeE rfl dc rfl (fun b1 => ?_)
 refine zak rfl dc rfl (zap (zaj (zas (zas (zai (zah rfl dc rfl (zaz rfl dc rfl rfl zbE (zap (zaj ?_)))))))))
 refine zaM rfl (fun hb1 => ?_) (fun hb1 => ?_)
 ·
  have h := za0 hb1 h
  refine zas (zai (zah rfl dc rfl (zaz rfl dc rfl rfl (zi6 (m := (none : Option Unit)) Tryd.underlying23 (.inl ⟨rfl, rfl⟩)) (zah rfl dc rfl (zah rfl dc rfl (zah rfl dc rfl (zaz rfl dc rfl rfl zb6 (zaB (b := true) rfl dc rfl rfl (zak rfl dc rfl (zap (zaj (zaX (zay ?_)))))))))))))
  cases h
  exact za3 (rs := [.tmp 8]) () (.inl rfl) Tryd.results37 (.cons (.tmp rfl) .nil) rfl Splits.nil
 ·
  have h := za1 hb1 h
  refine zaP (zaj (zas (zai (zbc (k := 0) (cs := [.string wv1.Title, wv1_h0.v]) zcw rfl dc rfl rfl rfl rfl ?_))))
  obtain ⟨r1, hq1, h⟩ := zbN h
  refine za4 (v := .string r1) (vs := [.agg #[.string wv1.Title, wv1_h0.v]]) hrd rfl dc rfl rfl rfl zlS (zd1 (p1_h0 := wv1_h0) (p1 := wv1) hwwv10 hzwv10 hq1) (.ro 0 rfl (.ro 1 rfl .nil)) (zak rfl dc rfl (zap (zaj (zas (zai (zah rfl dc rfl ?_))))))
  obtain ⟨r2, hq2, h⟩ := zbN h
  refine zed (vs := [.string r1]) rfl dc rfl rfl rfl znt (ze7 hq2) Splits.nil ?_
  rintro ⟨hd1, v1⟩
  show TO _ _ _ _ _ _ _ _ _ _ [cells b1 [.string wv1.Title, wv1_h0.v] 56, zbx zae zag 48 1 hd1.v r2.1.Stanzas, vec zam 36 6 v1 r2.2.1]
  refine zbw (L' := [cells b1 [.string wv1.Title, wv1_h0.v] 56, zbx zae zag 48 1 hd1.v r2.1.Stanzas, vec zam 36 6 v1 r2.2.1]) (zal [0, 1, 2] kr rfl) ?_
  refine zb7 (k := 2) rfl (fun hd2 he1 => ?_)
  subst he1
  refine zah rfl dc rfl (zaS rfl dc rfl rfl (zaS rfl dc rfl rfl (zaS rfl dc rfl rfl ?_)))
  refine zbl zgC rfl dc (fun b2 => ?_)
  refine zbl ziG rfl dc (fun b3 => ?_)
  show TO _ _ _ _ _ _ _ _ _ _ [cells b1 [.string wv1.Title, wv1_h0.v] 56, zbx zae zag 48 1 hd1.v r2.1.Stanzas, vec zam 36 6 hd2.v r2.2.1, cells b2 [.string ByteArray.empty, .slice none 0 0] 56, cells b3 [zI 0, zI 0] 26]
  refine zaZ (k := 3) (vs := [.string r2.1.Title, hd1.v]) (l' := [.string r2.1.Title, hd1.v]) zeG rfl rfl rfl rfl rfl (show _ ≤ _ by simp) rfl rfl (zak rfl dc rfl (zaZ (k := 4) (vs := [zI r2.2.2.Err, zI r2.2.2.At]) (l' := [zI r2.2.2.Err, zI r2.2.2.At]) zf7 rfl rfl rfl rfl rfl (show _ ≤ _ by simp) rfl rfl ?_))
  show TO _ _ _ _ _ _ _ _ _ _ [cells b1 [.string wv1.Title, wv1_h0.v] 56, zbx zae zag 48 1 hd1.v r2.1.Stanzas, vec zam 36 6 hd2.v r2.2.1, cells b2 [.string r2.1.Title, hd1.v] 56, cells b3 [zI r2.2.2.Err, zI r2.2.2.At] 26]
  refine zap (zaj (zas (zai (zah rfl dc rfl (zaz rfl dc rfl rfl zb6 (zah rfl dc rfl ?_))))))
  refine za6 (s := 32) rfl (fun hb2 => ?_) (fun hb2 => ?_)
  ·
   have h := za0 hb2 h
   refine zah rfl dc rfl (zah rfl dc rfl (zbc (k := 0) (cs := [.string wv1.Title, wv1_h0.v]) zcw rfl dc rfl rfl rfl rfl (zah rfl dc rfl ?_)))
   refine zcA (k := 2) rfl (fun hw1 => ?_)
   obtain ⟨r3, hq3, h⟩ := zbN h
   obtain rfl : false = r3 := Option.some.inj (show some false = some r3 from hq3)
   refine za4 (v := .bool false) (vs := [.pointer none, .string r1, .agg #[.string wv1.Title, wv1_h0.v], hd2.v]) hrd rfl dc rfl rfl rfl zns (zig (wv1_h0 := wv1_h0) (wv1 := wv1) hwwv10 hzwv10 hw1 hq3) (.ro 0 rfl (.ro 1 rfl (.own (As := [vec zam 36 6 hd2.v r2.2.1]) (zal [2] (by kernel_rfl) rfl) (fun _ _ h => zeS zbI (sepL.one1.1 h)) .nil))) ?_
   refine zaB (b := true) rfl dc rfl rfl (zak rfl dc rfl (zap (zaj (zaX ?_))))
   cases h
   exact za3 (rs := [.tmp 8]) () (.inl rfl) Tryd.results37 (.cons (.tmp rfl) .nil) rfl Splits.nil
  ·
   have h := za1 hb2 h
   refine zan rfl dc (zan rfl dc (zan rfl dc (zan rfl dc (zan rfl dc (zaB (b := false) rfl dc rfl rfl (zak rfl dc rfl (zap (zaj (zaX ?_)))))))))
   cases h
   exact za3 (rs := [.tmp 8]) () (.inl rfl) Tryd.results37 (.cons (.tmp rfl) .nil) rfl Splits.nil
def zeA (p1 : Gpoem_Poem) (e1 : Int) (wv1 : Gref17_Poem) (no1 : Int) : Option Bool := zaU ((no1 : Int) != 0) ( some false
) ( zaG (zbU wv1) fun (r1 : ByteArray) => zaG (zcZ r1) fun (r2 : (Gref17_Poem × (List Gapi_Verse) × Gapi_Spot)) => zaU ((e1 : Int) == 0) ( zaG (zfd p1 r1 wv1 r2.2.1) fun (r3 : Bool) => some r3
) ( some false
)
)
theorem ziN {bp1 : Nat} {p1 : Gpoem_Poem} {p1_h0 p1_h1 : Hd} {e1 : Int} {wv1 : Gref17_Poem} {wv1_h0 : Hd} {vvwv10 : Value} {kwv10 : Nat} {Zwv10 zwv10 : List ((List ByteArray) × Hd)} (hwwv10 : Vw vvwv10 Zwv10 1 kwv10 wv1_h0.v zwv10) (hzwv10 : zwv10.map Prod.fst = wv1.Stanzas) {no1 : Int} {r : Bool} (h : zeA p1 e1 wv1 no1 = some r) : FnR Tryd.prog 37 [zP bp1, zI e1, .agg #[.string wv1.Title, wv1_h0.v], zI no1] [cells bp1 [.string p1.told_title, p1_h0.v, p1_h1.v, .string p1.source] 93, vec zam 36 6 p1_h0.v p1.told_lines, vec zav 34 2 p1_h1.v p1.told_stanzas, zbk zae 1 vvwv10 kwv10 Zwv10, zbM zaD Zwv10] [] (fun _ : Unit => (.bool r)) (fun _ => []) := by
 unfold zeA at h
 refine FnR.intro Tryd.func37 rfl Tryd.ntmps37 (by simp) ?_
 intro w0 K hrd
 refine zas (zai ?_)
 refine zeE rfl dc rfl (fun b1 => ?_)
 refine zak rfl dc rfl (zap (zaj (zas (zas (zai (zah rfl dc rfl (zaz rfl dc rfl rfl zbE (zap (zaj ?_)))))))))
 refine zaM rfl (fun hb1 => ?_) (fun hb1 => ?_)
 ·
  have h := za0 hb1 h
  refine zas (zai (zah rfl dc rfl (zaz rfl dc rfl rfl (zbf Tryd.underlying23) (zah rfl dc rfl (zan rfl dc (zan rfl dc (zan rfl dc (zaB (b := false) rfl dc rfl rfl (zak rfl dc rfl (zap (zaj (zaX (zay ?_)))))))))))))
  cases h
  exact za3 (rs := [.tmp 8]) () (.inl rfl) Tryd.results37 (.cons (.tmp rfl) .nil) rfl Splits.nil
 ·
  have h := za1 hb1 h
  refine zaP (zaj (zas (zai (zbc (k := 0) (cs := [.string wv1.Title, wv1_h0.v]) zcw rfl dc rfl rfl rfl rfl ?_))))
  obtain ⟨r1, hq1, h⟩ := zbN h
  refine za4 (v := .string r1) (vs := [.agg #[.string wv1.Title, wv1_h0.v]]) hrd rfl dc rfl rfl rfl zlS (zd1 (p1_h0 := wv1_h0) (p1 := wv1) hwwv10 hzwv10 hq1) (.ro 3 rfl (.ro 4 rfl .nil)) (zak rfl dc rfl (zap (zaj (zas (zai (zah rfl dc rfl ?_))))))
  obtain ⟨r2, hq2, h⟩ := zbN h
  refine zed (vs := [.string r1]) rfl dc rfl rfl rfl znt (ze7 hq2) Splits.nil ?_
  rintro ⟨hd1, v1⟩
  show TO _ _ _ _ _ _ _ _ _ _ [cells b1 [.string wv1.Title, wv1_h0.v] 56, zbx zae zag 48 1 hd1.v r2.1.Stanzas, vec zam 36 6 v1 r2.2.1]
  refine zbw (L' := [cells b1 [.string wv1.Title, wv1_h0.v] 56, zbx zae zag 48 1 hd1.v r2.1.Stanzas, vec zam 36 6 v1 r2.2.1]) (zal [0, 1, 2] kr rfl) ?_
  refine zb7 (k := 2) rfl (fun hd2 he1 => ?_)
  subst he1
  refine zah rfl dc rfl (zaS rfl dc rfl rfl (zaS rfl dc rfl rfl (zaS rfl dc rfl rfl ?_)))
  refine zbl zgC rfl dc (fun b2 => ?_)
  refine zbl ziG rfl dc (fun b3 => ?_)
  show TO _ _ _ _ _ _ _ _ _ _ [cells b1 [.string wv1.Title, wv1_h0.v] 56, zbx zae zag 48 1 hd1.v r2.1.Stanzas, vec zam 36 6 hd2.v r2.2.1, cells b2 [.string ByteArray.empty, .slice none 0 0] 56, cells b3 [zI 0, zI 0] 26]
  refine zaZ (k := 3) (vs := [.string r2.1.Title, hd1.v]) (l' := [.string r2.1.Title, hd1.v]) zeG rfl rfl rfl rfl rfl (show _ ≤ _ by simp) rfl rfl (zak rfl dc rfl (zaZ (k := 4) (vs := [zI r2.2.2.Err, zI r2.2.2.At]) (l' := [zI r2.2.2.Err, zI r2.2.2.At]) zf7 rfl rfl rfl rfl rfl (show _ ≤ _ by simp) rfl rfl ?_))
  show TO _ _ _ _ _ _ _ _ _ _ [cells b1 [.string wv1.Title, wv1_h0.v] 56, zbx zae zag 48 1 hd1.v r2.1.Stanzas, vec zam 36 6 hd2.v r2.2.1, cells b2 [.string r2.1.Title, hd1.v] 56, cells b3 [zI r2.2.2.Err, zI r2.2.2.At] 26]
  refine zap (zaj (zas (zai (zah rfl dc rfl (zaz rfl dc rfl rfl zb6 (zah rfl dc rfl ?_))))))
  refine za6 (s := 32) rfl (fun hb2 => ?_) (fun hb2 => ?_)
  ·
   have h := za0 hb2 h
   refine zah rfl dc rfl (zah rfl dc rfl (zbc (k := 0) (cs := [.string wv1.Title, wv1_h0.v]) zcw rfl dc rfl rfl rfl rfl (zah rfl dc rfl ?_)))
   refine zcA (k := 2) rfl (fun hw1 => ?_)
   obtain ⟨r3, hq3, h⟩ := zbN h
   refine za4 (v := .bool r3) (vs := [zP bp1, .string r1, .agg #[.string wv1.Title, wv1_h0.v], hd2.v]) hrd rfl dc rfl rfl rfl zns (zgJ (bp1 := bp1) (p1 := p1) (p1_h0 := p1_h0) (p1_h1 := p1_h1) (wv1_h0 := wv1_h0) (wv1 := wv1) hwwv10 hzwv10 hw1 hq3) (.ro 0 rfl (.ro 1 rfl (.ro 2 rfl (.ro 3 rfl (.ro 4 rfl (.own (As := [vec zam 36 6 hd2.v r2.2.1]) (zal [2] (by kernel_rfl) rfl) (fun _ _ h => zeS zbI (sepL.one1.1 h)) .nil)))))) ?_
   refine zaB (b := true) rfl dc rfl rfl (zak rfl dc rfl (zap (zaj (zaX ?_))))
   cases h
   exact za3 (rs := [.tmp 8]) () (.inl rfl) Tryd.results37 (.cons (.tmp rfl) .nil) rfl Splits.nil
  ·
   have h := za1 hb2 h
   refine zan rfl dc (zan rfl dc (zan rfl dc (zan rfl dc (zan rfl dc (zaB (b := false) rfl dc rfl rfl (zak rfl dc rfl (zap (zaj (zaX ?_)))))))))
   cases h
   exact za3 (rs := [.tmp 8]) () (.inl rfl) Tryd.results37 (.cons (.tmp rfl) .nil) rfl Splits.nil
def zdd (m : Option Gpoem_Poem) (e1 : Int) (wv1 : Gref17_Poem) (no1 : Int) : Option Bool := if m.isNone then zdI e1 wv1 no1 else m.bind fun p1 => zeA p1 e1 wv1 no1
theorem zbz {v : Value} {m : Option Gpoem_Poem} {e1 : Int} {wv1 : Gref17_Poem} {wv1_h0 : Hd} {vvwv10 : Value} {kwv10 : Nat} {Zwv10 zwv10 : List ((List ByteArray) × Hd)} (hwwv10 : Vw vvwv10 Zwv10 1 kwv10 wv1_h0.v zwv10) (hzwv10 : zwv10.map Prod.fst = wv1.Stanzas) {no1 : Int} {r : Bool} (h : zdd m e1 wv1 no1 = some r) : FnR Tryd.prog 37 [v, zI e1, .agg #[.string wv1.Title, wv1_h0.v], zI no1] [zco zau zat 93 v m, zbk zae 1 vvwv10 kwv10 Zwv10, zbM zaD Zwv10] [] (fun _ : Unit => .bool r) (fun _ => []) := by
  intro w C hR
  obtain ⟨D, h1, hk⟩ := hR _ (List.mem_of_getElem? (i := 0) rfl)
  have hR2 : Rd w C [zbk zae 1 vvwv10 kwv10 Zwv10, zbM zaD Zwv10] := fun A hA => hR A (List.mem_cons_of_mem _ hA)
  cases m with
  | none =>
    rcases zlH h1 with ⟨_, h2⟩ | ⟨x, b, h3, _⟩
    · subst h2
      exact (zgZ hwwv10 hzwv10 h) w C hR2
    · cases h3
  | some p1 =>
    obtain ⟨bp1, ⟨p1_h0, p1_h1⟩, h2, h3⟩ := pobj_some.1 h1
    subst h2
    have hR3 : Rd w C (cells bp1 [.string p1.told_title, p1_h0.v, p1_h1.v, .string p1.source] 93 :: zat (p1, (p1_h0, p1_h1))) := fun A hA => by
      obtain ⟨E, h4, h5⟩ := zh5 h3 A hA
      exact ⟨E, h4, fun k h => hk k (h5 k h)⟩
    exact (ziN (bp1 := bp1) (p1 := p1) (p1_h0 := p1_h0) (p1_h1 := p1_h1) hwwv10 hzwv10 h) w C (hR3.append hR2)

end Go.Proofs.YtgfkogafkhbgnaaDoor
namespace Go.Proofs.YtgfkogafkhbgnaaDoor
open Go.RowKit Go.Lib
set_option linter.unusedVariables false
set_option linter.unusedSimpArgs false
theorem zkE (n : Nat) : Lib.repeatL [32] n = List.replicate n 32 := by
  induction n with
  | zero => rfl
  | succ n ih => rw [Lib.repeatL, ih, List.replicate_succ]; rfl
theorem zg0 : ∀ x : List UInt8, List.replicate (ind x) 32 ++ x.drop (ind x) = x
  | [] => rfl
  | b :: x => by
    rw [zhM]
    by_cases h : b = 32
    · rw [if_pos h, List.replicate_succ, List.drop_succ_cons, List.cons_append, zg0 x, h]
    · rw [if_neg h]; rfl
theorem znQ (x : List UInt8) : zcF (ind x : Int) ++ mkB (x.drop (ind x)) = mkB x := by
  unfold zcF
  rw [Int.toNat_natCast, zkE]
  have : (⟨(List.replicate (ind x) (32 : UInt8)).toArray⟩ : ByteArray) = mkB (List.replicate (ind x) 32) := rfl
  rw [this, zeZ, zg0]
def ziP : Nat → List Gapi_Verse → List (Int × Gapi_Verse)
  | _, [] => []
  | i, v :: vs => ((i : Int), v) :: ziP (i + 1) vs
theorem znW (p : Gpoem_Poem) (h : p.told_lines.length ≤ 4611686018427387904) : zcT p = some (ziP 0 p.told_lines) := by
  unfold zcT
  have key : ∀ (n i : Nat), i ≤ p.told_lines.length → p.told_lines.length - i < n → za8 (fun _ => none) (zb5 p) n (i : Int) = some (ziP i (p.told_lines.drop i)) := by
    intro n
    induction n with
    | zero => intro i h1 h2; omega
    | succ n ih =>
      intro i hi hn
      rw [zbt]
      obtain ⟨ag, hag⟩ : ∃ ag, ag = za8 (fun _ => none) (zb5 p) n := ⟨_, rfl⟩
      rw [← hag] at ih ⊢
      unfold zb5
      rcases Nat.lt_or_ge i p.told_lines.length with hl | hl
      · have hd := List.drop_eq_getElem_cons hl
        refine zaY (decide_eq_true (by omega)) (za9 (zbV (List.getElem?_eq_getElem hl)) ?_)
        have h1 : (grd (I64 ((i : Int) + 1)) <| ag ((i : Int) + 1)) = some (ziP (i + 1) (p.told_lines.drop (i + 1))) := zcD ⟨by omega, by omega⟩ (by rw [show (i : Int) + 1 = ((i + 1 : Nat) : Int) by omega]; exact ih (i + 1) (by omega) (by omega))
        rw [h1, hd]; rfl
      · rw [List.drop_eq_nil_of_le hl]
        exact zaT (decide_eq_false (by omega)) rfl
  have := key zb0 0 (Nat.zero_le _) (by unfold zb0; omega)
  rw [List.drop_zero] at this
  exact this
/-! ### Rows -/
abbrev LnE := Nat × Nat × List UInt8
def zeX (from_ to_ : Nat) : Nat → List LnE → List Row × Int → List Row × Int
  | _, [], a => a
  | i, p :: L, a =>
    if i < from_ ∨ to_ ≤ i then zeX from_ to_ (i + 1) L a
    else if (p.1 : Int) ≠ a.2 then zeX from_ to_ (i + 1) L (a.1 ++ [[p.2.2]], (p.1 : Int))
    else zeX from_ to_ (i + 1) L (a.1.dropLast ++ [ze0 a.1 ++ [p.2.2]], a.2)
theorem zmd (from_ to_ : Nat) (d : (List (List ByteArray)) → Int → Option (List (List ByteArray))) : ∀ (L : List LnE) (vs : List Gapi_Verse) (i : Nat) (out : List Row) (s : Int), vs.map zob = L.map zlJ → (∀ p ∈ L, p.2.2.length ≤ 1024) → i + L.length ≤ 1000000 →
    out.length ≤ i → (∀ r ∈ out, r.length ≤ i) → (s ≠ -1 → out ≠ []) → zfj d (zcs from_ to_) (ziP i vs) (mkZ out) s = d (mkZ (zeX from_ to_ i L (out, s)).1) (zeX from_ to_ i L (out, s)).2
  | [], vs, i, out, s, hk, hx, hi, ho, hr, hs => by
    have : vs = [] := by cases vs with | nil => rfl | cons v vs => cases hk
    subst this; rfl
  | p :: L, vs, i, out, s, hk, hx, hi, ho, hr, hs => by
    cases vs with
    | nil => cases hk
    | cons v vs =>
      rw [List.map_cons, List.map_cons] at hk
      obtain ⟨hv, hk⟩ := List.cons.inj hk
      rw [List.length_cons] at hi
      have hv1 : v.Text = mkB (p.2.2.drop (ind p.2.2)) := congrArg (fun q => q.1) hv
      have hv2 : v.Indent = (ind p.2.2 : Int) := congrArg (fun q => q.2.1) hv
      have hv3 : v.Stanza = (p.1 : Int) := congrArg (fun q => q.2.2.1) hv
      have hxl := hx p (by simp)
      have hil := zmx p.2.2
      show zfj d _ (((i : Int), v) :: ziP (i + 1) vs) _ _ = _
      rw [zib]
      have ih := fun out s h1 h2 h3 => zmd from_ to_ d L vs (i + 1) out s hk (fun q hq => hx q (by simp [hq])) (by omega) h1 h2 h3
      obtain ⟨ag, hag⟩ : ∃ ag, ag = zfj d (zcs from_ to_) (ziP (i + 1) vs) := ⟨_, rfl⟩
      rw [← hag] at ih ⊢
      unfold zcs zeX
      by_cases h1 : i < from_
      · rw [if_pos (.inl h1)]
        exact zaY (decide_eq_true (by show (i : Int) < _; omega)) (ih out s (by omega) (fun r h => by have := hr r h; omega) hs)
      · refine zaT (decide_eq_false (by show ¬ (i : Int) < _; omega)) ?_
        by_cases h2 : to_ ≤ i
        · rw [if_pos (.inr h2)]
          exact zaY (decide_eq_true (by show _ ≤ (i : Int); omega)) (ih out s (by omega) (fun r h => by have := hr r h; omega) hs)
        · rw [if_neg (by omega)]
          refine zaT (decide_eq_false (by show ¬ _ ≤ (i : Int); omega)) (zcC ?_)
          have tail : ∀ (z : List Row) (s' : Int), z ≠ [] → z.length ≤ i + 1 → (∀ r ∈ z, r.length ≤ i) → s' ≠ -1 → (grd (I64 (((mkZ z).length : Int) - 1)) <|
              zaG (zdh (mkZ z) (((mkZ z).length : Int) - 1)) fun (x2 : List ByteArray) =>
              grd (0 ≤ v.Indent ∧ v.Indent ≤ 140737488355328) <|
              grd ((zcF v.Indent).size + v.Text.size ≤ 9223372036854775807) <|
              grd (x2.length + 1 ≤ 2147483648) <|
              ag ((mkZ z).set (((mkZ z).length : Int) - 1 : Int).toNat (x2 ++ [(zcF v.Indent) ++ v.Text])) s') = d (mkZ (zeX from_ to_ (i + 1) L (z.dropLast ++ [ze0 z ++ [p.2.2]], s')).1) (zeX from_ to_ (i + 1) L (z.dropLast ++ [ze0 z ++ [p.2.2]], s')).2 := fun z s' hz hzl hzr hs' => by
            obtain ⟨w, r, rfl⟩ : ∃ w r, z = w ++ [r] := ⟨_, _, zii hz⟩
            have hl9 : ze0 (w ++ [r]) = r := by unfold ze0; rw [List.getLastD_concat]
            rw [List.dropLast_concat, hl9]
            rw [List.length_append, List.length_singleton] at hzl
            have hlen : (mkZ (w ++ [r])).length = w.length + 1 := by rw [zbL, List.length_append, List.length_singleton]
            have hg : zdh (mkZ (w ++ [r])) (((mkZ (w ++ [r])).length : Int) - 1) = some (r.map mkB) := by
              refine zkM (n := w.length) (by rw [hlen]; omega) ?_
              rw [zeY, List.getElem?_append_right (by rw [zbL]; exact Nat.le_refl _), zbL, Nat.sub_self]; rfl
            have hll : r.length ≤ i := hzr _ (by simp)
            refine zcD ⟨by omega, by rw [hlen]; omega⟩ (za9 hg (zcD ⟨by rw [hv2]; omega, by rw [hv2]; omega⟩ ?_))
            rw [hv1, hv2, znQ]
            have hsz : (zcF (ind p.2.2 : Int)).size + (mkB (p.2.2.drop (ind p.2.2))).size ≤ 9223372036854775807 := by
              have : (zcF (ind p.2.2 : Int) ++ mkB (p.2.2.drop (ind p.2.2))).size = (mkB p.2.2).size := by rw [znQ]
              rw [ByteArray.size_append, za7 p.2.2] at this
              omega
            refine zcD hsz (zcD (by rw [List.length_map]; omega) ?_)
            have es : (mkZ (w ++ [r])).set (((mkZ (w ++ [r])).length : Int) - 1 : Int).toNat (r.map mkB ++ [mkB p.2.2]) = mkZ (w ++ [r ++ [p.2.2]]) := by
              rw [show (((mkZ (w ++ [r])).length : Int) - 1 : Int).toNat = (mkZ w).length by rw [hlen, zbL]; omega, zeY]
              show ((mkZ w ++ [r.map mkB]).set _ _) = _
              rw [zjk, zeY]
              show _ = _ ++ [(r ++ [p.2.2]).map mkB]
              rw [List.map_append]; rfl
            rw [es]
            refine ih _ s' (by rw [List.length_append, List.length_singleton]; omega) (fun r' h => ?_) (fun _ => by simp)
            rcases List.mem_append.1 h with h | h
            · have := hzr r' (by simp [h]); omega
            · rw [List.mem_singleton] at h; subst h; rw [List.length_append, List.length_singleton]; omega
          by_cases h3 : (p.1 : Int) = s
          · rw [if_neg (by simpa using h3)]
            refine zaT (by rw [hv3, h3]; exact bne_self_eq_false _) ?_
            refine tail out s (hs (by omega)) (by omega) (fun r h => by have := hr r h; omega) (by omega)
          · rw [if_pos h3]
            refine zaY (by rw [hv3]; exact bne_iff_ne.2 h3) (zcD (by rw [zbL]; omega) ?_)
            have h5 := tail (out ++ [[]]) (p.1 : Int) (by simp) (by rw [List.length_append, List.length_singleton]; omega) (fun r h => by
              rcases List.mem_append.1 h with h | h
              · exact hr r h
              · rw [List.mem_singleton] at h; subst h; exact Nat.zero_le _) (by omega)
            have h6 : ze0 (out ++ [[]]) = [] := by unfold ze0; rw [List.getLastD_concat]
            rw [List.dropLast_concat, h6, zeY] at h5
            refine Eq.trans ?_ h5
            rw [hv3]; rfl
/-! ### What is cut out -/
def zhU (from_ to_ : Nat) : Nat → Row → Row
  | _, [] => []
  | at_, x :: r => if from_ ≤ at_ ∧ at_ < to_ then x :: zhU from_ to_ (at_ + 1) r else zhU from_ to_ (at_ + 1) r
def zll (from_ to_ : Nat) : Nat → List Row → List Row
  | _, [] => []
  | at_, r :: z => (if zhU from_ to_ at_ r = [] then [] else [zhU from_ to_ at_ r]) ++ zll from_ to_ (at_ + r.length) z
theorem zip : ∀ (r : Row) (j : Nat), (zft j r).length = r.length
  | [], j => rfl
  | x :: r, j => by show (zft (j + 1) r).length + 1 = _; rw [zip r]; rfl
theorem zin : ∀ (z : List Row) (k : Nat), (ze2 k z).length = tot z
  | [], k => rfl
  | r :: z, k => by
    show ((zft 0 r).map _ ++ ze2 (k + 1) z).length = _
    rw [List.length_append, List.length_map, zip, zin z, zcK]
theorem zjm (from_ to_ k : Nat) (out : List Row) : ∀ (r : Row) (j at_ : Nat) (acc : Row) (L : List LnE), zeX from_ to_ at_ ((zft j r).map (fun p => (k, p)) ++ L) (out ++ [acc], (k : Int)) = zeX from_ to_ (at_ + r.length) L (out ++ [acc ++ zhU from_ to_ at_ r], (k : Int))
  | [], j, at_, acc, L => by
    show zeX from_ to_ at_ L _ = zeX from_ to_ at_ L (out ++ [acc ++ []], _)
    rw [List.append_nil]
  | x :: r, j, at_, acc, L => by
    show zeX from_ to_ at_ ((k, j, x) :: ((zft (j + 1) r).map (fun p => (k, p)) ++ L)) _ = _
    rw [zeX, zhU, List.length_cons, show at_ + (r.length + 1) = at_ + 1 + r.length by omega]
    by_cases h : from_ ≤ at_ ∧ at_ < to_
    · rw [if_neg (by omega), if_neg (by simp), if_pos h]
      show zeX from_ to_ (at_ + 1) _ ((out ++ [acc]).dropLast ++ [ze0 (out ++ [acc]) ++ [x]], (k : Int)) = _
      have h6 : ze0 (out ++ [acc]) = acc := by unfold ze0; rw [List.getLastD_concat]
      rw [List.dropLast_concat, h6, zjm from_ to_ k out r (j + 1) (at_ + 1) (acc ++ [x]) L, List.append_assoc]; rfl
    · rw [if_pos (by omega), if_neg h, zjm from_ to_ k out r (j + 1) (at_ + 1) acc L]
theorem zjY (from_ to_ k : Nat) (out : List Row) (s : Int) (hs : s ≠ (k : Int)) : ∀ (r : Row) (j at_ : Nat) (L : List LnE), zeX from_ to_ at_ ((zft j r).map (fun p => (k, p)) ++ L) (out, s) =
    if zhU from_ to_ at_ r = [] then zeX from_ to_ (at_ + r.length) L (out, s) else zeX from_ to_ (at_ + r.length) L (out ++ [zhU from_ to_ at_ r], (k : Int))
  | [], j, at_, L => by rw [show zhU from_ to_ at_ [] = [] from rfl, if_pos rfl]; rfl
  | x :: r, j, at_, L => by
    show zeX from_ to_ at_ ((k, j, x) :: ((zft (j + 1) r).map (fun p => (k, p)) ++ L)) _ = _
    rw [zeX, zhU, List.length_cons, show at_ + (r.length + 1) = at_ + 1 + r.length by omega]
    by_cases h : from_ ≤ at_ ∧ at_ < to_
    · rw [if_neg (by omega), if_pos (by show (k : Int) ≠ s; omega), if_pos h, if_neg (by simp)]
      exact zjm from_ to_ k out r (j + 1) (at_ + 1) [x] L
    · rw [if_pos (by omega), if_neg h, zjY from_ to_ k out s hs r (j + 1) (at_ + 1) L]
theorem zga (from_ to_ : Nat) : ∀ (z : List Row) (k at_ : Nat) (out : List Row) (s : Int), s < (k : Int) → (zeX from_ to_ at_ (ze2 k z) (out, s)).1 = out ++ zll from_ to_ at_ z
  | [], k, at_, out, s, hs => (List.append_nil _).symm
  | r :: z, k, at_, out, s, hs => by
    show (zeX from_ to_ at_ ((zft 0 r).map (fun p => (k, p)) ++ ze2 (k + 1) z) (out, s)).1 = _
    rw [zjY from_ to_ k out s (by omega), zll]
    split
    · rw [zga from_ to_ z (k + 1) _ out s (by omega)]; rfl
    · rw [zga from_ to_ z (k + 1) _ _ (k : Int) (by omega), List.append_assoc]
theorem zkl (to_ : Nat) : ∀ (r : Row) (at_ : Nat), at_ + r.length ≤ to_ → zhU 0 to_ at_ r = r
  | [], at_, h => rfl
  | x :: r, at_, h => by
    rw [List.length_cons] at h
    rw [zhU, if_pos ⟨Nat.zero_le _, by omega⟩, zkl to_ r (at_ + 1) (by omega)]
theorem zg8 (to_ : Nat) : ∀ (z : List Row) (at_ : Nat), (∀ r ∈ z, r ≠ []) → at_ + tot z ≤ to_ → zll 0 to_ at_ z = z
  | [], at_, hne, h => rfl
  | r :: z, at_, hne, h => by
    rw [zcK] at h
    rw [zll, zkl to_ r at_ (by omega), if_neg (hne r (by simp)), zg8 to_ z (at_ + r.length) (fun y hy => hne y (by simp [hy])) (by omega)]
    rfl
/-! ### A poem -/
structure OkP (p : Gpoem_Poem) (t : List UInt8) (z : List Row) : Prop extends GoodP t z where
  title : p.told_title = mkB t
  vok : VOk p.told_lines z
  sp : p.told_stanzas = zhc 0 z
  most : tot z ≤ 512
theorem OkP.len {p : Gpoem_Poem} {t : List UInt8} {z : List Row} (h : OkP p t z) : p.told_lines.length = tot z := by
  have := congrArg List.length h.vok
  rw [List.length_map, List.length_map, zin] at this
  exact this
theorem PInv.ok {st : RS} (h : PInv st) (src : ByteArray) : OkP (⟨mkB st.t, st.vs, zhc 0 st.stz, src⟩ : Gpoem_Poem) st.t st.stz := ⟨h.good, rfl, h.vok, rfl, by have := h.tot; have := h.most; omega⟩
theorem zj9 : ∀ (r : Row) (j : Nat) (p : Nat × List UInt8), p ∈ zft j r → p.2 ∈ r
  | [], j, p, h => by cases h
  | x :: r, j, p, h => by
    rcases List.mem_cons.1 h with rfl | h
    · simp
    · exact List.mem_cons_of_mem _ (zj9 r _ p h)
theorem zj8 : ∀ (z : List Row) (k : Nat) (p : LnE), p ∈ ze2 k z → ∃ r ∈ z, p.2.2 ∈ r
  | [], k, p, h => by cases h
  | r :: z, k, p, h => by
    rcases List.mem_append.1 (show p ∈ (zft 0 r).map (fun p => (k, p)) ++ ze2 (k + 1) z from h) with h | h
    · obtain ⟨q, hq, rfl⟩ := List.mem_map.1 h
      exact ⟨r, by simp, zj9 r 0 q hq⟩
    · obtain ⟨r', h1, h2⟩ := zj8 z _ p h
      exact ⟨r', by simp [h1], h2⟩
theorem znN {p : Gpoem_Poem} {t : List UInt8} {z : List Row} (h : OkP p t z) (from_ to_ : Nat) : zb9 p (from_ : Int) (to_ : Int) = some (mkZ (zll from_ to_ 0 z)) := by
  unfold zb9
  have hm := h.most
  refine zcC (za9 rfl (za9 (znW p (by rw [h.len]; omega)) (zcC ?_)))
  have := zmd from_ to_ (fun (out4 : List (List ByteArray)) (stanza3 : Int) => some out4) (ze2 0 z) p.told_lines 0 [] (-1) h.vok (fun q hq => by
    obtain ⟨r, h1, h2⟩ := zj8 z 0 q hq
    exact (h.ln r h1 _ h2).le) (by rw [zin]; omega) (Nat.zero_le _) (fun r h => by cases h) (fun h => absurd rfl h)
  refine this.trans ?_
  rw [zga from_ to_ z 0 0 [] (-1) (by omega)]
  rfl
theorem znH : ∀ (r : Row), (∀ x ∈ r, x.length ≤ 1024) → wtR r ≤ r.length * 1025
  | [], h => Nat.zero_le _
  | x :: r, h => by
    have h1 := znH r fun y hy => h y (by simp [hy])
    have h2 := h x (by simp)
    rw [zfP, List.length_cons]; omega
theorem zhX : ∀ (z : List Row), (∀ r ∈ z, ∀ x ∈ r, x.length ≤ 1024) → wtZ z ≤ z.length + tot z * 1025
  | [], h => Nat.zero_le _
  | r :: z, h => by
    have h1 := zhX z fun y hy => h y (by simp [hy])
    have h2 := znH r (h r (by simp))
    rw [zgP, zcK, List.length_cons]; omega
theorem OkP.wt {p : Gpoem_Poem} {t : List UInt8} {z : List Row} (h : OkP p t z) : t.length + 3 + wtZ z ≤ 1000000 := by
  have h1 := zhX z fun r hr x hx => (h.ln r hr x hx).le
  have h2 := zfu z h.ne
  have h3 := h.most
  have h4 := h.tL
  omega
theorem OkP.full {p : Gpoem_Poem} {t : List UInt8} {z : List Row} (h : OkP p t z) : zb9 p 0 (p.told_lines.length : Int) = some (mkZ z) := by
  have := znN h 0 p.told_lines.length
  rw [zg8 _ z 0 h.ne (by rw [h.len]; omega)] at this
  exact this
theorem OkP.print {p : Gpoem_Poem} {t : List UInt8} {z : List Row} (h : OkP p t z) : zc8 p = some (mkB (prT t z)) := by
  unfold zc8
  have := h.wt
  refine za9 h.full (za9 ?_ rfl)
  rw [h.title]
  exact zj4 t z h.ne (by omega)
end Go.Proofs.YtgfkogafkhbgnaaDoor
namespace Go.Proofs.YtgfkogafkhbgnaaDoor
open Go.RowKit Go.Lib
set_option linter.unusedVariables false
set_option linter.unusedSimpArgs false
theorem zhZ : zdW = some true := by decide +kernel
/-! ### The same -/
def k3 (v : Gapi_Verse) : ByteArray × Int × Int := (v.Text, v.Indent, v.Stanza)
theorem zh7 (a b : Nat) : ∀ (L L' : List LnE) (i : Nat) (x : List Row × Int), L.map (fun p => (p.1, p.2.2)) = L'.map (fun p => (p.1, p.2.2)) → zeX a b i L x = zeX a b i L' x
  | [], [], i, x, h => rfl
  | [], q :: L', i, x, h => by cases h
  | p :: L, [], i, x, h => by cases h
  | p :: L, q :: L', i, x, h => by
    rw [List.map_cons, List.map_cons] at h
    obtain ⟨h1, h2⟩ := List.cons.inj h
    have e1 : p.1 = q.1 := (Prod.mk.inj h1).1
    have e2 : p.2.2 = q.2.2 := (Prod.mk.inj h1).2
    unfold zeX
    rw [e1, e2]
    simp only [zh7 a b L L' (i + 1) _ h2]
theorem zoa {p q : LnE} (h : (zlJ p).1 = (zlJ q).1 ∧ (zlJ p).2.1 = (zlJ q).2.1 ∧ (zlJ p).2.2.1 = (zlJ q).2.2.1) : (p.1, p.2.2) = (q.1, q.2.2) := by
  obtain ⟨h1, h2, h3⟩ := h
  have e1 := zfm h1
  have e2 : (ind p.2.2 : Int) = (ind q.2.2 : Int) := h2
  have e3 : (p.1 : Int) = (q.1 : Int) := h3
  have e4 : p.2.2 = q.2.2 := by
    rw [← zg0 p.2.2, ← zg0 q.2.2, e1, show ind p.2.2 = ind q.2.2 by omega]
  rw [e4, show p.1 = q.1 by omega]
theorem zi2 : ∀ (L L' : List LnE) (vs vs' : List Gapi_Verse), vs.map zob = L.map zlJ → vs'.map zob = L'.map zlJ → vs.map k3 = vs'.map k3 → L.map (fun p => (p.1, p.2.2)) = L'.map (fun p => (p.1, p.2.2))
  | [], [], vs, vs', h1, h2, h3 => rfl
  | [], q :: L', vs, vs', h1, h2, h3 => by
    have e1 := congrArg List.length h1; have e2 := congrArg List.length h2; have e3 := congrArg List.length h3
    simp at e1 e2 e3; rw [e1] at e3; simp at e3; rw [← e3] at e2; simp at e2
  | p :: L, [], vs, vs', h1, h2, h3 => by
    have e1 := congrArg List.length h1; have e2 := congrArg List.length h2; have e3 := congrArg List.length h3
    simp at e1 e2 e3; rw [e2] at e3; simp at e3; rw [e3] at e1; simp at e1
  | p :: L, q :: L', vs, vs', h1, h2, h3 => by
    cases vs with
    | nil => cases h1
    | cons v vs =>
      cases vs' with
      | nil => cases h2
      | cons v' vs' =>
        rw [List.map_cons, List.map_cons] at h1 h2 h3
        obtain ⟨a1, b1⟩ := List.cons.inj h1
        obtain ⟨a2, b2⟩ := List.cons.inj h2
        obtain ⟨a3, b3⟩ := List.cons.inj h3
        rw [List.map_cons, List.map_cons, zi2 L L' vs vs' b1 b2 b3]
        congr 1
        refine zoa ⟨?_, ?_, ?_⟩
        · rw [← a1, ← a2]; exact congrArg (fun x => x.1) a3
        · rw [← a1, ← a2]; exact congrArg (fun x => x.2.1) a3
        · rw [← a1, ← a2]; exact congrArg (fun x => x.2.2) a3
theorem zl0 {z z' : List Row} (h1 : ∀ r ∈ z, r ≠ []) (h2 : ∀ r ∈ z', r ≠ []) (h : (ze2 0 z).map (fun p => (p.1, p.2.2)) = (ze2 0 z').map (fun p => (p.1, p.2.2))) : z = z' := by
  have e := zh7 0 (tot z + tot z') _ _ 0 ([], -1) h
  have a := zga 0 (tot z + tot z') z 0 0 [] (-1) (by omega)
  have b := zga 0 (tot z + tot z') z' 0 0 [] (-1) (by omega)
  rw [zg8 _ z 0 h1 (by omega)] at a
  rw [zg8 _ z' 0 h2 (by omega)] at b
  rw [e] at a
  have : [] ++ z = [] ++ z' := a.symm.trans b
  simpa using this
theorem zpC {p q : Gpoem_Poem} {t t' : List UInt8} {z : List Row} (hp : OkP p t z) (hq : OkP q t' z) : p.told_lines.map k3 = q.told_lines.map k3 := by
  have h := hp.vok.trans hq.vok.symm
  have := congrArg (List.map fun x : ByteArray × Int × Int × Int => (x.1, x.2.1, x.2.2.1)) h
  rw [List.map_map, List.map_map] at this
  exact this
instance {a b : List (ByteArray × Int × Int)} : Decidable (a = b) := inferInstance
theorem zmb (p q : Gpoem_Poem) (hl : p.told_lines.length = q.told_lines.length) (hb : p.told_lines.length ≤ 1000) : ∀ (n i : Nat), i ≤ p.told_lines.length → p.told_lines.length - i < n →
    za8 (fun _ => none) (zct p q (some true)) n (i : Int) = some (decide ((p.told_lines.drop i).map k3 = (q.told_lines.drop i).map k3)) := by
  intro n
  induction n with
  | zero => intro i h1 h2; omega
  | succ n ih =>
    intro i hi hn
    rw [zbt]
    obtain ⟨ag, hag⟩ : ∃ ag, ag = za8 (fun _ => none) (zct p q (some true)) n := ⟨_, rfl⟩
    rw [← hag] at ih ⊢
    unfold zct
    rcases Nat.lt_or_ge i p.told_lines.length with h | h
    · have h' : i < q.told_lines.length := by omega
      have hd := List.drop_eq_getElem_cons h
      have hd' := List.drop_eq_getElem_cons h'
      rw [hd, hd', List.map_cons, List.map_cons]
      refine zaY (decide_eq_true (by omega)) (za9 (zbV (List.getElem?_eq_getElem h)) (za9 (zbV (List.getElem?_eq_getElem h')) ?_))
      generalize p.told_lines[i] = v
      generalize q.told_lines[i] = v'
      by_cases h1 : v.Text = v'.Text
      · refine zaT (by rw [decide_eq_true h1]; rfl) ?_
        by_cases h2 : v.Indent = v'.Indent
        · refine zaT (by rw [h2]; exact bne_self_eq_false _) ?_
          by_cases h3 : v.Stanza = v'.Stanza
          · refine zaT (by rw [h3]; exact bne_self_eq_false _) (zcD ⟨by omega, by omega⟩ ?_)
            rw [show (i : Int) + 1 = ((i + 1 : Nat) : Int) by omega, ih (i + 1) (by omega) (by omega)]
            have : k3 v = k3 v' := by unfold k3; rw [h1, h2, h3]
            rw [this]
            congr 1
            exact (decide_eq_decide.2 ⟨fun e => by rw [e], fun e => (List.cons.inj e).2⟩)
          · refine zaY (bne_iff_ne.2 h3) ?_
            rw [decide_eq_false (fun e => h3 (congrArg (fun x : ByteArray × Int × Int => x.2.2) (List.cons.inj e).1))]
        · refine zaY (bne_iff_ne.2 h2) ?_
          rw [decide_eq_false (fun e => h2 (congrArg (fun x : ByteArray × Int × Int => x.2.1) (List.cons.inj e).1))]
      · refine zaY (by rw [decide_eq_false h1]; rfl) ?_
        rw [decide_eq_false (fun e => h1 (congrArg (fun x : ByteArray × Int × Int => x.1) (List.cons.inj e).1))]
    · rw [List.drop_eq_nil_of_le h, List.drop_eq_nil_of_le (by omega)]
      exact zaT (decide_eq_false (by omega)) rfl
/-- What Same answers. -/
theorem zoN {p q : Gpoem_Poem} {t t' : List UInt8} {z z' : List Row} (hp : OkP p t z) (hq : OkP q t' z') : zcV p q = some (decide (t = t' ∧ z = z')) := by
  unfold zcV
  have m1 := hp.most
  have m2 := hq.most
  have l1 := hp.len
  have l2 := hq.len
  by_cases ht : t = t'
  · refine zaT (by rw [hp.title, hq.title, ht]; simp) ?_
    by_cases hl : p.told_lines.length = q.told_lines.length
    · refine zaT (by rw [hl]; exact bne_self_eq_false _) (zcC ?_)
      have := zmb p q hl (by omega) zb0 0 (Nat.zero_le _) (by unfold zb0; omega)
      rw [List.drop_zero, List.drop_zero] at this
      refine this.trans ?_
      congr 1
      refine decide_eq_decide.2 ⟨fun e => ⟨ht, zl0 hp.ne hq.ne (zi2 _ _ _ _ hp.vok hq.vok e)⟩, fun e => ?_⟩
      have hz := e.2
      subst hz
      exact zpC hp hq
    · refine zaY (bne_iff_ne.2 (by omega)) ?_
      rw [decide_eq_false (fun e => hl (by rw [l1, l2, e.2]))]
  · refine zaY (by rw [hp.title, hq.title, decide_eq_false (fun e => ht (zfm e))]; rfl) ?_
    rw [decide_eq_false (fun e => ht e.1)]
end Go.Proofs.YtgfkogafkhbgnaaDoor
namespace Go.Proofs.YtgfkogafkhbgnaaDoor
open Go.RowKit Go.Lib
set_option linter.unusedVariables false
set_option linter.unusedSimpArgs false
theorem eqV (v : Gapi_Verse) : zcN v v = true := (zfK v v).2 rfl
theorem eqS (v : Gapi_Span) : zdR v v = true := (zf1 v v).2 rfl
theorem zn9 {p : Gpoem_Poem} {i : Nat} {v : Gapi_Verse} (h : p.told_lines[i]? = some v) : zca p (i : Int) = some (v, 0) := by
  have hl := (List.getElem?_eq_some_iff.1 h).1
  unfold zca
  exact zaT (decide_eq_false (by omega)) (zaT (decide_eq_false (by omega)) (za9 (zbV h) rfl))
theorem zmw (p : Gpoem_Poem) (hb : p.told_lines.length ≤ 1000) (e d : Int → Option Bool) : ∀ (n i : Nat), i + n = p.told_lines.length → zfj d (zea p p.told_lines e) (ziP i (p.told_lines.drop i)) (i : Int) = d (p.told_lines.length : Int)
  | 0, i, h => by
    rw [List.drop_eq_nil_of_le (by omega)]
    show d (i : Int) = _
    rw [show i = p.told_lines.length by omega]
  | n + 1, i, h => by
    have hl : i < p.told_lines.length := by omega
    have hd := List.drop_eq_getElem_cons hl
    have hg : p.told_lines[i]? = some p.told_lines[i] := List.getElem?_eq_getElem hl
    rw [hd]
    show zfj d _ (((i : Int), p.told_lines[i]) :: ziP (i + 1) (p.told_lines.drop (i + 1))) _ = _
    rw [zib]
    have ih := zmw p hb e d n (i + 1) (by omega)
    obtain ⟨ag, hag⟩ : ∃ ag, ag = zfj d (zea p p.told_lines e) (ziP (i + 1) (p.told_lines.drop (i + 1))) := ⟨_, rfl⟩
    rw [← hag] at ih ⊢
    unfold zea
    refine zaT (decide_eq_false (by omega)) (zaT (bne_self_eq_false _) (za9 (zbV hg) (zaT (by rw [eqV]; rfl) (za9 (zn9 hg) (zaT rfl (zaT (by show (!(zcN p.told_lines[i] p.told_lines[i])) = false; rw [eqV]; rfl) (zcD ⟨by omega, by omega⟩ ?_)))))))
    rw [show (i : Int) + 1 = ((i + 1 : Nat) : Int) by omega]
    exact ih
theorem zl3 : ∀ (z : List Row) (n i : Nat) (r : Row), z[i]? = some r → (zhc n z)[i]? = some ⟨((n + tot (z.take i) : Nat) : Int), ((n + tot (z.take i) + r.length : Nat) : Int)⟩
  | [], n, i, r, h => by simp at h
  | y :: z, n, 0, r, h => by
    have : y = r := by simpa using h
    subst this; rfl
  | y :: z, n, i + 1, r, h => by
    show (zhc (n + y.length) z)[i]? = _
    rw [zl3 z (n + y.length) i r (by simpa using h), List.take_succ_cons, zcK, show n + y.length + tot (z.take i) = n + (y.length + tot (z.take i)) by omega]
theorem zoR {p : Gpoem_Poem} {t : List UInt8} {z : List Row} (h : OkP p t z) (J : Option Bool) : ∀ (n i : Nat), i ≤ z.length → z.length - i < n → za8 (fun _ _ => none) (zdX p (⟨mkB t, mkZ z⟩ : Gref17_Poem) J) n (tot (z.take i) : Int) (i : Int) = J := by
  intro n
  induction n with
  | zero => intro i h1 h2; omega
  | succ n ih =>
    intro i hi hn
    rw [zbt]
    obtain ⟨ag, hag⟩ : ∃ ag, ag = za8 (fun _ _ => none) (zdX p (⟨mkB t, mkZ z⟩ : Gref17_Poem) J) n := ⟨_, rfl⟩
    rw [← hag] at ih ⊢
    unfold zdX
    have hm := h.most
    have hzl := zfu z h.ne
    rcases Nat.lt_or_ge i z.length with hl | hl
    · have hz : z[i]? = some z[i] := List.getElem?_eq_getElem hl
      have hg : zdh (mkZ z) (i : Int) = some (z[i].map mkB) := zbV (by unfold mkZ; rw [List.getElem?_map, hz]; rfl)
      have h1 := zjg z i z[i] hz
      have h2 := zgD z (i + 1)
      have hst : zbQ p (i : Int) = some ((⟨(tot (z.take i) : Int), (tot (z.take i) : Int) + ((z[i].map mkB).length : Int)⟩ : Gapi_Span), 0) := by
        unfold zbQ
        refine zaT (decide_eq_false (by omega)) (zaT (decide_eq_false (by rw [h.sp, ze6]; omega)) (za9 (zbV (by rw [h.sp]; exact zl3 z 0 i z[i] hz)) ?_))
        rw [Nat.zero_add, List.length_map]; rfl
      refine zaY (decide_eq_true (by show (i : Int) < ((mkZ z).length : Int); rw [zbL]; omega)) (za9 hg (za9 hst (zaT rfl (zcD (by rw [List.length_map]; exact ⟨by omega, by omega⟩) (zaT (by rw [eqS]; rfl) (zcD (by rw [List.length_map]; exact ⟨by omega, by omega⟩) (zcD ⟨by omega, by omega⟩ ?_)))))))
      rw [List.length_map, show (tot (z.take i) : Int) + (z[i].length : Int) = (tot (z.take (i + 1)) : Int) by omega, show (i : Int) + 1 = ((i + 1 : Nat) : Int) by omega]
      exact ih (i + 1) (by omega) (by omega)
    · exact zaT (decide_eq_false (by show ¬ (i : Int) < ((mkZ z).length : Int); rw [zbL]; omega)) rfl
theorem zk3 {R : Type} {F : (Int → Option R) → Int → Option R} {bot : Int → Option R} {J : Option R} (h0 : ∀ ag, F ag 0 = ag 1) (h1 : ∀ ag, F ag 1 = ag 2) (h2 : ∀ ag, F ag 2 = J) : za8 bot F zb0 0 = J := by
  obtain ⟨n, hn, _⟩ := zkN 3 (by decide)
  rw [hn, show n + 3 = n + 2 + 1 from rfl, zbt, h0, show n + 2 = n + 1 + 1 from rfl, zbt, h1, zbt, h2]
/-- All that is told of a poem. -/
theorem zqd {p : Gpoem_Poem} {t : List UInt8} {z : List Row} (h : OkP p t z) : zfd p p.source (⟨mkB t, mkZ z⟩ : Gref17_Poem) p.told_lines = some true := by
  unfold zfd
  have hm := h.most
  have hl := h.len
  have hw := h.wt
  have hzl := zfu z h.ne
  refine za9 rfl ?_
  refine zaT (by simp) ?_
  refine za9 rfl ?_
  refine zaT (by rw [h.title]; simp) ?_
  refine za9 rfl ?_
  refine zaT (bne_self_eq_false _) ?_
  refine za9 rfl ?_
  refine zaT ?_ ?_
  · show (((p.told_stanzas.length : Int) : Int) != ((mkZ z).length : Int)) = false
    rw [h.sp, ze6, zbL]; exact bne_self_eq_false _
  refine za9 h.print ?_
  refine za9 (zfF t z h.ne (by omega)) ?_
  refine zaT (by simp) ?_
  refine zcC ?_
  refine za9 rfl ?_
  refine za9 (znW p (by omega)) ?_
  refine zcC (zcC ?_)
  · have := zmw p (by omega) (fun (i5 : Int) => some false) (fun (i4 : Int) => (zbO (fun (j2 : Option Bool) => za8 (fun _ _ => none) (zdX p (⟨mkB t, mkZ z⟩ : Gref17_Poem) j2) zb0 0 0) (zbO (fun (j3 : Option Bool) => za8 (fun _ => none) (zdc p p.told_lines j3) zb0 0) (zbO (fun (j4 : Option Bool) => za8 (fun _ => none) (zdb p (⟨mkB t, mkZ z⟩ : Gref17_Poem) j4) zb0 0) (some ((i4 : Int) == (p.told_lines.length : Int))))))) p.told_lines.length 0 (Nat.zero_add _)
    rw [List.drop_zero] at this
    refine this.trans ?_
    have h2 := zoR h (zbO (fun (j3 : Option Bool) => za8 (fun _ => none) (zdc p p.told_lines j3) zb0 0) (zbO (fun (j4 : Option Bool) => za8 (fun _ => none) (zdb p (⟨mkB t, mkZ z⟩ : Gref17_Poem) j4) zb0 0) (some (((p.told_lines.length : Int) : Int) == (p.told_lines.length : Int))))) zb0 0 (Nat.zero_le _) (by unfold zb0; omega)
    refine zcC (h2.trans (zcC ?_))
    have no1 : zca p (-1) = some ((⟨ByteArray.empty, 0, 0, 0, 0, 0⟩ : Gapi_Verse), 5) := by
      unfold zca; exact zaY rfl rfl
    have no2 : zca p (p.told_lines.length : Int) = some ((⟨ByteArray.empty, 0, 0, 0, 0, 0⟩ : Gapi_Verse), 5) := by
      unfold zca; exact zaT (decide_eq_false (by omega)) (zaY (decide_eq_true (by omega)) rfl)
    have no3 : zbQ p (-1) = some ((⟨0, 0⟩ : Gapi_Span), 5) := by
      unfold zbQ; exact zaY rfl rfl
    have no4 : zbQ p ((mkZ z).length : Int) = some ((⟨0, 0⟩ : Gapi_Span), 5) := by
      unfold zbQ; exact zaT (decide_eq_false (by omega)) (zaY (decide_eq_true (by rw [h.sp, ze6, zbL]; omega)) rfl)
    have l3 : ∀ J : Option Bool, za8 (fun _ => none) (zdc p p.told_lines J) zb0 0 = J := fun J => by
      refine zk3 (fun ag => ?_) (fun ag => ?_) (fun ag => ?_)
      · unfold zdc
        exact zaY (by simp) (za9 rfl (za9 no1 (zaT (by rw [eqV]; rfl) (zaT rfl (zcD ⟨by decide, by decide⟩ rfl)))))
      · unfold zdc
        exact zaY (by simp) (za9 rfl (za9 no2 (zaT (by rw [eqV]; rfl) (zaT rfl (zcD ⟨by decide, by decide⟩ rfl)))))
      · unfold zdc
        exact zaT (by simp) rfl
    have l4 : ∀ J : Option Bool, za8 (fun _ => none) (zdb p (⟨mkB t, mkZ z⟩ : Gref17_Poem) J) zb0 0 = J := fun J => by
      refine zk3 (fun ag => ?_) (fun ag => ?_) (fun ag => ?_)
      · unfold zdb
        exact zaY (by simp) (za9 rfl (za9 no3 (zaT (by rw [eqS]; rfl) (zaT rfl (zcD ⟨by decide, by decide⟩ rfl)))))
      · unfold zdb
        exact zaY (by simp) (za9 rfl (za9 no4 (zaT (by rw [eqS]; rfl) (zaT rfl (zcD ⟨by decide, by decide⟩ rfl)))))
      · unfold zdb
        exact zaT (by simp) rfl
    refine (l3 _).trans (zcC ((l4 _).trans ?_))
    exact congrArg some (beq_self_eq_true _)
/-- A poem that is made. -/
theorem zms {t : List UInt8} {z : List Row} (h : GoodP t z) (hn : tot z ≤ 512) (hl : (prT t z).length ≤ 65536) : ∃ p, zcx (mkB t) (mkZ z) = some (some p, 0) ∧ OkP p t z ∧ p.source = mkB (prT t z) ∧
    zcU (mkB (prT t z)) = some (some p, (⟨0, 0⟩ : Gapi_Spot)) ∧ zcZ (mkB (prT t z)) = some ((⟨mkB t, mkZ z⟩ : Gref17_Poem), p.told_lines, (⟨0, 0⟩ : Gapi_Spot)) := by
  obtain ⟨st, h1, h2, h3⟩ := zna h hn hl
  obtain ⟨hI, _⟩ := zn5 h1
  have hwt := zhX z fun r hr x hx => (h.ln r hr x hx).le
  have h4 := zfu z h.ne
  have h5 := h.tL
  have hr := zmf (prT t z)
  have hrr := zia (prT t z)
  rw [h1] at hr hrr
  have hok := hI.ok (mkB (prT t z))
  rw [h2, h3] at hok
  refine ⟨(⟨mkB st.t, st.vs, zhc 0 st.stz, mkB (prT t z)⟩ : Gpoem_Poem), ?_, by rw [h2, h3]; exact hok, rfl, hr, ?_⟩
  · rw [zmr t z h.ne (by omega), if_neg (by omega), hr]; rfl
  · rw [hrr]
    show some ((⟨mkB st.t, mkZ st.stz⟩ : Gref17_Poem), st.vs, _) = _
    rw [h2, h3]
theorem zlV {p : Gpoem_Poem} {t : List UInt8} {z : List Row} (h : OkP p t z) (hs : p.source = mkB (prT t z)) (hr : zcZ (mkB (prT t z)) = some ((⟨mkB t, mkZ z⟩ : Gref17_Poem), p.told_lines, (⟨0, 0⟩ : Gapi_Spot))) :
    zdd (some p) 0 (⟨mkB t, mkZ z⟩ : Gref17_Poem) 0 = some true := by
  show zeA p 0 (⟨mkB t, mkZ z⟩ : Gref17_Poem) 0 = some true
  unfold zeA
  have hw := h.wt
  refine zaT rfl (za9 (zfF t z h.ne (by omega)) (za9 hr (zaY rfl (za9 ?_ rfl))))
  rw [← hs]
  exact zqd h
theorem zmR (e : Int) (he : e ≠ 0) (w : Gref17_Poem) : zdd none e w e = some true := by
  show zdI e w e = some true
  unfold zdI
  exact zaY (bne_iff_ne.2 he) (congrArg some (beq_self_eq_true _))
/-- Program and reference agree on what comes of a poem. -/
def Agree (x : Option (Option Gpoem_Poem × Int)) (y : Option (Gref17_Poem × Int)) : Prop := ∃ m e w, x = some (m, e) ∧ y = some (w, e) ∧ zdd m e w e = some true
def noP : Gref17_Poem := ⟨ByteArray.empty, ([] : List (List ByteArray))⟩
theorem zeW (e : Int) (he : e ≠ 0) : Agree (some (none, e)) (some (noP, e)) := ⟨none, e, noP, rfl, rfl, zmR e he _⟩
theorem zht {t : List UInt8} {z : List Row} (h : GoodP t z) (hn : tot z ≤ 512) : Agree (zcx (mkB t) (mkZ z)) (if 65536 < (prT t z).length then some (noP, 3) else some ((⟨mkB t, mkZ z⟩ : Gref17_Poem), 0)) := by
  have hwt := zhX z fun r hr x hx => (h.ln r hr x hx).le
  have h4 := zfu z h.ne
  have h5 := h.tL
  by_cases hl : 65536 < (prT t z).length
  · rw [if_pos hl, zmr t z h.ne (by omega), if_pos (.inr hl)]
    exact zeW 3 (by decide)
  · rw [if_neg hl]
    obtain ⟨p, h1, h2, h3, h6, h7⟩ := zms h hn (by omega)
    exact ⟨some p, 0, _, h1, rfl, zlV h2 h3 h7⟩
end Go.Proofs.YtgfkogafkhbgnaaDoor
namespace Go.Proofs.YtgfkogafkhbgnaaDoor
open Go.RowKit Go.Lib
set_option linter.unusedVariables false
set_option linter.unusedSimpArgs false
/-! ### Cutting -/
theorem zjD (a b : Nat) : ∀ (r : Row) (i : Nat), ∀ x ∈ zhU a b i r, x ∈ r
  | [], i, x, h => by cases h
  | y :: r, i, x, h => by
    rw [zhU] at h
    split at h
    · rcases List.mem_cons.1 h with rfl | h
      · simp
      · exact List.mem_cons_of_mem _ (zjD a b r _ x h)
    · exact List.mem_cons_of_mem _ (zjD a b r _ x h)
theorem zlm (a b : Nat) : ∀ (r : Row) (i : Nat), (zhU a b i r).length ≤ r.length
  | [], i => Nat.le_refl _
  | y :: r, i => by
    rw [zhU, List.length_cons]
    have := zlm a b r (i + 1)
    split
    · rw [List.length_cons]; omega
    · omega
theorem zhT (a b : Nat) : ∀ (z : List Row) (i : Nat), (∀ r ∈ zll a b i z, r ≠ [] ∧ ∃ r' ∈ z, ∀ x ∈ r, x ∈ r') ∧ tot (zll a b i z) ≤ tot z
  | [], i => ⟨(fun r h => by cases h), Nat.le_refl _⟩
  | y :: z, i => by
    obtain ⟨h1, h2⟩ := zhT a b z (i + y.length)
    have hl := zlm a b y i
    rw [zll, zgE, zcK]
    constructor
    · intro r hr
      rcases List.mem_append.1 hr with hr | hr
      · split at hr
        · cases hr
        · rename_i hne
          rw [List.mem_singleton] at hr
          subst hr
          exact ⟨hne, y, by simp, zjD a b y i⟩
      · obtain ⟨h3, r', h4, h5⟩ := h1 r hr
        exact ⟨h3, r', by simp [h4], h5⟩
    · split
      · show 0 + _ ≤ _; omega
      · rw [zhe]; omega
theorem GoodP.cut {t : List UInt8} {z : List Row} (h : GoodP t z) (a b : Nat) : GoodP t (zll a b 0 z) :=
  ⟨h.tE, h.tL, fun r hr => ((zhT a b z 0).1 r hr).1, fun r hr x hx => by
    obtain ⟨_, r', h1, h2⟩ := (zhT a b z 0).1 r hr
    exact h.ln r' h1 x (h2 x hx)⟩
theorem zpa (t : List UInt8) (z : List Row) (k : Nat) (r : Row) (hk : z[k]? = some r) (a b : Nat) (J : Int → List ByteArray → Option (Gref17_Poem × Int)) : ∀ (n i at_ : Nat) (acc : Row), i ≤ r.length → r.length - i < n → acc.length ≤ i → at_ + (r.length - i) ≤ 1000000 → r.length ≤ 1000000 →
    za8 (fun _ _ _ => none) (zdN (⟨mkB t, mkZ z⟩ : Gref17_Poem) a b (k : Int) J) n (at_ : Int) (acc.map mkB) (i : Int) = J ((at_ + (r.length - i) : Nat) : Int) ((acc ++ zhU a b at_ (r.drop i)).map mkB) := by
  intro n
  induction n with
  | zero => intro i at_ acc h1 h2; omega
  | succ n ih =>
    intro i at_ acc hi hn ha hat hr
    rw [zbt]
    obtain ⟨ag, hag⟩ : ∃ ag, ag = za8 (fun _ _ _ => none) (zdN (⟨mkB t, mkZ z⟩ : Gref17_Poem) a b (k : Int) J) n := ⟨_, rfl⟩
    rw [← hag] at ih ⊢
    unfold zdN
    have hgz : zdh (mkZ z) (k : Int) = some (r.map mkB) := zbV (by unfold mkZ; rw [List.getElem?_map, hk]; rfl)
    refine za9 hgz ?_
    rcases Nat.lt_or_ge i r.length with h | h
    · have hd : r.drop i = r[i] :: r.drop (i + 1) := List.drop_eq_getElem_cons h
      have hg : zdh (r.map mkB) (i : Int) = some (mkB r[i]) := zbV (by rw [List.getElem?_map, List.getElem?_eq_getElem h]; rfl)
      refine zaY (decide_eq_true (by rw [List.length_map]; omega)) (zcC ?_)
      rw [hd, zhU, show at_ + (r.length - i) = at_ + 1 + (r.length - (i + 1)) by omega]
      have go : ∀ l : Row, l.length ≤ i + 1 → (grd (I64 ((at_ : Int) + 1)) <| grd (I64 ((i : Int) + 1)) <| ag ((at_ : Int) + 1) (l.map mkB) ((i : Int) + 1)) = J ((at_ + 1 + (r.length - (i + 1)) : Nat) : Int) ((l ++ zhU a b (at_ + 1) (r.drop (i + 1))).map mkB) := fun l hl => by
        refine zcD ⟨by omega, by omega⟩ (zcD ⟨by omega, by omega⟩ ?_)
        rw [show (at_ : Int) + 1 = ((at_ + 1 : Nat) : Int) by omega, show (i : Int) + 1 = ((i + 1 : Nat) : Int) by omega]
        exact ih (i + 1) (at_ + 1) l (by omega) (by omega) hl (by omega) hr
      by_cases h1 : a ≤ at_
      · refine zaY (decide_eq_true (by omega)) ?_
        by_cases h2 : at_ < b
        · rw [if_pos ⟨h1, h2⟩]
          refine zaY (decide_eq_true (by omega)) (za9 hgz (za9 hg (zcD (by rw [List.length_map]; omega) ?_)))
          have := go (acc ++ [r[i]]) (by rw [List.length_append, List.length_singleton]; omega)
          rw [List.map_append, List.append_assoc] at this
          exact this
        · rw [if_neg (fun h => h2 h.2)]
          exact zaT (decide_eq_false (by omega)) (go acc (by omega))
      · rw [if_neg (fun h => h1 h.1)]
        exact zaT (decide_eq_false (by omega)) (go acc (by omega))
    · have e : r.length - i = 0 := by omega
      rw [List.drop_eq_nil_of_le h, e, Nat.add_zero]
      refine zaT (decide_eq_false (by rw [List.length_map]; omega)) ?_
      show _ = J _ ((acc ++ []).map mkB)
      rw [List.append_nil]; rfl
theorem zop (t : List UInt8) (z : List Row) (a b : Nat) (J : List (List ByteArray) → Option (Gref17_Poem × Int)) (hz : z.length ≤ 1000000) : ∀ (n i at_ : Nat) (acc : List Row), i ≤ z.length → z.length - i < n → acc.length ≤ i → at_ + tot (z.drop i) ≤ 1000000 →
    za8 (fun _ _ _ => none) (zdO (⟨mkB t, mkZ z⟩ : Gref17_Poem) a b J) n (mkZ acc) (at_ : Int) (i : Int) = J (mkZ (acc ++ zll a b at_ (z.drop i))) := by
  intro n
  induction n with
  | zero => intro i at_ acc h1 h2; omega
  | succ n ih =>
    intro i at_ acc hi hn ha hat
    rw [zbt]
    obtain ⟨ag, hag⟩ : ∃ ag, ag = za8 (fun _ _ _ => none) (zdO (⟨mkB t, mkZ z⟩ : Gref17_Poem) a b J) n := ⟨_, rfl⟩
    rw [← hag] at ih ⊢
    unfold zdO
    rcases Nat.lt_or_ge i z.length with h | h
    · have hd : z.drop i = z[i] :: z.drop (i + 1) := List.drop_eq_getElem_cons h
      rw [hd, zcK] at hat
      refine zaY (decide_eq_true (by show (i : Int) < ((mkZ z).length : Int); rw [zbL]; omega)) (zcC (zcC ?_))
      have hin := zpa t z i z[i] (List.getElem?_eq_getElem h) a b (fun (at5 : Int) (l1 : List ByteArray) => zaU (decide ((0 : Int) < (l1.length : Int))) (grd ((mkZ acc).length + 1 ≤ 2147483648) <| (grd (I64 ((i : Int) + 1)) <| ag (mkZ acc ++ [l1]) at5 ((i : Int) + 1))) ((grd (I64 ((i : Int) + 1)) <| ag (mkZ acc) at5 ((i : Int) + 1)))) zb0 0 at_ [] (Nat.zero_le _) (by unfold zb0; omega) (Nat.le_refl _) (by omega) (by omega)
      rw [List.drop_zero, Nat.sub_zero, List.nil_append] at hin
      refine hin.trans ?_
      rw [hd, zll]
      by_cases hc : zhU a b at_ z[i] = []
      · rw [if_pos hc, hc]
        refine zaT (by simp) (zcD ⟨by omega, by omega⟩ ?_)
        rw [show (i : Int) + 1 = ((i + 1 : Nat) : Int) by omega, ih (i + 1) (at_ + z[i].length) acc (by omega) (by omega) (by omega) (by omega)]
        rfl
      · rw [if_neg hc]
        have hp : 0 < (zhU a b at_ z[i]).length := List.length_pos_iff.2 hc
        refine zaY (decide_eq_true (by rw [List.length_map]; omega)) (zcD (by rw [zbL]; omega) (zcD ⟨by omega, by omega⟩ ?_))
        have e : mkZ acc ++ [(zhU a b at_ z[i]).map mkB] = mkZ (acc ++ [zhU a b at_ z[i]]) := (zeY acc [zhU a b at_ z[i]]).symm
        rw [e, show (i : Int) + 1 = ((i + 1 : Nat) : Int) by omega, ih (i + 1) (at_ + z[i].length) _ (by omega) (by omega) (by rw [List.length_append, List.length_singleton]; omega) (by omega), List.append_assoc]
    · rw [List.drop_eq_nil_of_le h]
      refine zaT (decide_eq_false (by show ¬ (i : Int) < ((mkZ z).length : Int); rw [zbL]; omega)) ?_
      show J (mkZ acc) = J (mkZ (acc ++ []))
      rw [List.append_nil]
/-- Cutting: both agree. -/
theorem zmO {p : Gpoem_Poem} {t : List UInt8} {z : List Row} (h : OkP p t z) (a b : Int) : Agree (zd9 p a b) (zfi (⟨mkB t, mkZ z⟩ : Gref17_Poem) a b) := by
  have hm := h.most
  have hl := h.len
  have hzl := zfu z h.ne
  have hx : ∀ {x y x' y'}, x = x' → y = y' → Agree x' y' → Agree x y := fun h1 h2 h3 => by rw [h1, h2]; exact h3
  unfold zd9 zfi
  by_cases h1 : a < 0
  · exact hx (zaY (decide_eq_true h1) rfl) (zaY (decide_eq_true h1) rfl) (zeW 5 (by decide))
  · refine hx (zaT (decide_eq_false h1) rfl) (zaT (decide_eq_false h1) rfl) ?_
    by_cases h2 : b < a
    · exact hx (zaY (decide_eq_true h2) rfl) (zaY (decide_eq_true h2) rfl) (zeW 5 (by decide))
    · refine hx (zaT (decide_eq_false h2) rfl) (zaT (decide_eq_false h2) (za9 (zi0 t z (by omega) (by omega)) rfl)) ?_
      by_cases h3 : (tot z : Int) < b
      · exact hx (zaY (decide_eq_true (by omega)) rfl) (zaY (decide_eq_true h3) rfl) (zeW 5 (by decide))
      · obtain ⟨a, rfl⟩ : ∃ n : Nat, a = n := ⟨a.toNat, by omega⟩
        obtain ⟨b, rfl⟩ : ∃ n : Nat, b = n := ⟨b.toNat, by omega⟩
        have hc := h.cut a b
        have hct := (zhT a b z 0).2
        have hwt := zhX _ fun r hr x hx => (hc.ln r hr x hx).le
        have hcl := zfu _ hc.ne
        have htl := h.tL
        have key := zht hc (by omega)
        refine hx ?_ ?_ key
        · refine zaT (decide_eq_false (by omega)) (za9 (znN h a b) ?_)
          rw [h.title]
          generalize zcx (mkB t) (mkZ (zll a b 0 z)) = o
          cases o <;> rfl
        · refine zaT (decide_eq_false h3) (zcC ?_)
          have := zop t z a b (fun (out1 : List (List ByteArray)) => zaG (zbU (⟨mkB t, out1⟩ : Gref17_Poem)) fun (r2 : ByteArray) => zaU (decide ((65536 : Int) < (r2.size : Int))) (some ((⟨ByteArray.empty, ([] : List (List ByteArray))⟩ : Gref17_Poem), 3)) (some ((⟨mkB t, out1⟩ : Gref17_Poem), 0))) (by omega) zb0 0 0 [] (Nat.zero_le _) (by unfold zb0; omega) (Nat.le_refl _) (by rw [List.drop_zero]; omega)
          rw [List.drop_zero, List.nil_append] at this
          refine this.trans (za9 (zfF t _ hc.ne (by omega)) ?_)
          by_cases h4 : 65536 < (prT t (zll a b 0 z)).length
          · rw [if_pos h4]; exact zaY (decide_eq_true (by rw [za7]; omega)) rfl
          · rw [if_neg h4]; exact zaT (decide_eq_false (by rw [za7]; omega)) rfl
/-! ### Joining -/
theorem zka {F : (List (List ByteArray) → Int → Option (Gref17_Poem × Int)) → List (List ByteArray) → Int → Option (Gref17_Poem × Int)} (z : List Row) (hz : z.length ≤ 1000000) (J : List (List ByteArray) → Option (Gref17_Poem × Int))
    (hs : ∀ ag (out : List (List ByteArray)) (i : Int) r, zdh (mkZ z) i = some r → i < (z.length : Int) → out.length + 1 ≤ 2147483648 → I64 (i + 1) → F ag out i = ag (out ++ [r]) (i + 1)) (he : ∀ ag out, F ag out (z.length : Int) = J out) :
    ∀ (n i : Nat) (acc : List Row), i ≤ z.length → z.length - i < n → acc.length + (z.length - i) ≤ 2000000 → za8 (fun _ _ => none) F n (mkZ acc) (i : Int) = J (mkZ (acc ++ z.drop i)) := by
  intro n
  induction n with
  | zero => intro i acc h1 h2; omega
  | succ n ih =>
    intro i acc hi hn ha
    rw [zbt]
    rcases Nat.lt_or_ge i z.length with h | h
    · have hd : z.drop i = z[i] :: z.drop (i + 1) := List.drop_eq_getElem_cons h
      have hg : zdh (mkZ z) (i : Int) = some (z[i].map mkB) := zbV (by unfold mkZ; rw [List.getElem?_map, List.getElem?_eq_getElem h]; rfl)
      rw [hs _ _ _ _ hg (by omega) (by rw [zbL]; omega) ⟨by omega, by omega⟩]
      have e : mkZ acc ++ [z[i].map mkB] = mkZ (acc ++ [z[i]]) := (zeY acc [z[i]]).symm
      rw [e, show (i : Int) + 1 = ((i + 1 : Nat) : Int) by omega, ih (i + 1) _ (by omega) (by omega) (by rw [List.length_append, List.length_singleton]; omega), List.append_assoc, hd]
      rfl
    · obtain rfl : i = z.length := by omega
      rw [he, List.drop_length, List.append_nil]
theorem GoodP.app {t : List UInt8} {z z' : List Row} (h : GoodP t z) {t' : List UInt8} (h' : GoodP t' z') : GoodP t (z ++ z') :=
  ⟨h.tE, h.tL, (fun r hr => (List.mem_append.1 hr).elim (h.ne r) (h'.ne r)), (fun r hr => (List.mem_append.1 hr).elim (h.ln r) (h'.ln r))⟩
/-- Joining: both agree. -/
theorem zlK {p q : Gpoem_Poem} {t t' : List UInt8} {z z' : List Row} (h : OkP p t z) (h' : OkP q t' z') : Agree (zdj p q) (zeq (⟨mkB t, mkZ z⟩ : Gref17_Poem) (⟨mkB t', mkZ z'⟩ : Gref17_Poem)) := by
  have hm := h.most
  have hm' := h'.most
  have hzl := zfu z h.ne
  have hzl' := zfu z' h'.ne
  have hg := GoodP.app h.toGoodP h'.toGoodP
  have hx : ∀ {x y x' y'}, x = x' → y = y' → Agree x' y' → Agree x y := fun h1 h2 h3 => by rw [h1, h2]; exact h3
  have hwt := zhX _ fun r hr x hx => (hg.ln r hr x hx).le
  have htot := zgE z z'
  have hlen : (z ++ z').length = z.length + z'.length := List.length_append
  have htl := h.tL
  have e1 : zdj p q = zcx (mkB t) (mkZ (z ++ z')) := by
    unfold zdj
    refine za9 h.full (za9 h'.full (zcD (by rw [zbL, zbL]; omega) ?_))
    rw [h.title, ← zeY]
    generalize zcx (mkB t) (mkZ (z ++ z')) = o
    cases o <;> rfl
  have e2 : zeq (⟨mkB t, mkZ z⟩ : Gref17_Poem) (⟨mkB t', mkZ z'⟩ : Gref17_Poem) = (if 512 < tot (z ++ z') then some (noP, 3) else if 65536 < (prT t (z ++ z')).length then some (noP, 3) else some ((⟨mkB t, mkZ (z ++ z')⟩ : Gref17_Poem), 0)) := by
    unfold zeq
    have l1 := zka (F := zdn (⟨mkB t, mkZ z⟩ : Gref17_Poem) (fun (out1 : List (List ByteArray)) => zbO (fun (j2 : (List (List ByteArray)) → Option (Gref17_Poem × Int)) => za8 (fun _ _ => none) (zcX (⟨mkB t', mkZ z'⟩ : Gref17_Poem) j2) zb0 out1 0) (fun (out5 : List (List ByteArray)) => zaG (zdp (⟨mkB t, out5⟩ : Gref17_Poem)) fun (r1 : Int) => zaU (decide ((512 : Int) < r1)) (some (noP, 3)) (zaG (zbU (⟨mkB t, out5⟩ : Gref17_Poem)) fun (r2 : ByteArray) => zaU (decide ((65536 : Int) < (r2.size : Int))) (some (noP, 3)) (some ((⟨mkB t, out5⟩ : Gref17_Poem), 0)))))) z (by omega) _
      (fun ag out i r hg hi h1 h2 => by
        unfold zdn
        exact zaY (decide_eq_true (by show i < ((mkZ z).length : Int); rw [zbL]; exact hi)) (za9 hg (zcD h1 (zcD h2 rfl))))
      (fun ag out => by
        unfold zdn
        exact zaT (decide_eq_false (by show ¬ (z.length : Int) < ((mkZ z).length : Int); rw [zbL]; omega)) rfl) zb0 0 [] (Nat.zero_le _) (by unfold zb0; omega) (by show 0 + _ ≤ _; omega)
    have l2 := zka (F := zcX (⟨mkB t', mkZ z'⟩ : Gref17_Poem) (fun (out5 : List (List ByteArray)) => zaG (zdp (⟨mkB t, out5⟩ : Gref17_Poem)) fun (r1 : Int) => zaU (decide ((512 : Int) < r1)) (some (noP, 3)) (zaG (zbU (⟨mkB t, out5⟩ : Gref17_Poem)) fun (r2 : ByteArray) => zaU (decide ((65536 : Int) < (r2.size : Int))) (some (noP, 3)) (some ((⟨mkB t, out5⟩ : Gref17_Poem), 0))))) z' (by omega) _
      (fun ag out i r hg hi h1 h2 => by
        unfold zcX
        exact zaY (decide_eq_true (by show i < ((mkZ z').length : Int); rw [zbL]; exact hi)) (za9 hg (zcD h1 (zcD h2 rfl))))
      (fun ag out => by
        unfold zcX
        exact zaT (decide_eq_false (by show ¬ (z'.length : Int) < ((mkZ z').length : Int); rw [zbL]; omega)) rfl) zb0 0 z (Nat.zero_le _) (by unfold zb0; omega) (by omega)
    rw [List.drop_zero, List.nil_append] at l1
    rw [List.drop_zero] at l2
    refine zcC (l1.trans (zcC (l2.trans (za9 (zi0 t _ (by omega) (by omega)) ?_))))
    by_cases h5 : 512 < tot (z ++ z')
    · rw [if_pos h5]; exact zaY (decide_eq_true (by omega)) rfl
    · rw [if_neg h5]
      refine zaT (decide_eq_false (by omega)) (za9 (zfF t _ hg.ne (by omega)) ?_)
      by_cases h6 : 65536 < (prT t (z ++ z')).length
      · rw [if_pos h6]; exact zaY (decide_eq_true (by rw [za7]; omega)) rfl
      · rw [if_neg h6]; exact zaT (decide_eq_false (by rw [za7]; omega)) rfl
  refine hx e1 e2 ?_
  by_cases h5 : 512 < tot (z ++ z')
  · rw [if_pos h5, zmr t _ hg.ne (by omega), if_pos (.inl h5)]
    exact zeW 3 (by decide)
  · rw [if_neg h5]
    exact zht hg (by omega)
end Go.Proofs.YtgfkogafkhbgnaaDoor
namespace Go.Proofs.YtgfkogafkhbgnaaDoor
open Go.RowKit Go.Lib
set_option linter.unusedVariables false
set_option linter.unusedSimpArgs false
def zm1 (l : List UInt8) : Bool := !(l.any isE) && (decide (l.length ≤ 1024) && !zg9 l)
theorem zm9 (l : List UInt8) (h : l.length ≤ 140737488355328) : zeJ (mkB l) = some (zm1 l) := by
  unfold zeJ
  refine zcC ?_
  refine (zkn l (fun b => if isE b then some (some false) else none) (zaU (decide (((mkB l).size : Int) ≤ 1024)) (zaG (zdo (mkB l)) fun (r1 : Bool) => some (!r1)) (some false)) (fun ag i b t hd => ?_) (fun ag => ?_) zb0 0 (Nat.zero_le _) (by unfold zb0; omega)).trans ?_
  · unfold zd7
    obtain ⟨hb, hlt⟩ := ze1 (s := mkB l) hd
    refine zaY (decide_eq_true (by omega)) (za9 hb ?_)
    rw [za7] at hlt
    unfold isE
    by_cases h10 : b = 10
    · subst h10; exact zaY rfl rfl
    · refine zaT (by rw [n10]; exact decide_eq_false h10) ?_
      by_cases h13 : b = 13
      · subst h13; exact zaY rfl rfl
      · refine zaT (by rw [n13]; exact decide_eq_false h13) (zcD ⟨by omega, by omega⟩ ?_)
        rw [beq_eq_false_iff_ne.2 h10, beq_eq_false_iff_ne.2 h13, show (i : Int) + 1 = ((i + 1 : Nat) : Int) by omega]
        rfl
  · unfold zd7
    exact zaT (decide_eq_false (by rw [za7]; omega)) rfl
  · rw [List.drop_zero]
    have key : ∀ (l : List UInt8) (X : Option Bool), (l.findSome? (fun b => if isE b then some (some false) else none)).getD X = if l.any isE then some false else X := by
      intro l X
      induction l with
      | nil => rfl
      | cons b l ih =>
        rw [List.findSome?_cons, List.any_cons]
        cases hb : isE b with
        | true => rfl
        | false => simpa using ih
    rw [key]
    unfold zm1
    cases ha : l.any isE with
    | true => rfl
    | false =>
      by_cases hl : l.length ≤ 1024
      · rw [decide_eq_true hl]
        exact zaY (decide_eq_true (by rw [za7]; omega)) (za9 (ziZ l (by omega)) (by simp))
      · rw [decide_eq_false hl]
        exact zaT (decide_eq_false (by rw [za7]; omega)) rfl
theorem zmq (l : List UInt8) (n : Nat) : znP (mkB l) (n : Int) = (decide (l.length ≤ n) && !(l.any isE)) := by
  unfold znP zi8
  rw [zgn, za7]
  congr 1
  exact decide_eq_decide.2 (by omega)
theorem zlo {l : List UInt8} (h : zm1 l = true) : GLn l := by
  unfold zm1 at h
  rw [Bool.and_eq_true, Bool.and_eq_true] at h
  refine ⟨by simpa using h.2.2, by simpa using h.2.1, fun b hb => ?_⟩
  have h1 : l.any isE = false := by simpa using h.1
  rw [List.any_eq_false] at h1
  simpa using h1 b hb
/-! ### The line that is set -/
def zk8 (n : Int) (l : List UInt8) : Nat → Row → Row
  | _, [] => []
  | at_, x :: r => (if (at_ : Int) = n then l else x) :: zk8 n l (at_ + 1) r
def zmY (n : Int) (l : List UInt8) : Nat → List Row → List Row
  | _, [] => []
  | at_, r :: z => zk8 n l at_ r :: zmY n l (at_ + r.length) z
theorem zoM (t : List UInt8) (z : List Row) (k : Nat) (r : Row) (hk : z[k]? = some r) (m : Int) (l : List UInt8) (J : Int → List ByteArray → Option (Gref17_Poem × Int)) : ∀ (n i at_ : Nat) (acc : Row), i ≤ r.length → r.length - i < n → acc.length ≤ i → at_ + (r.length - i) ≤ 1000000 → r.length ≤ 1000000 →
    za8 (fun _ _ _ => none) (zdL (⟨mkB t, mkZ z⟩ : Gref17_Poem) m (mkB l) (k : Int) J) n (at_ : Int) (acc.map mkB) (i : Int) = J ((at_ + (r.length - i) : Nat) : Int) ((acc ++ zk8 m l at_ (r.drop i)).map mkB) := by
  intro n
  induction n with
  | zero => intro i at_ acc h1 h2; omega
  | succ n ih =>
    intro i at_ acc hi hn ha hat hr
    rw [zbt]
    obtain ⟨ag, hag⟩ : ∃ ag, ag = za8 (fun _ _ _ => none) (zdL (⟨mkB t, mkZ z⟩ : Gref17_Poem) m (mkB l) (k : Int) J) n := ⟨_, rfl⟩
    rw [← hag] at ih ⊢
    unfold zdL
    have hgz : zdh (mkZ z) (k : Int) = some (r.map mkB) := zbV (by unfold mkZ; rw [List.getElem?_map, hk]; rfl)
    refine za9 hgz ?_
    rcases Nat.lt_or_ge i r.length with h | h
    · have hd : r.drop i = r[i] :: r.drop (i + 1) := List.drop_eq_getElem_cons h
      have hg : zdh (r.map mkB) (i : Int) = some (mkB r[i]) := zbV (by rw [List.getElem?_map, List.getElem?_eq_getElem h]; rfl)
      refine zaY (decide_eq_true (by rw [List.length_map]; omega)) (za9 hgz (za9 hg (zcC ?_)))
      rw [hd, zk8, show at_ + (r.length - i) = at_ + 1 + (r.length - (i + 1)) by omega]
      have go : ∀ y : List UInt8, (grd ((acc.map mkB).length + 1 ≤ 2147483648) <| grd (I64 ((at_ : Int) + 1)) <| grd (I64 ((i : Int) + 1)) <| ag ((at_ : Int) + 1) (acc.map mkB ++ [mkB y]) ((i : Int) + 1)) = J ((at_ + 1 + (r.length - (i + 1)) : Nat) : Int) ((acc ++ y :: zk8 m l (at_ + 1) (r.drop (i + 1))).map mkB) := fun y => by
        refine zcD (by rw [List.length_map]; omega) (zcD ⟨by omega, by omega⟩ (zcD ⟨by omega, by omega⟩ ?_))
        have e : acc.map mkB ++ [mkB y] = (acc ++ [y]).map mkB := by rw [List.map_append]; rfl
        rw [e, show (at_ : Int) + 1 = ((at_ + 1 : Nat) : Int) by omega, show (i : Int) + 1 = ((i + 1 : Nat) : Int) by omega, ih (i + 1) (at_ + 1) _ (by omega) (by omega) (by rw [List.length_append, List.length_singleton]; omega) (by omega) hr, List.append_assoc]
        rfl
      by_cases h1 : (at_ : Int) = m
      · rw [if_pos h1]; exact zaY (beq_iff_eq.2 h1) (go l)
      · rw [if_neg h1]; exact zaT (beq_eq_false_iff_ne.2 h1) (go r[i])
    · have e : r.length - i = 0 := by omega
      rw [List.drop_eq_nil_of_le h, e, Nat.add_zero]
      refine zaT (decide_eq_false (by rw [List.length_map]; omega)) ?_
      show _ = J _ ((acc ++ []).map mkB)
      rw [List.append_nil]; rfl
theorem zn4 (t : List UInt8) (z : List Row) (m : Int) (l : List UInt8) (J : List (List ByteArray) → Int → Option (Gref17_Poem × Int)) (hz : z.length ≤ 1000000) : ∀ (n i at_ : Nat) (acc : List Row), i ≤ z.length → z.length - i < n → acc.length ≤ i → at_ + tot (z.drop i) ≤ 1000000 →
    za8 (fun _ _ _ => none) (zdM (⟨mkB t, mkZ z⟩ : Gref17_Poem) m (mkB l) J) n (mkZ acc) (at_ : Int) (i : Int) = J (mkZ (acc ++ zmY m l at_ (z.drop i))) ((at_ + tot (z.drop i) : Nat) : Int) := by
  intro n
  induction n with
  | zero => intro i at_ acc h1 h2; omega
  | succ n ih =>
    intro i at_ acc hi hn ha hat
    rw [zbt]
    obtain ⟨ag, hag⟩ : ∃ ag, ag = za8 (fun _ _ _ => none) (zdM (⟨mkB t, mkZ z⟩ : Gref17_Poem) m (mkB l) J) n := ⟨_, rfl⟩
    rw [← hag] at ih ⊢
    unfold zdM
    rcases Nat.lt_or_ge i z.length with h | h
    · have hd : z.drop i = z[i] :: z.drop (i + 1) := List.drop_eq_getElem_cons h
      rw [hd, zcK] at hat ⊢
      refine zaY (decide_eq_true (by show (i : Int) < ((mkZ z).length : Int); rw [zbL]; omega)) (zcC (zcC ?_))
      have hin := zoM t z i z[i] (List.getElem?_eq_getElem h) m l (fun (at6 : Int) (l1 : List ByteArray) => grd ((mkZ acc).length + 1 ≤ 2147483648) <| (grd (I64 ((i : Int) + 1)) <| ag (mkZ acc ++ [l1]) at6 ((i : Int) + 1))) zb0 0 at_ [] (Nat.zero_le _) (by unfold zb0; omega) (Nat.le_refl _) (by omega) (by omega)
      rw [List.drop_zero, Nat.sub_zero, List.nil_append] at hin
      refine hin.trans (zcD (by rw [zbL]; omega) (zcD ⟨by omega, by omega⟩ ?_))
      have e : mkZ acc ++ [(zk8 m l at_ z[i]).map mkB] = mkZ (acc ++ [zk8 m l at_ z[i]]) := (zeY acc [zk8 m l at_ z[i]]).symm
      rw [e, show (i : Int) + 1 = ((i + 1 : Nat) : Int) by omega, ih (i + 1) (at_ + z[i].length) _ (by omega) (by omega) (by rw [List.length_append, List.length_singleton]; omega) (by omega), List.append_assoc, Nat.add_assoc]
      rfl
    · rw [List.drop_eq_nil_of_le h]
      refine zaT (decide_eq_false (by show ¬ (i : Int) < ((mkZ z).length : Int); rw [zbL]; omega)) ?_
      show J (mkZ acc) (at_ : Int) = J (mkZ (acc ++ [])) _
      rw [List.append_nil]; rfl
theorem zh3 (l : List UInt8) : ∀ (r : Row) (n at_ : Nat), n < at_ → zk8 (n : Int) l at_ r = r
  | [], n, at_, h => rfl
  | x :: r, n, at_, h => by rw [zk8, if_neg (by omega), zh3 l r n (at_ + 1) (by omega)]
theorem zjV (l : List UInt8) : ∀ (z : List Row) (n at_ : Nat), n < at_ → zmY (n : Int) l at_ z = z
  | [], n, at_, h => rfl
  | r :: z, n, at_, h => by rw [zmY, zh3 l r n at_ h, zjV l z n (at_ + r.length) (by omega)]
theorem zl8 (l : List UInt8) : ∀ (r : Row) (n at_ : Nat), at_ ≤ n → zk8 (n : Int) l at_ r = r.set (n - at_) l
  | [], n, at_, h => rfl
  | x :: r, n, at_, h => by
    rw [zk8]
    by_cases h1 : at_ = n
    · rw [if_pos (by omega), zh3 l r n (at_ + 1) (by omega), h1, Nat.sub_self]; rfl
    · rw [if_neg (by omega), zl8 l r n (at_ + 1) (by omega), show n - at_ = n - (at_ + 1) + 1 by omega]; rfl
theorem zjW (l : List UInt8) : ∀ (r : Row) (n at_ : Nat), at_ + r.length ≤ n → zk8 (n : Int) l at_ r = r
  | [], n, at_, h => rfl
  | x :: r, n, at_, h => by
    rw [List.length_cons] at h
    rw [zk8, if_neg (by omega), zjW l r n (at_ + 1) (by omega)]
theorem zlk : ∀ (r : Row) (j i : Nat) (x : List UInt8), r[i]? = some x → (zft j r)[i]? = some (j + i, x)
  | [], j, i, x, h => by simp at h
  | y :: r, j, 0, x, h => by
    have : y = x := by simpa using h
    subst this; rfl
  | y :: r, j, i + 1, x, h => by
    show (zft (j + 1) r)[i]? = _
    rw [zlk r (j + 1) i x (by simpa using h), show j + 1 + i = j + (i + 1) by omega]
/-- The line of a number: where it stands, what becomes of it. -/
theorem zmE (l : List UInt8) : ∀ (z : List Row) (k0 at_ n : Nat), at_ ≤ n → n < at_ + tot z → ∃ k i x r, (ze2 k0 z)[n - at_]? = some (k0 + k, i, x) ∧ z[k]? = some r ∧ r[i]? = some x ∧ zmY (n : Int) l at_ z = z.set k (r.set i l)
  | [], k0, at_, n, h1, h2 => by simp [tot] at h2; omega
  | r :: z, k0, at_, n, h1, h2 => by
    rw [zcK] at h2
    have hlen : ((zft 0 r).map (fun p => (k0, p))).length = r.length := by rw [List.length_map, zip]
    by_cases h : n < at_ + r.length
    · have hi : n - at_ < r.length := by omega
      refine ⟨0, n - at_, r[n - at_], r, ?_, rfl, List.getElem?_eq_getElem hi, ?_⟩
      · show ((zft 0 r).map (fun p => (k0, p)) ++ ze2 (k0 + 1) z)[n - at_]? = _
        rw [List.getElem?_append_left (by omega), List.getElem?_map, zlk r 0 (n - at_) _ (List.getElem?_eq_getElem hi), Nat.zero_add]; rfl
      · rw [zmY, zl8 l r n at_ h1, zjV l z n (at_ + r.length) h]; rfl
    · obtain ⟨k, i, x, r', a1, a2, a3, a4⟩ := zmE l z (k0 + 1) (at_ + r.length) n (by omega) (by omega)
      refine ⟨k + 1, i, x, r', ?_, by simpa using a2, a3, ?_⟩
      · show ((zft 0 r).map (fun p => (k0, p)) ++ ze2 (k0 + 1) z)[n - at_]? = _
        rw [List.getElem?_append_right (by omega), hlen, show n - at_ - r.length = n - (at_ + r.length) by omega, a1, show k0 + 1 + k = k0 + (k + 1) by omega]
      · rw [zmY, zjW l r n at_ (by omega), a4]; rfl
theorem zl2 : ∀ (z : List Row) (k : Nat) (r r' : Row), z[k]? = some r → r'.length = r.length → tot (z.set k r') = tot z
  | [], k, r, r', h, hl => rfl
  | y :: z, 0, r, r', h, hl => by
    have : y = r := by simpa using h
    subst this
    rw [List.set_cons_zero, zcK, zcK, hl]
  | y :: z, k + 1, r, r', h, hl => by rw [List.set_cons_succ, zcK, zcK, zl2 z k r r' (by simpa using h) hl]
theorem GoodP.set {t : List UInt8} {z : List Row} (h : GoodP t z) {k i : Nat} {r : Row} {x l : List UInt8} (hk : z[k]? = some r) (hi : r[i]? = some x) (hl : GLn l) : GoodP t (z.set k (r.set i l)) := by
  refine ⟨h.tE, h.tL, fun y hy => ?_, fun y hy w hw => ?_⟩
  · rcases List.mem_or_eq_of_mem_set hy with hy | rfl
    · exact h.ne y hy
    · intro e
      have : (r.set i l).length = 0 := by rw [e]; rfl
      rw [List.length_set] at this
      have h2 := (List.getElem?_eq_some_iff.1 hi).1
      omega
  · rcases List.mem_or_eq_of_mem_set hy with hy | rfl
    · exact h.ln y hy w hw
    · rcases List.mem_or_eq_of_mem_set hw with hw | rfl
      · exact h.ln r (List.mem_of_getElem? hk) w hw
      · exact hl
theorem zn8 (z : List Row) (k i : Nat) (r : Row) (l : List UInt8) : (mkZ z).set k ((r.map mkB).set i (mkB l)) = mkZ (z.set k (r.set i l)) := by
  unfold mkZ
  rw [← List.map_set, ← List.map_set]
/-- What Set answers at a line that is there. -/
theorem zpx {p : Gpoem_Poem} {t : List UInt8} {z : List Row} (h : OkP p t z) (n : Nat) (hn : n < tot z) (l : List UInt8) (hl : zm1 l = true) : ∃ k i x r, (ze2 0 z)[n]? = some (k, i, x) ∧ z[k]? = some r ∧ r[i]? = some x ∧ zmY (n : Int) l 0 z = z.set k (r.set i l) ∧
    zcn p (n : Int) (mkB l) = zcx (mkB t) (mkZ (z.set k (r.set i l))) := by
  obtain ⟨k, i, x, r, a1, a2, a3, a4⟩ := zmE l z 0 0 n (Nat.zero_le _) (by omega)
  rw [Nat.sub_zero, Nat.zero_add] at a1
  refine ⟨k, i, x, r, a1, a2, a3, a4, ?_⟩
  have hL := h.len
  have hg := zlo hl
  unfold zcn
  have hmay : znP (mkB l) 1024 = true := by
    have := zmq l 1024
    rw [show ((1024 : Nat) : Int) = 1024 from rfl] at this
    rw [this]
    unfold zm1 at hl
    rw [Bool.and_eq_true, Bool.and_eq_true] at hl
    rw [hl.2.1, hl.1]; rfl
  obtain ⟨v, hv⟩ : ∃ v, p.told_lines[n]? = some v := ⟨_, List.getElem?_eq_getElem (by omega)⟩
  have hkey : zob v = zlJ (k, i, x) := by
    have e := congrArg (fun s => s[n]?) h.vok
    simp only [List.getElem?_map, hv, a1, Option.map_some] at e
    exact Option.some.inj e
  have e1 : v.Stanza = (k : Int) := congrArg (fun q => q.2.2.1) hkey
  have e2 : v.In = (i : Int) := congrArg (fun q => q.2.2.2) hkey
  have hr : zdh (mkZ z) v.Stanza = some (r.map mkB) := by rw [e1]; exact zbV (by unfold mkZ; rw [List.getElem?_map, a2]; rfl)
  have hx : zdh (r.map mkB) v.In = some (mkB x) := by rw [e2]; exact zbV (by rw [List.getElem?_map, a3]; rfl)
  refine zaT (decide_eq_false (by omega)) (zaT (decide_eq_false (by omega)) (zaT (by rw [hmay]; rfl) (za9 (zkR l (by have := hg.le; omega)) (zaT hg.bl (za9 h.full (za9 (zbV hv) (za9 hr (za9 hx ?_))))))))
  rw [e1, e2, Int.toNat_natCast, Int.toNat_natCast, zn8, h.title]
  generalize zcx (mkB t) (mkZ (z.set k (r.set i l))) = o
  cases o <;> rfl
/-- Setting: both agree. -/
theorem zl7 {p : Gpoem_Poem} {t : List UInt8} {z : List Row} (h : OkP p t z) (n : Int) (l : List UInt8) (hb : l.length ≤ 140737488355328) : Agree (zcn p n (mkB l)) (zeI (⟨mkB t, mkZ z⟩ : Gref17_Poem) n (mkB l)) := by
  have hm := h.most
  have hL := h.len
  have hzl := zfu z h.ne
  have hx : ∀ {x y x' y'}, x = x' → y = y' → Agree x' y' → Agree x y := fun h1 h2 h3 => by rw [h1, h2]; exact h3
  have ref : zeI (⟨mkB t, mkZ z⟩ : Gref17_Poem) n (mkB l) = (if n < 0 then some (noP, 5) else if (tot z : Int) ≤ n then some (noP, 5) else if zm1 l = true then zaG (zbU (⟨mkB t, mkZ (zmY n l 0 z)⟩ : Gref17_Poem)) fun (r2 : ByteArray) => zaU (decide ((65536 : Int) < (r2.size : Int))) (some (noP, 3)) (some ((⟨mkB t, mkZ (zmY n l 0 z)⟩ : Gref17_Poem), 0)) else some (noP, 170)) := by
    unfold zeI
    have := zn4 t z n l (fun (out1 : List (List ByteArray)) (at1 : Int) => zaU (decide ((n : Int) < 0)) (some (noP, 5)) (zaU (decide ((at1 : Int) ≤ n)) (some (noP, 5)) (zaG (zeJ (mkB l)) fun (r1 : Bool) => zaU (!r1) (some (noP, 170)) (zaG (zbU (⟨mkB t, out1⟩ : Gref17_Poem)) fun (r2 : ByteArray) => zaU (decide ((65536 : Int) < (r2.size : Int))) (some (noP, 3)) (some ((⟨mkB t, out1⟩ : Gref17_Poem), 0)))))) (by omega) zb0 0 0 [] (Nat.zero_le _) (by unfold zb0; omega) (Nat.le_refl _) (by rw [List.drop_zero]; omega)
    rw [List.drop_zero, List.nil_append, Nat.zero_add] at this
    refine zcC (this.trans ?_)
    by_cases h1 : n < 0
    · rw [if_pos h1]; exact zaY (decide_eq_true h1) rfl
    · rw [if_neg h1]
      refine zaT (decide_eq_false h1) ?_
      by_cases h2 : (tot z : Int) ≤ n
      · rw [if_pos h2]; exact zaY (decide_eq_true h2) rfl
      · rw [if_neg h2]
        refine zaT (decide_eq_false h2) (za9 (zm9 l hb) ?_)
        cases hc : zm1 l with
        | true => rw [if_pos rfl]; exact zaT rfl rfl
        | false => rw [if_neg (by decide)]; exact zaY rfl rfl
  by_cases h1 : n < 0
  · refine hx ?_ ?_ (zeW 5 (by decide))
    · unfold zcn; exact zaY (decide_eq_true h1) rfl
    · rw [ref, if_pos h1]
  · by_cases h2 : (tot z : Int) ≤ n
    · refine hx ?_ ?_ (zeW 5 (by decide))
      · unfold zcn; exact zaT (decide_eq_false h1) (zaY (decide_eq_true (by omega)) rfl)
      · rw [ref, if_neg h1, if_pos h2]
    · cases hc : zm1 l with
      | false =>
        refine hx ?_ ?_ (zeW 170 (by decide))
        · unfold zcn
          refine zaT (decide_eq_false h1) (zaT (decide_eq_false (by omega)) ?_)
          have hmay := zmq l 1024
          rw [show ((1024 : Nat) : Int) = 1024 from rfl] at hmay
          cases hy : znP (mkB l) 1024 with
          | false => exact zaY rfl rfl
          | true =>
            refine zaT rfl ?_
            rw [hmay, Bool.and_eq_true] at hy
            have hbl : zg9 l = true := by
              unfold zm1 at hc
              rw [hy.1, hy.2] at hc
              simpa using hc
            exact za9 (zkR l (by omega)) (zaY hbl rfl)
        · rw [ref, if_neg h1, if_neg h2, hc]; rfl
      | true =>
        obtain ⟨m, rfl⟩ : ∃ m : Nat, n = m := ⟨n.toNat, by omega⟩
        obtain ⟨k, i, x, r, a1, a2, a3, a4, a5⟩ := zpx h m (by omega) l hc
        have hg := h.toGoodP.set a2 a3 (zlo hc)
        have htot : tot (z.set k (r.set i l)) = tot z := zl2 z k r _ a2 (List.length_set ..)
        have hwt := zhX _ fun r hr x hx => (hg.ln r hr x hx).le
        have hcl := zfu _ hg.ne
        have htl := h.tL
        refine hx a5 ?_ (zht hg (by omega))
        rw [ref, if_neg h1, if_neg h2, if_pos hc, a4]
        refine za9 (zfF t _ hg.ne (by omega)) ?_
        by_cases h4 : 65536 < (prT t (z.set k (r.set i l))).length
        · rw [if_pos h4]; exact zaY (decide_eq_true (by rw [za7]; omega)) rfl
        · rw [if_neg h4]; exact zaT (decide_eq_false (by rw [za7]; omega)) rfl
end Go.Proofs.YtgfkogafkhbgnaaDoor
namespace Go.Proofs.YtgfkogafkhbgnaaDoor
open Go.RowKit Go.Lib
set_option linter.unusedVariables false
set_option linter.unusedSimpArgs false
end Go.Proofs.YtgfkogafkhbgnaaDoor
namespace Go.Proofs.YtgfkogafkhbgnaaDoor
open Go.RowKit Go.Lib
set_option linter.unusedVariables false
set_option linter.unusedSimpArgs false
def zdY (s1 : ByteArray) (t1 : ByteArray) (k1 : Int) (line1 : ByteArray) (from1 : Int) (to1 : Int) : Option Bool := zaG (zdW) fun (r1 : Bool) => zaU (!r1) ( some false
) ( zaG (zcU s1) fun (r2 : ((Option Gpoem_Poem) × Gapi_Spot)) => zaG (zcU t1) fun (r3 : ((Option Gpoem_Poem) × Gapi_Spot)) => zaG (zcZ s1) fun (r4 : (Gref17_Poem × (List Gapi_Verse) × Gapi_Spot)) => zaG (zcZ t1) fun (r5 : (Gref17_Poem × (List Gapi_Verse) × Gapi_Spot)) => zaU (!(zc6 r2.2 (⟨0, 0⟩ : Gapi_Spot))) ( zaG (zdW) fun (r6 : Bool) => some r6
) ( zaU (!(zc6 r3.2 (⟨0, 0⟩ : Gapi_Spot))) ( zaG (zdW) fun (r7 : Bool) => some r7
) ( zaG (r2.1) fun (p1 : Gpoem_Poem) => zaG (zcn p1 k1 line1) fun (r8 : ((Option Gpoem_Poem) × Int)) => zaG (zeI r4.1 k1 line1) fun (r9 : (Gref17_Poem × Int)) => zaG (zd9 p1 from1 to1) fun (r10 : ((Option Gpoem_Poem) × Int)) => zaG (zfi r4.1 from1 to1) fun (r11 : (Gref17_Poem × Int)) => zaG (r3.1) fun (p2 : Gpoem_Poem) => zaG (zdj p1 p2) fun (r12 : ((Option Gpoem_Poem) × Int)) => zaG (zeq r4.1 r5.1) fun (r13 : (Gref17_Poem × Int)) => zaG (zdd r8.1 r8.2 r9.1 r9.2) fun (r14 : Bool) => zaU (r14) ( zaG (zdd r10.1 r10.2 r11.1 r11.2) fun (r15 : Bool) => zaU (r15) ( zaG (zdd r12.1 r12.2 r13.1 r13.2) fun (r16 : Bool) => zaU (r16) ( zaG (zcV p1 p2) fun (r17 : Bool) => zaG (zeT r4.1 r5.1) fun (r18 : Bool) => zaU (r17 == r18) ( zaG (zfd p1 s1 r4.1 r4.2.1) fun (r19 : Bool) => zaU (r19) ( zaG (zdW) fun (r20 : Bool) => some r20
) ( some false
)
) ( some false
)
) ( some false
)
) ( some false
)
) ( some false
)
)
)
)
theorem zgv {s1 : ByteArray} {t1 : ByteArray} {k1 : Int} {line1 : ByteArray} {from1 : Int} {to1 : Int} {r : Bool} (h : zdY s1 t1 k1 line1 from1 to1 = some r) : FnP Tryd.prog 8 [.string s1, .string t1, zI k1, .string line1, zI from1, zI to1] (.bool r) := by
 unfold zdY at h
 refine FnP.intro Tryd.func8 rfl Tryd.ntmps8 (by simp) ?_
 intro w0 K
 refine zas (zai (zak rfl dc rfl (zap (zaj (zas (zas (zai ?_)))))))
 obtain ⟨r1, hq1, h⟩ := zbN h
 refine zbH (v := .bool r1) (vs := []) rfl dc rfl rfl rfl znw (zeP hq1) (zhJ rfl dc rfl zfX (zap (zaj ?_)))
 refine zaM rfl (fun hb1 => ?_) (fun hb1 => ?_)
 ·
  have h := za0 hb1 h
  refine zas (zai (zak rfl dc rfl (zap (zaj (zaX (zay ?_))))))
  cases h
  exact za3 (rs := [.tmp 12]) () (.inl rfl) Tryd.results8 (.cons (.tmp rfl) .nil) rfl Splits.nil
 ·
  have h := za1 hb1 h
  refine zaP (zaj (zas (zai (zah rfl dc rfl ?_))))
  obtain ⟨r2, hq2, h⟩ := zbN h
  refine zed (vs := [.string s1]) rfl dc rfl rfl rfl znv (zfv hq2) Splits.nil ?_
  rintro v1
  show TO _ _ _ _ _ _ _ _ _ _ [zco zau zat 93 v1 r2.1]
  refine zbw (L' := [zco zau zat 93 v1 r2.1]) (zal [0] kr rfl) (zah rfl dc rfl (zaS rfl dc rfl rfl (zaS rfl dc rfl rfl ?_)))
  refine zbl ziG rfl dc (fun b1 => ?_)
  refine zak rfl dc rfl (zaZ (k := 1) (vs := [zI r2.2.Err, zI r2.2.At]) (l' := [zI r2.2.Err, zI r2.2.At]) zf7 rfl rfl rfl rfl rfl (show _ ≤ _ by simp) rfl rfl ?_)
  show TO _ _ _ _ _ _ _ _ _ _ [zco zau zat 93 v1 r2.1, cells b1 [zI r2.2.Err, zI r2.2.At] 26]
  refine zap (zaj (zas (zai (zah rfl dc rfl ?_))))
  obtain ⟨r3, hq3, h⟩ := zbN h
  refine zed (vs := [.string t1]) rfl dc rfl rfl rfl znv (zfv hq3) Splits.nil ?_
  rintro v2
  show TO _ _ _ _ _ _ _ _ _ _ [zco zau zat 93 v1 r2.1, cells b1 [zI r2.2.Err, zI r2.2.At] 26, zco zau zat 93 v2 r3.1]
  refine zbw (L' := [zco zau zat 93 v1 r2.1, cells b1 [zI r2.2.Err, zI r2.2.At] 26, zco zau zat 93 v2 r3.1]) (zal [0, 1, 2] kr rfl) (zah rfl dc rfl (zaS rfl dc rfl rfl (zaS rfl dc rfl rfl ?_)))
  refine zbl ziG rfl dc (fun b2 => ?_)
  refine zak rfl dc rfl (zaZ (k := 3) (vs := [zI r3.2.Err, zI r3.2.At]) (l' := [zI r3.2.Err, zI r3.2.At]) zf7 rfl rfl rfl rfl rfl (show _ ≤ _ by simp) rfl rfl ?_)
  show TO _ _ _ _ _ _ _ _ _ _ [zco zau zat 93 v1 r2.1, cells b1 [zI r2.2.Err, zI r2.2.At] 26, zco zau zat 93 v2 r3.1, cells b2 [zI r3.2.Err, zI r3.2.At] 26]
  refine zap (zaj (zas (zai (zah rfl dc rfl ?_))))
  obtain ⟨r4, hq4, h⟩ := zbN h
  refine zed (vs := [.string s1]) rfl dc rfl rfl rfl znt (ze7 hq4) Splits.nil ?_
  rintro ⟨hd1, v3⟩
  show TO _ _ _ _ _ _ _ _ _ _ [zco zau zat 93 v1 r2.1, cells b1 [zI r2.2.Err, zI r2.2.At] 26, zco zau zat 93 v2 r3.1, cells b2 [zI r3.2.Err, zI r3.2.At] 26, zbx zae zag 48 1 hd1.v r4.1.Stanzas, vec zam 36 6 v3 r4.2.1]
  refine zbw (L' := [zco zau zat 93 v1 r2.1, cells b1 [zI r2.2.Err, zI r2.2.At] 26, zco zau zat 93 v2 r3.1, cells b2 [zI r3.2.Err, zI r3.2.At] 26, zbx zae zag 48 1 hd1.v r4.1.Stanzas, vec zam 36 6 v3 r4.2.1]) (zal [0, 1, 2, 3, 4, 5] kr rfl) ?_
  refine zb7 (k := 5) rfl (fun hd2 he1 => ?_)
  subst he1
  refine zah rfl dc rfl (zaS rfl dc rfl rfl (zaS rfl dc rfl rfl (zaS rfl dc rfl rfl ?_)))
  refine zbl zgC rfl dc (fun b3 => ?_)
  refine zbl ziG rfl dc (fun b4 => ?_)
  show TO _ _ _ _ _ _ _ _ _ _ [zco zau zat 93 v1 r2.1, cells b1 [zI r2.2.Err, zI r2.2.At] 26, zco zau zat 93 v2 r3.1, cells b2 [zI r3.2.Err, zI r3.2.At] 26, zbx zae zag 48 1 hd1.v r4.1.Stanzas, vec zam 36 6 hd2.v r4.2.1, cells b3 [.string ByteArray.empty, .slice none 0 0] 56, cells b4 [zI 0, zI 0] 26]
  refine zaZ (k := 6) (vs := [.string r4.1.Title, hd1.v]) (l' := [.string r4.1.Title, hd1.v]) zeG rfl rfl rfl rfl rfl (show _ ≤ _ by simp) rfl rfl (zak rfl dc rfl (zaZ (k := 7) (vs := [zI r4.2.2.Err, zI r4.2.2.At]) (l' := [zI r4.2.2.Err, zI r4.2.2.At]) zf7 rfl rfl rfl rfl rfl (show _ ≤ _ by simp) rfl rfl ?_))
  show TO _ _ _ _ _ _ _ _ _ _ [zco zau zat 93 v1 r2.1, cells b1 [zI r2.2.Err, zI r2.2.At] 26, zco zau zat 93 v2 r3.1, cells b2 [zI r3.2.Err, zI r3.2.At] 26, zbx zae zag 48 1 hd1.v r4.1.Stanzas, vec zam 36 6 hd2.v r4.2.1, cells b3 [.string r4.1.Title, hd1.v] 56, cells b4 [zI r4.2.2.Err, zI r4.2.2.At] 26]
  refine zap (zaj (zas (zai (zah rfl dc rfl ?_))))
  obtain ⟨r5, hq5, h⟩ := zbN h
  refine zed (vs := [.string t1]) rfl dc rfl rfl rfl znt (ze7 hq5) Splits.nil ?_
  rintro ⟨hd3, v4⟩
  show TO _ _ _ _ _ _ _ _ _ _ [zco zau zat 93 v1 r2.1, cells b1 [zI r2.2.Err, zI r2.2.At] 26, zco zau zat 93 v2 r3.1, cells b2 [zI r3.2.Err, zI r3.2.At] 26, zbx zae zag 48 1 hd1.v r4.1.Stanzas, vec zam 36 6 hd2.v r4.2.1, cells b3 [.string r4.1.Title, hd1.v] 56, cells b4 [zI r4.2.2.Err, zI r4.2.2.At] 26, zbx zae zag 48 1 hd3.v r5.1.Stanzas, vec zam 36 6 v4 r5.2.1]
  refine zbw (L' := [zco zau zat 93 v1 r2.1, cells b1 [zI r2.2.Err, zI r2.2.At] 26, zco zau zat 93 v2 r3.1, cells b2 [zI r3.2.Err, zI r3.2.At] 26, zbx zae zag 48 1 hd1.v r4.1.Stanzas, vec zam 36 6 hd2.v r4.2.1, cells b3 [.string r4.1.Title, hd1.v] 56, cells b4 [zI r4.2.2.Err, zI r4.2.2.At] 26, zbx zae zag 48 1 hd3.v r5.1.Stanzas, vec zam 36 6 v4 r5.2.1]) (zal [0, 1, 2, 3, 4, 5, 6, 7, 8, 9] kr rfl) ?_
  refine zb7 (k := 9) rfl (fun hd4 he2 => ?_)
  subst he2
  refine zah rfl dc rfl (zaS rfl dc rfl rfl (zaS rfl dc rfl rfl (zaS rfl dc rfl rfl ?_)))
  refine zbl zgC rfl dc (fun b5 => ?_)
  refine zbl ziG rfl dc (fun b6 => ?_)
  show TO _ _ _ _ _ _ _ _ _ _ [zco zau zat 93 v1 r2.1, cells b1 [zI r2.2.Err, zI r2.2.At] 26, zco zau zat 93 v2 r3.1, cells b2 [zI r3.2.Err, zI r3.2.At] 26, zbx zae zag 48 1 hd1.v r4.1.Stanzas, vec zam 36 6 hd2.v r4.2.1, cells b3 [.string r4.1.Title, hd1.v] 56, cells b4 [zI r4.2.2.Err, zI r4.2.2.At] 26, zbx zae zag 48 1 hd3.v r5.1.Stanzas, vec zam 36 6 hd4.v r5.2.1, cells b5 [.string ByteArray.empty, .slice none 0 0] 56, cells b6 [zI 0, zI 0] 26]
  refine zaZ (k := 10) (vs := [.string r5.1.Title, hd3.v]) (l' := [.string r5.1.Title, hd3.v]) zeG rfl rfl rfl rfl rfl (show _ ≤ _ by simp) rfl rfl (zak rfl dc rfl (zaZ (k := 11) (vs := [zI r5.2.2.Err, zI r5.2.2.At]) (l' := [zI r5.2.2.Err, zI r5.2.2.At]) zf7 rfl rfl rfl rfl rfl (show _ ≤ _ by simp) rfl rfl ?_))
  show TO _ _ _ _ _ _ _ _ _ _ [zco zau zat 93 v1 r2.1, cells b1 [zI r2.2.Err, zI r2.2.At] 26, zco zau zat 93 v2 r3.1, cells b2 [zI r3.2.Err, zI r3.2.At] 26, zbx zae zag 48 1 hd1.v r4.1.Stanzas, vec zam 36 6 hd2.v r4.2.1, cells b3 [.string r4.1.Title, hd1.v] 56, cells b4 [zI r4.2.2.Err, zI r4.2.2.At] 26, zbx zae zag 48 1 hd3.v r5.1.Stanzas, vec zam 36 6 hd4.v r5.2.1, cells b5 [.string r5.1.Title, hd3.v] 56, cells b6 [zI r5.2.2.Err, zI r5.2.2.At] 26]
  refine zap (zaj (zas (zas (zai (zbc (k := 1) (cs := [zI r2.2.Err, zI r2.2.At]) zhA rfl dc rfl rfl rfl rfl ?_)))))
  refine zbe (v := .agg #[zI 0, zI 0]) (ps := []) rfl dc rfl (fun _ => by kernel_rfl) ?_
  refine zaz rfl dc rfl rfl (zhq r2.2 (⟨0, 0⟩ : Gapi_Spot)) (zah rfl dc rfl ?_)
  refine za6 (s := 62) rfl (fun hb2 => ?_) (fun hb2 => ?_)
  ·
   have h := za0 hb2 h
   refine zan rfl dc (zan rfl dc (zan rfl dc (zaB (b := true) rfl dc rfl rfl (zap (zaj (zbu rfl (zas (zai ?_))))))))
   obtain ⟨r6, hq6, h⟩ := zbN h
   refine zbH (v := .bool r6) (vs := []) rfl dc rfl rfl rfl znw (zeP hq6) (zak rfl dc rfl (zap (zaj (zaX (zay ?_)))))
   cases h
   exact za3 (rs := [.tmp 12]) () (.inl rfl) Tryd.results8 (.cons (.tmp rfl) .nil) rfl Splits.nil
  ·
   have h := za1 hb2 h
   refine zbc (k := 3) (cs := [zI r3.2.Err, zI r3.2.At]) zhA rfl dc rfl rfl rfl rfl ?_
   refine zbe (v := .agg #[zI 0, zI 0]) (ps := []) rfl dc rfl (fun _ => by kernel_rfl) ?_
   refine zaz rfl dc rfl rfl (zhq r3.2 (⟨0, 0⟩ : Gapi_Spot)) (zaB (b := false) rfl dc rfl rfl (zap (zaj ?_)))
   refine zaM rfl (fun hb3 => ?_) (fun hb3 => ?_)
   ·
    have h := za0 hb3 h
    refine zas (zai ?_)
    obtain ⟨r7, hq7, h⟩ := zbN h
    refine zbH (v := .bool r7) (vs := []) rfl dc rfl rfl rfl znw (zeP hq7) (zak rfl dc rfl (zap (zaj (zaX (zay ?_)))))
    cases h
    exact za3 (rs := [.tmp 12]) () (.inl rfl) Tryd.results8 (.cons (.tmp rfl) .nil) rfl Splits.nil
   ·
    have h := za1 hb3 h
    refine zaP (zaj (zas (zai (zah rfl dc rfl (zah rfl dc rfl (zah rfl dc rfl ?_))))))
    obtain ⟨p1, hq8, h⟩ := zbN h
    refine ziy (As := [zco zau zat 93 v1 r2.1]) (zal [0] kr rfl) (zeV hq8) ?_
    rintro ⟨b7, hd5, hd6⟩ hv1
    subst hv1
    show TO _ _ _ _ _ _ _ _ _ _ [emp, cells b1 [zI r2.2.Err, zI r2.2.At] 26, zco zau zat 93 v2 r3.1, cells b2 [zI r3.2.Err, zI r3.2.At] 26, zbx zae zag 48 1 hd1.v r4.1.Stanzas, vec zam 36 6 hd2.v r4.2.1, cells b3 [.string r4.1.Title, hd1.v] 56, cells b4 [zI r4.2.2.Err, zI r4.2.2.At] 26, zbx zae zag 48 1 hd3.v r5.1.Stanzas, vec zam 36 6 hd4.v r5.2.1, cells b5 [.string r5.1.Title, hd3.v] 56, cells b6 [zI r5.2.2.Err, zI r5.2.2.At] 26, cells b7 [.string p1.told_title, hd5.v, hd6.v, .string p1.source] 93, vec zam 36 6 hd5.v p1.told_lines, vec zav 34 2 hd6.v p1.told_stanzas]
    obtain ⟨r8, hq9, h⟩ := zbN h
    refine zdw (vs := [zP b7, zI k1, .string line1]) (Rd.nil : Rd _ _ []) rfl dc rfl rfl rfl zo5 (zfY (bp1 := b7) (p1 := p1) (p1_h0 := hd5) (p1_h1 := hd6) hq9) Splits.nil (.own (zal [12] (by kernel_rfl) rfl) (fun _ _ h => sepL.one1.1 h) (.own (zal [13] (by kernel_rfl) rfl) (fun _ _ h => sepL.one1.1 h) (.own (zal [14] (by kernel_rfl) rfl) (fun _ _ h => sepL.one1.1 h) .nil))) ?_
    rintro v5
    show TO _ _ _ _ _ _ _ _ _ _ [emp, cells b1 [zI r2.2.Err, zI r2.2.At] 26, zco zau zat 93 v2 r3.1, cells b2 [zI r3.2.Err, zI r3.2.At] 26, zbx zae zag 48 1 hd1.v r4.1.Stanzas, vec zam 36 6 hd2.v r4.2.1, cells b3 [.string r4.1.Title, hd1.v] 56, cells b4 [zI r4.2.2.Err, zI r4.2.2.At] 26, zbx zae zag 48 1 hd3.v r5.1.Stanzas, vec zam 36 6 hd4.v r5.2.1, cells b5 [.string r5.1.Title, hd3.v] 56, cells b6 [zI r5.2.2.Err, zI r5.2.2.At] 26, cells b7 [.string p1.told_title, hd5.v, hd6.v, .string p1.source] 93, vec zam 36 6 hd5.v p1.told_lines, vec zav 34 2 hd6.v p1.told_stanzas, zco zau zat 93 v5 r8.1]
    refine zbw (L' := [emp, cells b1 [zI r2.2.Err, zI r2.2.At] 26, zco zau zat 93 v2 r3.1, cells b2 [zI r3.2.Err, zI r3.2.At] 26, zbx zae zag 48 1 hd1.v r4.1.Stanzas, vec zam 36 6 hd2.v r4.2.1, cells b3 [.string r4.1.Title, hd1.v] 56, cells b4 [zI r4.2.2.Err, zI r4.2.2.At] 26, zbx zae zag 48 1 hd3.v r5.1.Stanzas, vec zam 36 6 hd4.v r5.2.1, cells b5 [.string r5.1.Title, hd3.v] 56, cells b6 [zI r5.2.2.Err, zI r5.2.2.At] 26, cells b7 [.string p1.told_title, hd5.v, hd6.v, .string p1.source] 93, vec zam 36 6 hd5.v p1.told_lines, vec zav 34 2 hd6.v p1.told_stanzas, zco zau zat 93 v5 r8.1]) (zal [0, 1, 2, 3, 4, 5, 6, 7, 8, 9, 10, 11, 12, 13, 14, 15] kr rfl) (zah rfl dc rfl (zaS rfl dc rfl rfl (zaS rfl dc rfl rfl (zak rfl dc rfl (zak rfl dc rfl (zap (zaj (zas (zai (zbc (k := 6) (cs := [.string r4.1.Title, hd1.v]) zcw rfl dc rfl rfl rfl rfl (zah rfl dc rfl (zah rfl dc rfl ?_))))))))))))
    obtain ⟨r9, hq10, h⟩ := zbN h
    refine zdw (vs := [.agg #[.string r4.1.Title, hd1.v], zI k1, .string line1]) (Rd.nil : Rd _ _ []) rfl dc rfl rfl rfl zpU (zch (nest := zag) (e := 48) (v := hd1.v) (xs := r4.1.Stanzas) (RD1 := []) (RD2 := []) zaL za5 (fun zs_c0 hz_c0 hV_c0 => (zj1 (p1_h0 := hd1) (p1 := r4.1) hV_c0 hz_c0 hq10))) Splits.nil (.own (zal [4] (by kernel_rfl) rfl) (fun _ _ h => sepL.one1.1 h) .nil) ?_
    rintro hd7
    show TO _ _ _ _ _ _ _ _ _ _ [emp, cells b1 [zI r2.2.Err, zI r2.2.At] 26, zco zau zat 93 v2 r3.1, cells b2 [zI r3.2.Err, zI r3.2.At] 26, zbx zae zag 48 1 hd1.v r4.1.Stanzas, vec zam 36 6 hd2.v r4.2.1, cells b3 [.string r4.1.Title, hd1.v] 56, cells b4 [zI r4.2.2.Err, zI r4.2.2.At] 26, zbx zae zag 48 1 hd3.v r5.1.Stanzas, vec zam 36 6 hd4.v r5.2.1, cells b5 [.string r5.1.Title, hd3.v] 56, cells b6 [zI r5.2.2.Err, zI r5.2.2.At] 26, cells b7 [.string p1.told_title, hd5.v, hd6.v, .string p1.source] 93, vec zam 36 6 hd5.v p1.told_lines, vec zav 34 2 hd6.v p1.told_stanzas, zco zau zat 93 v5 r8.1, zbx zae zag 48 1 hd7.v r9.1.Stanzas]
    refine zbw (L' := [emp, cells b1 [zI r2.2.Err, zI r2.2.At] 26, zco zau zat 93 v2 r3.1, cells b2 [zI r3.2.Err, zI r3.2.At] 26, zbx zae zag 48 1 hd1.v r4.1.Stanzas, vec zam 36 6 hd2.v r4.2.1, cells b3 [.string r4.1.Title, hd1.v] 56, cells b4 [zI r4.2.2.Err, zI r4.2.2.At] 26, zbx zae zag 48 1 hd3.v r5.1.Stanzas, vec zam 36 6 hd4.v r5.2.1, cells b5 [.string r5.1.Title, hd3.v] 56, cells b6 [zI r5.2.2.Err, zI r5.2.2.At] 26, cells b7 [.string p1.told_title, hd5.v, hd6.v, .string p1.source] 93, vec zam 36 6 hd5.v p1.told_lines, vec zav 34 2 hd6.v p1.told_stanzas, zco zau zat 93 v5 r8.1, zbx zae zag 48 1 hd7.v r9.1.Stanzas]) (zal [0, 1, 2, 3, 4, 5, 6, 7, 8, 9, 10, 11, 12, 13, 14, 15, 16] kr rfl) (zah rfl dc rfl (zaS rfl dc rfl rfl (zaS rfl dc rfl rfl ?_)))
    refine zbl zgC rfl dc (fun b8 => ?_)
    refine zaZ (k := 17) (vs := [.string r9.1.Title, hd7.v]) (l' := [.string r9.1.Title, hd7.v]) zeG rfl rfl rfl rfl rfl (show _ ≤ _ by simp) rfl rfl ?_
    show TO _ _ _ _ _ _ _ _ _ _ [emp, cells b1 [zI r2.2.Err, zI r2.2.At] 26, zco zau zat 93 v2 r3.1, cells b2 [zI r3.2.Err, zI r3.2.At] 26, zbx zae zag 48 1 hd1.v r4.1.Stanzas, vec zam 36 6 hd2.v r4.2.1, cells b3 [.string r4.1.Title, hd1.v] 56, cells b4 [zI r4.2.2.Err, zI r4.2.2.At] 26, zbx zae zag 48 1 hd3.v r5.1.Stanzas, vec zam 36 6 hd4.v r5.2.1, cells b5 [.string r5.1.Title, hd3.v] 56, cells b6 [zI r5.2.2.Err, zI r5.2.2.At] 26, cells b7 [.string p1.told_title, hd5.v, hd6.v, .string p1.source] 93, vec zam 36 6 hd5.v p1.told_lines, vec zav 34 2 hd6.v p1.told_stanzas, zco zau zat 93 v5 r8.1, zbx zae zag 48 1 hd7.v r9.1.Stanzas, cells b8 [.string r9.1.Title, hd7.v] 56]
    refine zak rfl dc rfl (zap (zaj (zas (zai (zah rfl dc rfl (zah rfl dc rfl (zah rfl dc rfl ?_)))))))
    obtain ⟨r10, hq11, h⟩ := zbN h
    refine zdw (vs := [zP b7, zI from1, zI to1]) (Rd.nil : Rd _ _ []) rfl dc rfl rfl rfl zpV (zhB (bp1 := b7) (p1 := p1) (p1_h0 := hd5) (p1_h1 := hd6) hq11) Splits.nil (.own (zal [12] (by kernel_rfl) rfl) (fun _ _ h => sepL.one1.1 h) (.own (zal [13] (by kernel_rfl) rfl) (fun _ _ h => sepL.one1.1 h) (.own (zal [14] (by kernel_rfl) rfl) (fun _ _ h => sepL.one1.1 h) .nil))) ?_
    rintro v6
    show TO _ _ _ _ _ _ _ _ _ _ [emp, cells b1 [zI r2.2.Err, zI r2.2.At] 26, zco zau zat 93 v2 r3.1, cells b2 [zI r3.2.Err, zI r3.2.At] 26, zbx zae zag 48 1 hd1.v r4.1.Stanzas, vec zam 36 6 hd2.v r4.2.1, cells b3 [.string r4.1.Title, hd1.v] 56, cells b4 [zI r4.2.2.Err, zI r4.2.2.At] 26, zbx zae zag 48 1 hd3.v r5.1.Stanzas, vec zam 36 6 hd4.v r5.2.1, cells b5 [.string r5.1.Title, hd3.v] 56, cells b6 [zI r5.2.2.Err, zI r5.2.2.At] 26, cells b7 [.string p1.told_title, hd5.v, hd6.v, .string p1.source] 93, vec zam 36 6 hd5.v p1.told_lines, vec zav 34 2 hd6.v p1.told_stanzas, zco zau zat 93 v5 r8.1, zbx zae zag 48 1 hd7.v r9.1.Stanzas, cells b8 [.string r9.1.Title, hd7.v] 56, zco zau zat 93 v6 r10.1]
    refine zbw (L' := [emp, cells b1 [zI r2.2.Err, zI r2.2.At] 26, zco zau zat 93 v2 r3.1, cells b2 [zI r3.2.Err, zI r3.2.At] 26, zbx zae zag 48 1 hd1.v r4.1.Stanzas, vec zam 36 6 hd2.v r4.2.1, cells b3 [.string r4.1.Title, hd1.v] 56, cells b4 [zI r4.2.2.Err, zI r4.2.2.At] 26, zbx zae zag 48 1 hd3.v r5.1.Stanzas, vec zam 36 6 hd4.v r5.2.1, cells b5 [.string r5.1.Title, hd3.v] 56, cells b6 [zI r5.2.2.Err, zI r5.2.2.At] 26, cells b7 [.string p1.told_title, hd5.v, hd6.v, .string p1.source] 93, vec zam 36 6 hd5.v p1.told_lines, vec zav 34 2 hd6.v p1.told_stanzas, zco zau zat 93 v5 r8.1, zbx zae zag 48 1 hd7.v r9.1.Stanzas, cells b8 [.string r9.1.Title, hd7.v] 56, zco zau zat 93 v6 r10.1]) (zal [0, 1, 2, 3, 4, 5, 6, 7, 8, 9, 10, 11, 12, 13, 14, 15, 16, 17, 18] kr rfl) (zah rfl dc rfl (zaS rfl dc rfl rfl (zaS rfl dc rfl rfl (zak rfl dc rfl (zak rfl dc rfl (zap (zaj (zas (zai (zbc (k := 6) (cs := [.string r4.1.Title, hd1.v]) zcw rfl dc rfl rfl rfl rfl (zah rfl dc rfl (zah rfl dc rfl ?_))))))))))))
    obtain ⟨r11, hq12, h⟩ := zbN h
    refine zdw (vs := [.agg #[.string r4.1.Title, hd1.v], zI from1, zI to1]) (Rd.nil : Rd _ _ []) rfl dc rfl rfl rfl zpT (zch (nest := zag) (e := 48) (v := hd1.v) (xs := r4.1.Stanzas) (RD1 := []) (RD2 := []) zaL za5 (fun zs_c0 hz_c0 hV_c0 => (zj2 (p1_h0 := hd1) (p1 := r4.1) hV_c0 hz_c0 hq12))) Splits.nil (.own (zal [4] (by kernel_rfl) rfl) (fun _ _ h => sepL.one1.1 h) .nil) ?_
    rintro hd8
    show TO _ _ _ _ _ _ _ _ _ _ [emp, cells b1 [zI r2.2.Err, zI r2.2.At] 26, zco zau zat 93 v2 r3.1, cells b2 [zI r3.2.Err, zI r3.2.At] 26, zbx zae zag 48 1 hd1.v r4.1.Stanzas, vec zam 36 6 hd2.v r4.2.1, cells b3 [.string r4.1.Title, hd1.v] 56, cells b4 [zI r4.2.2.Err, zI r4.2.2.At] 26, zbx zae zag 48 1 hd3.v r5.1.Stanzas, vec zam 36 6 hd4.v r5.2.1, cells b5 [.string r5.1.Title, hd3.v] 56, cells b6 [zI r5.2.2.Err, zI r5.2.2.At] 26, cells b7 [.string p1.told_title, hd5.v, hd6.v, .string p1.source] 93, vec zam 36 6 hd5.v p1.told_lines, vec zav 34 2 hd6.v p1.told_stanzas, zco zau zat 93 v5 r8.1, zbx zae zag 48 1 hd7.v r9.1.Stanzas, cells b8 [.string r9.1.Title, hd7.v] 56, zco zau zat 93 v6 r10.1, zbx zae zag 48 1 hd8.v r11.1.Stanzas]
    refine zbw (L' := [emp, cells b1 [zI r2.2.Err, zI r2.2.At] 26, zco zau zat 93 v2 r3.1, cells b2 [zI r3.2.Err, zI r3.2.At] 26, zbx zae zag 48 1 hd1.v r4.1.Stanzas, vec zam 36 6 hd2.v r4.2.1, cells b3 [.string r4.1.Title, hd1.v] 56, cells b4 [zI r4.2.2.Err, zI r4.2.2.At] 26, zbx zae zag 48 1 hd3.v r5.1.Stanzas, vec zam 36 6 hd4.v r5.2.1, cells b5 [.string r5.1.Title, hd3.v] 56, cells b6 [zI r5.2.2.Err, zI r5.2.2.At] 26, cells b7 [.string p1.told_title, hd5.v, hd6.v, .string p1.source] 93, vec zam 36 6 hd5.v p1.told_lines, vec zav 34 2 hd6.v p1.told_stanzas, zco zau zat 93 v5 r8.1, zbx zae zag 48 1 hd7.v r9.1.Stanzas, cells b8 [.string r9.1.Title, hd7.v] 56, zco zau zat 93 v6 r10.1, zbx zae zag 48 1 hd8.v r11.1.Stanzas]) (zal [0, 1, 2, 3, 4, 5, 6, 7, 8, 9, 10, 11, 12, 13, 14, 15, 16, 17, 18, 19] kr rfl) (zah rfl dc rfl (zaS rfl dc rfl rfl (zaS rfl dc rfl rfl ?_)))
    refine zbl zgC rfl dc (fun b9 => ?_)
    refine zaZ (k := 20) (vs := [.string r11.1.Title, hd8.v]) (l' := [.string r11.1.Title, hd8.v]) zeG rfl rfl rfl rfl rfl (show _ ≤ _ by simp) rfl rfl ?_
    show TO _ _ _ _ _ _ _ _ _ _ [emp, cells b1 [zI r2.2.Err, zI r2.2.At] 26, zco zau zat 93 v2 r3.1, cells b2 [zI r3.2.Err, zI r3.2.At] 26, zbx zae zag 48 1 hd1.v r4.1.Stanzas, vec zam 36 6 hd2.v r4.2.1, cells b3 [.string r4.1.Title, hd1.v] 56, cells b4 [zI r4.2.2.Err, zI r4.2.2.At] 26, zbx zae zag 48 1 hd3.v r5.1.Stanzas, vec zam 36 6 hd4.v r5.2.1, cells b5 [.string r5.1.Title, hd3.v] 56, cells b6 [zI r5.2.2.Err, zI r5.2.2.At] 26, cells b7 [.string p1.told_title, hd5.v, hd6.v, .string p1.source] 93, vec zam 36 6 hd5.v p1.told_lines, vec zav 34 2 hd6.v p1.told_stanzas, zco zau zat 93 v5 r8.1, zbx zae zag 48 1 hd7.v r9.1.Stanzas, cells b8 [.string r9.1.Title, hd7.v] 56, zco zau zat 93 v6 r10.1, zbx zae zag 48 1 hd8.v r11.1.Stanzas, cells b9 [.string r11.1.Title, hd8.v] 56]
    refine zak rfl dc rfl (zap (zaj (zas (zai (zah rfl dc rfl (zah rfl dc rfl ?_))))))
    obtain ⟨p2, hq13, h⟩ := zbN h
    refine ziy (As := [zco zau zat 93 v2 r3.1]) (zal [2] kr rfl) (zeV hq13) ?_
    rintro ⟨b10, hd9, hd10⟩ hv2
    subst hv2
    show TO _ _ _ _ _ _ _ _ _ _ [emp, cells b1 [zI r2.2.Err, zI r2.2.At] 26, emp, cells b2 [zI r3.2.Err, zI r3.2.At] 26, zbx zae zag 48 1 hd1.v r4.1.Stanzas, vec zam 36 6 hd2.v r4.2.1, cells b3 [.string r4.1.Title, hd1.v] 56, cells b4 [zI r4.2.2.Err, zI r4.2.2.At] 26, zbx zae zag 48 1 hd3.v r5.1.Stanzas, vec zam 36 6 hd4.v r5.2.1, cells b5 [.string r5.1.Title, hd3.v] 56, cells b6 [zI r5.2.2.Err, zI r5.2.2.At] 26, cells b7 [.string p1.told_title, hd5.v, hd6.v, .string p1.source] 93, vec zam 36 6 hd5.v p1.told_lines, vec zav 34 2 hd6.v p1.told_stanzas, zco zau zat 93 v5 r8.1, zbx zae zag 48 1 hd7.v r9.1.Stanzas, cells b8 [.string r9.1.Title, hd7.v] 56, zco zau zat 93 v6 r10.1, zbx zae zag 48 1 hd8.v r11.1.Stanzas, cells b9 [.string r11.1.Title, hd8.v] 56, cells b10 [.string p2.told_title, hd9.v, hd10.v, .string p2.source] 93, vec zam 36 6 hd9.v p2.told_lines, vec zav 34 2 hd10.v p2.told_stanzas]
    obtain ⟨r12, hq14, h⟩ := zbN h
    refine zdw (vs := [zP b7, zP b10]) (Rd.nil : Rd _ _ []) rfl dc rfl rfl rfl zpW (zhh (bp1 := b7) (p1 := p1) (p1_h0 := hd5) (p1_h1 := hd6) (bq1 := b10) (q1 := p2) (q1_h0 := hd9) (q1_h1 := hd10) hq14) Splits.nil (.own (zal [12] (by kernel_rfl) rfl) (fun _ _ h => sepL.one1.1 h) (.own (zal [13] (by kernel_rfl) rfl) (fun _ _ h => sepL.one1.1 h) (.own (zal [14] (by kernel_rfl) rfl) (fun _ _ h => sepL.one1.1 h) (.own (zal [21] (by kernel_rfl) rfl) (fun _ _ h => sepL.one1.1 h) (.own (zal [22] (by kernel_rfl) rfl) (fun _ _ h => sepL.one1.1 h) (.own (zal [23] (by kernel_rfl) rfl) (fun _ _ h => sepL.one1.1 h) .nil)))))) ?_
    rintro v7
    show TO _ _ _ _ _ _ _ _ _ _ [emp, cells b1 [zI r2.2.Err, zI r2.2.At] 26, emp, cells b2 [zI r3.2.Err, zI r3.2.At] 26, zbx zae zag 48 1 hd1.v r4.1.Stanzas, vec zam 36 6 hd2.v r4.2.1, cells b3 [.string r4.1.Title, hd1.v] 56, cells b4 [zI r4.2.2.Err, zI r4.2.2.At] 26, zbx zae zag 48 1 hd3.v r5.1.Stanzas, vec zam 36 6 hd4.v r5.2.1, cells b5 [.string r5.1.Title, hd3.v] 56, cells b6 [zI r5.2.2.Err, zI r5.2.2.At] 26, cells b7 [.string p1.told_title, hd5.v, hd6.v, .string p1.source] 93, vec zam 36 6 hd5.v p1.told_lines, vec zav 34 2 hd6.v p1.told_stanzas, zco zau zat 93 v5 r8.1, zbx zae zag 48 1 hd7.v r9.1.Stanzas, cells b8 [.string r9.1.Title, hd7.v] 56, zco zau zat 93 v6 r10.1, zbx zae zag 48 1 hd8.v r11.1.Stanzas, cells b9 [.string r11.1.Title, hd8.v] 56, cells b10 [.string p2.told_title, hd9.v, hd10.v, .string p2.source] 93, vec zam 36 6 hd9.v p2.told_lines, vec zav 34 2 hd10.v p2.told_stanzas, zco zau zat 93 v7 r12.1]
    refine zbw (L' := [emp, cells b1 [zI r2.2.Err, zI r2.2.At] 26, emp, cells b2 [zI r3.2.Err, zI r3.2.At] 26, zbx zae zag 48 1 hd1.v r4.1.Stanzas, vec zam 36 6 hd2.v r4.2.1, cells b3 [.string r4.1.Title, hd1.v] 56, cells b4 [zI r4.2.2.Err, zI r4.2.2.At] 26, zbx zae zag 48 1 hd3.v r5.1.Stanzas, vec zam 36 6 hd4.v r5.2.1, cells b5 [.string r5.1.Title, hd3.v] 56, cells b6 [zI r5.2.2.Err, zI r5.2.2.At] 26, cells b7 [.string p1.told_title, hd5.v, hd6.v, .string p1.source] 93, vec zam 36 6 hd5.v p1.told_lines, vec zav 34 2 hd6.v p1.told_stanzas, zco zau zat 93 v5 r8.1, zbx zae zag 48 1 hd7.v r9.1.Stanzas, cells b8 [.string r9.1.Title, hd7.v] 56, zco zau zat 93 v6 r10.1, zbx zae zag 48 1 hd8.v r11.1.Stanzas, cells b9 [.string r11.1.Title, hd8.v] 56, cells b10 [.string p2.told_title, hd9.v, hd10.v, .string p2.source] 93, vec zam 36 6 hd9.v p2.told_lines, vec zav 34 2 hd10.v p2.told_stanzas, zco zau zat 93 v7 r12.1]) (zal [0, 1, 2, 3, 4, 5, 6, 7, 8, 9, 10, 11, 12, 13, 14, 15, 16, 17, 18, 19, 20, 21, 22, 23, 24] kr rfl) (zah rfl dc rfl (zaS rfl dc rfl rfl (zaS rfl dc rfl rfl (zak rfl dc rfl (zak rfl dc rfl (zap (zaj (zas (zai (zbc (k := 6) (cs := [.string r4.1.Title, hd1.v]) zcw rfl dc rfl rfl rfl rfl (zbc (k := 10) (cs := [.string r5.1.Title, hd3.v]) zcw rfl dc rfl rfl rfl rfl ?_)))))))))))
    refine zes (k := 4) rfl zhC (fun zs1 hz1 => ?_)
    show TO _ _ _ _ _ _ _ _ _ _ [emp, cells b1 [zI r2.2.Err, zI r2.2.At] 26, emp, cells b2 [zI r3.2.Err, zI r3.2.At] 26, vec zae 48 1 hd1.v zs1, vec zam 36 6 hd2.v r4.2.1, cells b3 [.string r4.1.Title, hd1.v] 56, cells b4 [zI r4.2.2.Err, zI r4.2.2.At] 26, zbx zae zag 48 1 hd3.v r5.1.Stanzas, vec zam 36 6 hd4.v r5.2.1, cells b5 [.string r5.1.Title, hd3.v] 56, cells b6 [zI r5.2.2.Err, zI r5.2.2.At] 26, cells b7 [.string p1.told_title, hd5.v, hd6.v, .string p1.source] 93, vec zam 36 6 hd5.v p1.told_lines, vec zav 34 2 hd6.v p1.told_stanzas, zco zau zat 93 v5 r8.1, zbx zae zag 48 1 hd7.v r9.1.Stanzas, cells b8 [.string r9.1.Title, hd7.v] 56, zco zau zat 93 v6 r10.1, zbx zae zag 48 1 hd8.v r11.1.Stanzas, cells b9 [.string r11.1.Title, hd8.v] 56, cells b10 [.string p2.told_title, hd9.v, hd10.v, .string p2.source] 93, vec zam 36 6 hd9.v p2.told_lines, vec zav 34 2 hd10.v p2.told_stanzas, zco zau zat 93 v7 r12.1, own zag zs1]
    refine zcA (k := 4) rfl (fun hw1 => ?_)
    refine zes (k := 8) rfl zhC (fun zs2 hz2 => ?_)
    show TO _ _ _ _ _ _ _ _ _ _ [emp, cells b1 [zI r2.2.Err, zI r2.2.At] 26, emp, cells b2 [zI r3.2.Err, zI r3.2.At] 26, vec zae 48 1 hd1.v zs1, vec zam 36 6 hd2.v r4.2.1, cells b3 [.string r4.1.Title, hd1.v] 56, cells b4 [zI r4.2.2.Err, zI r4.2.2.At] 26, vec zae 48 1 hd3.v zs2, vec zam 36 6 hd4.v r5.2.1, cells b5 [.string r5.1.Title, hd3.v] 56, cells b6 [zI r5.2.2.Err, zI r5.2.2.At] 26, cells b7 [.string p1.told_title, hd5.v, hd6.v, .string p1.source] 93, vec zam 36 6 hd5.v p1.told_lines, vec zav 34 2 hd6.v p1.told_stanzas, zco zau zat 93 v5 r8.1, zbx zae zag 48 1 hd7.v r9.1.Stanzas, cells b8 [.string r9.1.Title, hd7.v] 56, zco zau zat 93 v6 r10.1, zbx zae zag 48 1 hd8.v r11.1.Stanzas, cells b9 [.string r11.1.Title, hd8.v] 56, cells b10 [.string p2.told_title, hd9.v, hd10.v, .string p2.source] 93, vec zam 36 6 hd9.v p2.told_lines, vec zav 34 2 hd10.v p2.told_stanzas, zco zau zat 93 v7 r12.1, own zag zs1, own zag zs2]
    refine zcA (k := 8) rfl (fun hw2 => ?_)
    obtain ⟨r13, hq15, h⟩ := zbN h
    refine zdw (vs := [.agg #[.string r4.1.Title, hd1.v], .agg #[.string r5.1.Title, hd3.v]]) (Rd.nil : Rd _ _ []) rfl dc rfl rfl rfl zpS (zjn (p1_h0 := hd1) (p1 := r4.1) (q1_h0 := hd3) (q1 := r5.1) hw1 hz1 hw2 hz2 hq15) Splits.nil (.own (As := [vec zae 48 1 hd1.v zs1]) (zal [4] (by kernel_rfl) rfl) (fun _ _ h => zcr zaL (sepL.one1.1 h)) (.own (As := [own zag zs1]) (zal [25] (by kernel_rfl) rfl) (fun _ _ h => zdr za5 (sepL.one1.1 h)) (.own (As := [vec zae 48 1 hd3.v zs2]) (zal [8] (by kernel_rfl) rfl) (fun _ _ h => zcr zaL (sepL.one1.1 h)) (.own (As := [own zag zs2]) (zal [26] (by kernel_rfl) rfl) (fun _ _ h => zdr za5 (sepL.one1.1 h)) .nil)))) ?_
    rintro ⟨hd11, ⟨zs3, hz3, hm1⟩⟩
    show TO _ _ _ _ _ _ _ _ _ _ [emp, cells b1 [zI r2.2.Err, zI r2.2.At] 26, emp, cells b2 [zI r3.2.Err, zI r3.2.At] 26, vec zae 48 1 hd1.v zs1, vec zam 36 6 hd2.v r4.2.1, cells b3 [.string r4.1.Title, hd1.v] 56, cells b4 [zI r4.2.2.Err, zI r4.2.2.At] 26, vec zae 48 1 hd3.v zs2, vec zam 36 6 hd4.v r5.2.1, cells b5 [.string r5.1.Title, hd3.v] 56, cells b6 [zI r5.2.2.Err, zI r5.2.2.At] 26, cells b7 [.string p1.told_title, hd5.v, hd6.v, .string p1.source] 93, vec zam 36 6 hd5.v p1.told_lines, vec zav 34 2 hd6.v p1.told_stanzas, zco zau zat 93 v5 r8.1, zbx zae zag 48 1 hd7.v r9.1.Stanzas, cells b8 [.string r9.1.Title, hd7.v] 56, zco zau zat 93 v6 r10.1, zbx zae zag 48 1 hd8.v r11.1.Stanzas, cells b9 [.string r11.1.Title, hd8.v] 56, cells b10 [.string p2.told_title, hd9.v, hd10.v, .string p2.source] 93, vec zam 36 6 hd9.v p2.told_lines, vec zav 34 2 hd10.v p2.told_stanzas, zco zau zat 93 v7 r12.1, own zag zs1, own zag zs2, vec zae 48 1 hd11.v zs3]
    refine zbw (L' := [emp, cells b1 [zI r2.2.Err, zI r2.2.At] 26, emp, cells b2 [zI r3.2.Err, zI r3.2.At] 26, vec zae 48 1 hd1.v zs1, vec zam 36 6 hd2.v r4.2.1, cells b3 [.string r4.1.Title, hd1.v] 56, cells b4 [zI r4.2.2.Err, zI r4.2.2.At] 26, vec zae 48 1 hd3.v zs2, vec zam 36 6 hd4.v r5.2.1, cells b5 [.string r5.1.Title, hd3.v] 56, cells b6 [zI r5.2.2.Err, zI r5.2.2.At] 26, cells b7 [.string p1.told_title, hd5.v, hd6.v, .string p1.source] 93, vec zam 36 6 hd5.v p1.told_lines, vec zav 34 2 hd6.v p1.told_stanzas, zco zau zat 93 v5 r8.1, zbx zae zag 48 1 hd7.v r9.1.Stanzas, cells b8 [.string r9.1.Title, hd7.v] 56, zco zau zat 93 v6 r10.1, zbx zae zag 48 1 hd8.v r11.1.Stanzas, cells b9 [.string r11.1.Title, hd8.v] 56, cells b10 [.string p2.told_title, hd9.v, hd10.v, .string p2.source] 93, vec zam 36 6 hd9.v p2.told_lines, vec zav 34 2 hd10.v p2.told_stanzas, zco zau zat 93 v7 r12.1, own zag zs1, own zag zs2, vec zae 48 1 hd11.v zs3]) (zal [0, 1, 2, 3, 4, 5, 6, 7, 8, 9, 10, 11, 12, 13, 14, 15, 16, 17, 18, 19, 20, 21, 22, 23, 24, 25, 26, 27] kr rfl) (zah rfl dc rfl (zaS rfl dc rfl rfl (zaS rfl dc rfl rfl ?_)))
    refine zbl zgC rfl dc (fun b11 => ?_)
    refine zaZ (k := 28) (vs := [.string r13.1.Title, hd11.v]) (l' := [.string r13.1.Title, hd11.v]) zeG rfl rfl rfl rfl rfl (show _ ≤ _ by simp) rfl rfl ?_
    show TO _ _ _ _ _ _ _ _ _ _ [emp, cells b1 [zI r2.2.Err, zI r2.2.At] 26, emp, cells b2 [zI r3.2.Err, zI r3.2.At] 26, vec zae 48 1 hd1.v zs1, vec zam 36 6 hd2.v r4.2.1, cells b3 [.string r4.1.Title, hd1.v] 56, cells b4 [zI r4.2.2.Err, zI r4.2.2.At] 26, vec zae 48 1 hd3.v zs2, vec zam 36 6 hd4.v r5.2.1, cells b5 [.string r5.1.Title, hd3.v] 56, cells b6 [zI r5.2.2.Err, zI r5.2.2.At] 26, cells b7 [.string p1.told_title, hd5.v, hd6.v, .string p1.source] 93, vec zam 36 6 hd5.v p1.told_lines, vec zav 34 2 hd6.v p1.told_stanzas, zco zau zat 93 v5 r8.1, zbx zae zag 48 1 hd7.v r9.1.Stanzas, cells b8 [.string r9.1.Title, hd7.v] 56, zco zau zat 93 v6 r10.1, zbx zae zag 48 1 hd8.v r11.1.Stanzas, cells b9 [.string r11.1.Title, hd8.v] 56, cells b10 [.string p2.told_title, hd9.v, hd10.v, .string p2.source] 93, vec zam 36 6 hd9.v p2.told_lines, vec zav 34 2 hd10.v p2.told_stanzas, zco zau zat 93 v7 r12.1, own zag zs1, own zag zs2, vec zae 48 1 hd11.v zs3, cells b11 [.string r13.1.Title, hd11.v] 56]
    refine zak rfl dc rfl (zap (zaj (zas ?_)))
    obtain ⟨r14, hq16, h⟩ := zbN h
    refine zdk (b := r14) (fun hb4 => ?_) (fun hb4 => ?_)
    ·
     have h := za0 hb4 h
     obtain ⟨r15, hq17, h⟩ := zbN h
     refine zdk (b := r15) (fun hb5 => ?_) (fun hb5 => ?_)
     ·
      have h := za0 hb5 h
      obtain ⟨r16, hq18, h⟩ := zbN h
      refine zdk (b := r16) (fun hb6 => ?_) (fun hb6 => ?_)
      ·
       have h := za0 hb6 h
       obtain ⟨r17, hq19, h⟩ := zbN h
       obtain ⟨r18, hq20, h⟩ := zbN h
       refine zdk (b := r17 == r18) (fun hb7 => ?_) (fun hb7 => ?_)
       ·
        have h := za0 hb7 h
        obtain ⟨r19, hq21, h⟩ := zbN h
        refine zdk (b := r19) (fun hb8 => ?_) (fun hb8 => ?_)
        ·
         have h := za0 hb8 h
         obtain ⟨r20, hq22, h⟩ := zbN h
         refine zbR 33 [(0, 108, v5), (1, 109, zI r8.2), (2, 110, .agg #[.string r9.1.Title, hd7.v]), (3, 111, zI r9.2), (4, 112, .bool true), (5, 113, .bool true), (6, 114, v6), (7, 115, zI r10.2), (8, 116, .agg #[.string r11.1.Title, hd8.v]), (9, 117, zI r11.2), (10, 118, .bool true), (11, 119, .bool true), (12, 120, .bool true), (13, 121, v7), (14, 122, zI r12.2), (15, 123, .agg #[.string r13.1.Title, hd11.v]), (16, 124, zI r13.2), (17, 125, .bool true), (18, 126, .bool true), (19, 127, .bool true), (20, 128, zP b7), (21, 129, zP b10), (22, 130, .bool r17), (23, 131, .agg #[.string r4.1.Title, hd1.v]), (24, 132, .agg #[.string r5.1.Title, hd3.v]), (25, 133, .bool r18), (26, 134, .bool true), (27, 135, .bool true), (28, 136, .bool true), (29, 137, zP b7), (30, 138, .string s1), (31, 139, .agg #[.string r4.1.Title, hd1.v]), (32, 140, hd2.v)] mixed kr kr dc (by rfl) kr kr (zac ?_ (zac ?_ (zac ?_ (zac ?_ (zac ?_ (zac ?_ (zac ?_ (zac ?_ (zac ?_ (zac ?_ (zac ?_ (zac ?_ (zac ?_ (zac ?_ (zac ?_ (zac ?_ (zac ?_ (zac ?_ (zac ?_ (zac ?_ (zac ?_ (zac ?_ (zac ?_ (zac ?_ (zac ?_ (zac ?_ (zac ?_ (zac ?_ (zac ?_ (zac ?_ (zac ?_ (zac ?_ (zac ?_ DrawPre.nil))))))))))))))))))))))))))))))))) ?_
         ·
          intro D hn hd hcl hu hi
          refine zah rfl dc (zaE (by rfl) rfl) ?_
          exact zaf 0 hu hi rfl
         ·
          intro D hn hd hcl hu hi
          refine zah rfl dc (zaE (by rfl) rfl) ?_
          exact zaf 1 hu hi rfl
         ·
          intro D hn hd hcl hu hi
          refine zbc (k := 17) (cs := [.string r9.1.Title, hd7.v]) zcw rfl dc (zaE (by rfl) rfl) rfl rfl rfl ?_
          exact zaf 2 hu hi rfl
         ·
          intro D hn hd hcl hu hi
          refine zah rfl dc (zaE (by rfl) rfl) ?_
          exact zaf 3 hu hi rfl
         ·
          intro D hn hd hcl hu hi
          refine za4 (v := .bool r14) (vs := [v5, zI r8.2, .agg #[.string r9.1.Title, hd7.v], zI r9.2]) (Rd.nil : Rd _ _ []) rfl dc rfl (evL.cons (zab (m := 0) hu rfl (hd 0 dc)) (evL.cons (zab (m := 1) hu rfl (hd 1 dc)) (evL.cons (zab (m := 2) hu rfl (hd 2 dc)) (evL.cons (zab (m := 3) hu rfl (hd 3 dc)) evL.nil)))) rfl zgL (zch (nest := zag) (e := 48) (v := hd7.v) (xs := r9.1.Stanzas) (RD1 := [_]) (RD2 := []) zaL za5 (fun zs_c1 hz_c1 hV_c1 => (zbz (v := v5) (m := r8.1) (wv1_h0 := hd7) (wv1 := r9.1) hV_c1 hz_c1 hq16))) (.own (zal [15] (by kernel_rfl) rfl) (fun _ _ h => sepL.one1.1 h) (.own (zal [16] (by kernel_rfl) rfl) (fun _ _ h => sepL.one1.1 h) .nil)) ?_
          refine zbP (show Value.bool (r14) = Value.bool true from congrArg Value.bool hb4) ?_
          exact zaf 4 hu hi rfl
         ·
          intro D hn hd hcl hu hi
          refine zah rfl dc (zab (m := 4) hu rfl (hd 4 dc)) ?_
          exact zaf 5 hu hi rfl
         ·
          intro D hn hd hcl hu hi
          refine zah (zbD rfl (zab (m := 5) hu rfl (hd 5 dc))) dc (zaE (by rfl) rfl) ?_
          exact zaf 6 hu hi rfl
         ·
          intro D hn hd hcl hu hi
          refine zah (zbD rfl (zab (m := 5) hu rfl (hd 5 dc))) dc (zaE (by rfl) rfl) ?_
          exact zaf 7 hu hi rfl
         ·
          intro D hn hd hcl hu hi
          refine zbc (k := 20) (cs := [.string r11.1.Title, hd8.v]) zcw (zbD rfl (zab (m := 5) hu rfl (hd 5 dc))) dc (zaE (by rfl) rfl) rfl rfl rfl ?_
          exact zaf 8 hu hi rfl
         ·
          intro D hn hd hcl hu hi
          refine zah (zbD rfl (zab (m := 5) hu rfl (hd 5 dc))) dc (zaE (by rfl) rfl) ?_
          exact zaf 9 hu hi rfl
         ·
          intro D hn hd hcl hu hi
          refine za4 (v := .bool r15) (vs := [v6, zI r10.2, .agg #[.string r11.1.Title, hd8.v], zI r11.2]) (Rd.nil : Rd _ _ []) (zbD rfl (zab (m := 5) hu rfl (hd 5 dc))) dc rfl (evL.cons (zab (m := 6) hu rfl (hd 6 dc)) (evL.cons (zab (m := 7) hu rfl (hd 7 dc)) (evL.cons (zab (m := 8) hu rfl (hd 8 dc)) (evL.cons (zab (m := 9) hu rfl (hd 9 dc)) evL.nil)))) rfl zgL (zch (nest := zag) (e := 48) (v := hd8.v) (xs := r11.1.Stanzas) (RD1 := [_]) (RD2 := []) zaL za5 (fun zs_c1 hz_c1 hV_c1 => (zbz (v := v6) (m := r10.1) (wv1_h0 := hd8) (wv1 := r11.1) hV_c1 hz_c1 hq17))) (.own (zal [18] (by kernel_rfl) rfl) (fun _ _ h => sepL.one1.1 h) (.own (zal [19] (by kernel_rfl) rfl) (fun _ _ h => sepL.one1.1 h) .nil)) ?_
          refine zbP (show Value.bool (r15) = Value.bool true from congrArg Value.bool hb5) ?_
          exact zaf 10 hu hi rfl
         ·
          intro D hn hd hcl hu hi
          refine zaB (b := true) rfl dc (zab (m := 5) hu rfl (hd 5 dc)) (zab (m := 10) hu rfl (hd 10 dc)) ?_
          exact zaf 11 hu hi rfl
         ·
          intro D hn hd hcl hu hi
          refine zah rfl dc (zab (m := 11) hu rfl (hd 11 dc)) ?_
          exact zaf 12 hu hi rfl
         ·
          intro D hn hd hcl hu hi
          refine zah (zbD rfl (zab (m := 12) hu rfl (hd 12 dc))) dc (zaE (by rfl) rfl) ?_
          exact zaf 13 hu hi rfl
         ·
          intro D hn hd hcl hu hi
          refine zah (zbD rfl (zab (m := 12) hu rfl (hd 12 dc))) dc (zaE (by rfl) rfl) ?_
          exact zaf 14 hu hi rfl
         ·
          intro D hn hd hcl hu hi
          refine zbc (k := 28) (cs := [.string r13.1.Title, hd11.v]) zcw (zbD rfl (zab (m := 12) hu rfl (hd 12 dc))) dc (zaE (by rfl) rfl) rfl rfl rfl ?_
          exact zaf 15 hu hi rfl
         ·
          intro D hn hd hcl hu hi
          refine zah (zbD rfl (zab (m := 12) hu rfl (hd 12 dc))) dc (zaE (by rfl) rfl) ?_
          exact zaf 16 hu hi rfl
         ·
          intro D hn hd hcl hu hi
          refine zcA (k := 27) rfl (fun hw3 => ?_)
          refine za4 (v := .bool r16) (vs := [v7, zI r12.2, .agg #[.string r13.1.Title, hd11.v], zI r13.2]) (Rd.nil : Rd _ _ []) (zbD rfl (zab (m := 12) hu rfl (hd 12 dc))) dc rfl (evL.cons (zab (m := 13) hu rfl (hd 13 dc)) (evL.cons (zab (m := 14) hu rfl (hd 14 dc)) (evL.cons (zab (m := 15) hu rfl (hd 15 dc)) (evL.cons (zab (m := 16) hu rfl (hd 16 dc)) evL.nil)))) rfl zgL (zbz (v := v7) (m := r12.1) (wv1_h0 := hd11) (wv1 := r13.1) hw3 hz3 hq18) (.own (zal [24] (by kernel_rfl) rfl) (fun _ _ h => sepL.one1.1 h) (.own (As := [vec zae 48 1 hd11.v zs3]) (zal [27] (by kernel_rfl) rfl) (fun _ _ h => zcr zaL (sepL.one1.1 h)) (.own (As := [own zag zs1, own zag zs2]) (zal [25, 26] (by kernel_rfl) rfl) (fun _ _ h => zgU za5 hm1 h) .nil))) ?_
          refine zbP (show Value.bool (r16) = Value.bool true from congrArg Value.bool hb6) ?_
          exact zaf 17 hu hi rfl
         ·
          intro D hn hd hcl hu hi
          refine zaB (b := true) rfl dc (zab (m := 12) hu rfl (hd 12 dc)) (zab (m := 17) hu rfl (hd 17 dc)) ?_
          exact zaf 18 hu hi rfl
         ·
          intro D hn hd hcl hu hi
          refine zah rfl dc (zab (m := 18) hu rfl (hd 18 dc)) ?_
          exact zaf 19 hu hi rfl
         ·
          intro D hn hd hcl hu hi
          refine zah (zbD rfl (zab (m := 19) hu rfl (hd 19 dc))) dc (zaE (by rfl) rfl) ?_
          exact zaf 20 hu hi rfl
         ·
          intro D hn hd hcl hu hi
          refine zah (zbD rfl (zab (m := 19) hu rfl (hd 19 dc))) dc (zaE (by rfl) rfl) ?_
          exact zaf 21 hu hi rfl
         ·
          intro D hn hd hcl hu hi
          refine za4 (v := .bool r17) (vs := [zP b7, zP b10]) (Rd.nil : Rd _ _ []) (zbD rfl (zab (m := 19) hu rfl (hd 19 dc))) dc rfl (evL.cons (zab (m := 20) hu rfl (hd 20 dc)) (evL.cons (zab (m := 21) hu rfl (hd 21 dc)) evL.nil)) rfl zmL (zdH (bp1 := b7) (p1 := p1) (p1_h0 := hd5) (p1_h1 := hd6) (bq1 := b10) (q1 := p2) (q1_h0 := hd9) (q1_h1 := hd10) hq19) (.own (zal [12] (by kernel_rfl) rfl) (fun _ _ h => sepL.one1.1 h) (.own (zal [13] (by kernel_rfl) rfl) (fun _ _ h => sepL.one1.1 h) (.own (zal [14] (by kernel_rfl) rfl) (fun _ _ h => sepL.one1.1 h) (.own (zal [21] (by kernel_rfl) rfl) (fun _ _ h => sepL.one1.1 h) (.own (zal [22] (by kernel_rfl) rfl) (fun _ _ h => sepL.one1.1 h) (.own (zal [23] (by kernel_rfl) rfl) (fun _ _ h => sepL.one1.1 h) .nil)))))) ?_
          exact zaf 22 hu hi rfl
         ·
          intro D hn hd hcl hu hi
          refine zbc (k := 6) (cs := [.string r4.1.Title, hd1.v]) zcw (zbD rfl (zab (m := 19) hu rfl (hd 19 dc))) dc (zaE (by rfl) rfl) rfl rfl rfl ?_
          exact zaf 23 hu hi rfl
         ·
          intro D hn hd hcl hu hi
          refine zbc (k := 10) (cs := [.string r5.1.Title, hd3.v]) zcw (zbD rfl (zab (m := 19) hu rfl (hd 19 dc))) dc (zaE (by rfl) rfl) rfl rfl rfl ?_
          exact zaf 24 hu hi rfl
         ·
          intro D hn hd hcl hu hi
          refine zcA (k := 4) rfl (fun hw4 => ?_)
          refine zcA (k := 8) rfl (fun hw5 => ?_)
          refine za4 (v := .bool r18) (vs := [.agg #[.string r4.1.Title, hd1.v], .agg #[.string r5.1.Title, hd3.v]]) (Rd.nil : Rd _ _ []) (zbD rfl (zab (m := 19) hu rfl (hd 19 dc))) dc rfl (evL.cons (zab (m := 23) hu rfl (hd 23 dc)) (evL.cons (zab (m := 24) hu rfl (hd 24 dc)) evL.nil)) rfl zol (zfS (p1_h0 := hd1) (p1 := r4.1) (q1_h0 := hd3) (q1 := r5.1) hw4 hz1 hw5 hz2 hq20) (.own (As := [vec zae 48 1 hd1.v zs1]) (zal [4] (by kernel_rfl) rfl) (fun _ _ h => zcr zaL (sepL.one1.1 h)) (.own (As := [own zag zs1]) (zal [25] (by kernel_rfl) rfl) (fun _ _ h => zdr za5 (sepL.one1.1 h)) (.own (As := [vec zae 48 1 hd3.v zs2]) (zal [8] (by kernel_rfl) rfl) (fun _ _ h => zcr zaL (sepL.one1.1 h)) (.own (As := [own zag zs2]) (zal [26] (by kernel_rfl) rfl) (fun _ _ h => zdr za5 (sepL.one1.1 h)) .nil)))) ?_
          exact zaf 25 hu hi rfl
         ·
          intro D hn hd hcl hu hi
          refine zaz (zbD rfl (zab (m := 19) hu rfl (hd 19 dc))) dc (zab (m := 22) hu rfl (hd 22 dc)) (zab (m := 25) hu rfl (hd 25 dc)) (zgM Tryd.underlying4) (zbP (show Value.bool (r17 == r18) = Value.bool true from congrArg Value.bool hb7) ?_)
          exact zaf 26 hu hi rfl
         ·
          intro D hn hd hcl hu hi
          refine zaB (b := true) rfl dc (zab (m := 19) hu rfl (hd 19 dc)) (zab (m := 26) hu rfl (hd 26 dc)) ?_
          exact zaf 27 hu hi rfl
         ·
          intro D hn hd hcl hu hi
          refine zah rfl dc (zab (m := 27) hu rfl (hd 27 dc)) ?_
          exact zaf 28 hu hi rfl
         ·
          intro D hn hd hcl hu hi
          refine zah (zbD rfl (zab (m := 28) hu rfl (hd 28 dc))) dc (zaE (by rfl) rfl) ?_
          exact zaf 29 hu hi rfl
         ·
          intro D hn hd hcl hu hi
          refine zah (zbD rfl (zab (m := 28) hu rfl (hd 28 dc))) dc (zaE (by rfl) rfl) ?_
          exact zaf 30 hu hi rfl
         ·
          intro D hn hd hcl hu hi
          refine zbc (k := 6) (cs := [.string r4.1.Title, hd1.v]) zcw (zbD rfl (zab (m := 28) hu rfl (hd 28 dc))) dc (zaE (by rfl) rfl) rfl rfl rfl ?_
          exact zaf 31 hu hi rfl
         ·
          intro D hn hd hcl hu hi
          refine zah (zbD rfl (zab (m := 28) hu rfl (hd 28 dc))) dc (zaE (by rfl) rfl) ?_
          exact zaf 32 hu hi rfl
         refine zcA (k := 4) rfl (fun hw6 => ?_)
         refine zcA (k := 5) rfl (fun hw7 => ?_)
         refine za4 (v := .bool r19) (vs := [zP b7, .string s1, .agg #[.string r4.1.Title, hd1.v], hd2.v]) (Rd.nil : Rd _ _ []) rfl dc rfl rfl rfl zns (zgJ (bp1 := b7) (p1 := p1) (p1_h0 := hd5) (p1_h1 := hd6) (wv1_h0 := hd1) (wv1 := r4.1) hw6 hz1 hw7 hq21) (.own (zal [12] (by kernel_rfl) rfl) (fun _ _ h => sepL.one1.1 h) (.own (zal [13] (by kernel_rfl) rfl) (fun _ _ h => sepL.one1.1 h) (.own (zal [14] (by kernel_rfl) rfl) (fun _ _ h => sepL.one1.1 h) (.own (As := [vec zae 48 1 hd1.v zs1]) (zal [4] (by kernel_rfl) rfl) (fun _ _ h => zcr zaL (sepL.one1.1 h)) (.own (As := [own zag zs1]) (zal [25] (by kernel_rfl) rfl) (fun _ _ h => zdr za5 (sepL.one1.1 h)) (.own (As := [vec zam 36 6 hd2.v r4.2.1]) (zal [5] (by kernel_rfl) rfl) (fun _ _ h => zeS zbI (sepL.one1.1 h)) .nil)))))) ?_
         refine zbP (show Value.bool (r19) = Value.bool true from congrArg Value.bool hb8) (zaB (b := true) rfl dc rfl rfl (zah rfl dc rfl (zbH (v := .bool r20) (vs := []) rfl dc rfl rfl rfl znw (zeP hq22) (zaB (b := true) rfl dc rfl rfl (zak rfl dc rfl (zap (zaj (zaX ?_))))))))
         cases h
         exact za3 (rs := [.tmp 12]) () (.inl rfl) Tryd.results8 (.cons (.tmp rfl) .nil) rfl Splits.nil
        ·
         have h := za1 hb8 h
         refine zbR 33 [(0, 108, v5), (1, 109, zI r8.2), (2, 110, .agg #[.string r9.1.Title, hd7.v]), (3, 111, zI r9.2), (4, 112, .bool true), (5, 113, .bool true), (6, 114, v6), (7, 115, zI r10.2), (8, 116, .agg #[.string r11.1.Title, hd8.v]), (9, 117, zI r11.2), (10, 118, .bool true), (11, 119, .bool true), (12, 120, .bool true), (13, 121, v7), (14, 122, zI r12.2), (15, 123, .agg #[.string r13.1.Title, hd11.v]), (16, 124, zI r13.2), (17, 125, .bool true), (18, 126, .bool true), (19, 127, .bool true), (20, 128, zP b7), (21, 129, zP b10), (22, 130, .bool r17), (23, 131, .agg #[.string r4.1.Title, hd1.v]), (24, 132, .agg #[.string r5.1.Title, hd3.v]), (25, 133, .bool r18), (26, 134, .bool true), (27, 135, .bool true), (28, 136, .bool true), (29, 137, zP b7), (30, 138, .string s1), (31, 139, .agg #[.string r4.1.Title, hd1.v]), (32, 140, hd2.v)] mixed kr kr dc (by rfl) kr kr (zac ?_ (zac ?_ (zac ?_ (zac ?_ (zac ?_ (zac ?_ (zac ?_ (zac ?_ (zac ?_ (zac ?_ (zac ?_ (zac ?_ (zac ?_ (zac ?_ (zac ?_ (zac ?_ (zac ?_ (zac ?_ (zac ?_ (zac ?_ (zac ?_ (zac ?_ (zac ?_ (zac ?_ (zac ?_ (zac ?_ (zac ?_ (zac ?_ (zac ?_ (zac ?_ (zac ?_ (zac ?_ (zac ?_ DrawPre.nil))))))))))))))))))))))))))))))))) ?_
         ·
          intro D hn hd hcl hu hi
          refine zah rfl dc (zaE (by rfl) rfl) ?_
          exact zaf 0 hu hi rfl
         ·
          intro D hn hd hcl hu hi
          refine zah rfl dc (zaE (by rfl) rfl) ?_
          exact zaf 1 hu hi rfl
         ·
          intro D hn hd hcl hu hi
          refine zbc (k := 17) (cs := [.string r9.1.Title, hd7.v]) zcw rfl dc (zaE (by rfl) rfl) rfl rfl rfl ?_
          exact zaf 2 hu hi rfl
         ·
          intro D hn hd hcl hu hi
          refine zah rfl dc (zaE (by rfl) rfl) ?_
          exact zaf 3 hu hi rfl
         ·
          intro D hn hd hcl hu hi
          refine za4 (v := .bool r14) (vs := [v5, zI r8.2, .agg #[.string r9.1.Title, hd7.v], zI r9.2]) (Rd.nil : Rd _ _ []) rfl dc rfl (evL.cons (zab (m := 0) hu rfl (hd 0 dc)) (evL.cons (zab (m := 1) hu rfl (hd 1 dc)) (evL.cons (zab (m := 2) hu rfl (hd 2 dc)) (evL.cons (zab (m := 3) hu rfl (hd 3 dc)) evL.nil)))) rfl zgL (zch (nest := zag) (e := 48) (v := hd7.v) (xs := r9.1.Stanzas) (RD1 := [_]) (RD2 := []) zaL za5 (fun zs_c1 hz_c1 hV_c1 => (zbz (v := v5) (m := r8.1) (wv1_h0 := hd7) (wv1 := r9.1) hV_c1 hz_c1 hq16))) (.own (zal [15] (by kernel_rfl) rfl) (fun _ _ h => sepL.one1.1 h) (.own (zal [16] (by kernel_rfl) rfl) (fun _ _ h => sepL.one1.1 h) .nil)) ?_
          refine zbP (show Value.bool (r14) = Value.bool true from congrArg Value.bool hb4) ?_
          exact zaf 4 hu hi rfl
         ·
          intro D hn hd hcl hu hi
          refine zah rfl dc (zab (m := 4) hu rfl (hd 4 dc)) ?_
          exact zaf 5 hu hi rfl
         ·
          intro D hn hd hcl hu hi
          refine zah (zbD rfl (zab (m := 5) hu rfl (hd 5 dc))) dc (zaE (by rfl) rfl) ?_
          exact zaf 6 hu hi rfl
         ·
          intro D hn hd hcl hu hi
          refine zah (zbD rfl (zab (m := 5) hu rfl (hd 5 dc))) dc (zaE (by rfl) rfl) ?_
          exact zaf 7 hu hi rfl
         ·
          intro D hn hd hcl hu hi
          refine zbc (k := 20) (cs := [.string r11.1.Title, hd8.v]) zcw (zbD rfl (zab (m := 5) hu rfl (hd 5 dc))) dc (zaE (by rfl) rfl) rfl rfl rfl ?_
          exact zaf 8 hu hi rfl
         ·
          intro D hn hd hcl hu hi
          refine zah (zbD rfl (zab (m := 5) hu rfl (hd 5 dc))) dc (zaE (by rfl) rfl) ?_
          exact zaf 9 hu hi rfl
         ·
          intro D hn hd hcl hu hi
          refine za4 (v := .bool r15) (vs := [v6, zI r10.2, .agg #[.string r11.1.Title, hd8.v], zI r11.2]) (Rd.nil : Rd _ _ []) (zbD rfl (zab (m := 5) hu rfl (hd 5 dc))) dc rfl (evL.cons (zab (m := 6) hu rfl (hd 6 dc)) (evL.cons (zab (m := 7) hu rfl (hd 7 dc)) (evL.cons (zab (m := 8) hu rfl (hd 8 dc)) (evL.cons (zab (m := 9) hu rfl (hd 9 dc)) evL.nil)))) rfl zgL (zch (nest := zag) (e := 48) (v := hd8.v) (xs := r11.1.Stanzas) (RD1 := [_]) (RD2 := []) zaL za5 (fun zs_c1 hz_c1 hV_c1 => (zbz (v := v6) (m := r10.1) (wv1_h0 := hd8) (wv1 := r11.1) hV_c1 hz_c1 hq17))) (.own (zal [18] (by kernel_rfl) rfl) (fun _ _ h => sepL.one1.1 h) (.own (zal [19] (by kernel_rfl) rfl) (fun _ _ h => sepL.one1.1 h) .nil)) ?_
          refine zbP (show Value.bool (r15) = Value.bool true from congrArg Value.bool hb5) ?_
          exact zaf 10 hu hi rfl
         ·
          intro D hn hd hcl hu hi
          refine zaB (b := true) rfl dc (zab (m := 5) hu rfl (hd 5 dc)) (zab (m := 10) hu rfl (hd 10 dc)) ?_
          exact zaf 11 hu hi rfl
         ·
          intro D hn hd hcl hu hi
          refine zah rfl dc (zab (m := 11) hu rfl (hd 11 dc)) ?_
          exact zaf 12 hu hi rfl
         ·
          intro D hn hd hcl hu hi
          refine zah (zbD rfl (zab (m := 12) hu rfl (hd 12 dc))) dc (zaE (by rfl) rfl) ?_
          exact zaf 13 hu hi rfl
         ·
          intro D hn hd hcl hu hi
          refine zah (zbD rfl (zab (m := 12) hu rfl (hd 12 dc))) dc (zaE (by rfl) rfl) ?_
          exact zaf 14 hu hi rfl
         ·
          intro D hn hd hcl hu hi
          refine zbc (k := 28) (cs := [.string r13.1.Title, hd11.v]) zcw (zbD rfl (zab (m := 12) hu rfl (hd 12 dc))) dc (zaE (by rfl) rfl) rfl rfl rfl ?_
          exact zaf 15 hu hi rfl
         ·
          intro D hn hd hcl hu hi
          refine zah (zbD rfl (zab (m := 12) hu rfl (hd 12 dc))) dc (zaE (by rfl) rfl) ?_
          exact zaf 16 hu hi rfl
         ·
          intro D hn hd hcl hu hi
          refine zcA (k := 27) rfl (fun hw3 => ?_)
          refine za4 (v := .bool r16) (vs := [v7, zI r12.2, .agg #[.string r13.1.Title, hd11.v], zI r13.2]) (Rd.nil : Rd _ _ []) (zbD rfl (zab (m := 12) hu rfl (hd 12 dc))) dc rfl (evL.cons (zab (m := 13) hu rfl (hd 13 dc)) (evL.cons (zab (m := 14) hu rfl (hd 14 dc)) (evL.cons (zab (m := 15) hu rfl (hd 15 dc)) (evL.cons (zab (m := 16) hu rfl (hd 16 dc)) evL.nil)))) rfl zgL (zbz (v := v7) (m := r12.1) (wv1_h0 := hd11) (wv1 := r13.1) hw3 hz3 hq18) (.own (zal [24] (by kernel_rfl) rfl) (fun _ _ h => sepL.one1.1 h) (.own (As := [vec zae 48 1 hd11.v zs3]) (zal [27] (by kernel_rfl) rfl) (fun _ _ h => zcr zaL (sepL.one1.1 h)) (.own (As := [own zag zs1, own zag zs2]) (zal [25, 26] (by kernel_rfl) rfl) (fun _ _ h => zgU za5 hm1 h) .nil))) ?_
          refine zbP (show Value.bool (r16) = Value.bool true from congrArg Value.bool hb6) ?_
          exact zaf 17 hu hi rfl
         ·
          intro D hn hd hcl hu hi
          refine zaB (b := true) rfl dc (zab (m := 12) hu rfl (hd 12 dc)) (zab (m := 17) hu rfl (hd 17 dc)) ?_
          exact zaf 18 hu hi rfl
         ·
          intro D hn hd hcl hu hi
          refine zah rfl dc (zab (m := 18) hu rfl (hd 18 dc)) ?_
          exact zaf 19 hu hi rfl
         ·
          intro D hn hd hcl hu hi
          refine zah (zbD rfl (zab (m := 19) hu rfl (hd 19 dc))) dc (zaE (by rfl) rfl) ?_
          exact zaf 20 hu hi rfl
         ·
          intro D hn hd hcl hu hi
          refine zah (zbD rfl (zab (m := 19) hu rfl (hd 19 dc))) dc (zaE (by rfl) rfl) ?_
          exact zaf 21 hu hi rfl
         ·
          intro D hn hd hcl hu hi
          refine za4 (v := .bool r17) (vs := [zP b7, zP b10]) (Rd.nil : Rd _ _ []) (zbD rfl (zab (m := 19) hu rfl (hd 19 dc))) dc rfl (evL.cons (zab (m := 20) hu rfl (hd 20 dc)) (evL.cons (zab (m := 21) hu rfl (hd 21 dc)) evL.nil)) rfl zmL (zdH (bp1 := b7) (p1 := p1) (p1_h0 := hd5) (p1_h1 := hd6) (bq1 := b10) (q1 := p2) (q1_h0 := hd9) (q1_h1 := hd10) hq19) (.own (zal [12] (by kernel_rfl) rfl) (fun _ _ h => sepL.one1.1 h) (.own (zal [13] (by kernel_rfl) rfl) (fun _ _ h => sepL.one1.1 h) (.own (zal [14] (by kernel_rfl) rfl) (fun _ _ h => sepL.one1.1 h) (.own (zal [21] (by kernel_rfl) rfl) (fun _ _ h => sepL.one1.1 h) (.own (zal [22] (by kernel_rfl) rfl) (fun _ _ h => sepL.one1.1 h) (.own (zal [23] (by kernel_rfl) rfl) (fun _ _ h => sepL.one1.1 h) .nil)))))) ?_
          exact zaf 22 hu hi rfl
         ·
          intro D hn hd hcl hu hi
          refine zbc (k := 6) (cs := [.string r4.1.Title, hd1.v]) zcw (zbD rfl (zab (m := 19) hu rfl (hd 19 dc))) dc (zaE (by rfl) rfl) rfl rfl rfl ?_
          exact zaf 23 hu hi rfl
         ·
          intro D hn hd hcl hu hi
          refine zbc (k := 10) (cs := [.string r5.1.Title, hd3.v]) zcw (zbD rfl (zab (m := 19) hu rfl (hd 19 dc))) dc (zaE (by rfl) rfl) rfl rfl rfl ?_
          exact zaf 24 hu hi rfl
         ·
          intro D hn hd hcl hu hi
          refine zcA (k := 4) rfl (fun hw4 => ?_)
          refine zcA (k := 8) rfl (fun hw5 => ?_)
          refine za4 (v := .bool r18) (vs := [.agg #[.string r4.1.Title, hd1.v], .agg #[.string r5.1.Title, hd3.v]]) (Rd.nil : Rd _ _ []) (zbD rfl (zab (m := 19) hu rfl (hd 19 dc))) dc rfl (evL.cons (zab (m := 23) hu rfl (hd 23 dc)) (evL.cons (zab (m := 24) hu rfl (hd 24 dc)) evL.nil)) rfl zol (zfS (p1_h0 := hd1) (p1 := r4.1) (q1_h0 := hd3) (q1 := r5.1) hw4 hz1 hw5 hz2 hq20) (.own (As := [vec zae 48 1 hd1.v zs1]) (zal [4] (by kernel_rfl) rfl) (fun _ _ h => zcr zaL (sepL.one1.1 h)) (.own (As := [own zag zs1]) (zal [25] (by kernel_rfl) rfl) (fun _ _ h => zdr za5 (sepL.one1.1 h)) (.own (As := [vec zae 48 1 hd3.v zs2]) (zal [8] (by kernel_rfl) rfl) (fun _ _ h => zcr zaL (sepL.one1.1 h)) (.own (As := [own zag zs2]) (zal [26] (by kernel_rfl) rfl) (fun _ _ h => zdr za5 (sepL.one1.1 h)) .nil)))) ?_
          exact zaf 25 hu hi rfl
         ·
          intro D hn hd hcl hu hi
          refine zaz (zbD rfl (zab (m := 19) hu rfl (hd 19 dc))) dc (zab (m := 22) hu rfl (hd 22 dc)) (zab (m := 25) hu rfl (hd 25 dc)) (zgM Tryd.underlying4) (zbP (show Value.bool (r17 == r18) = Value.bool true from congrArg Value.bool hb7) ?_)
          exact zaf 26 hu hi rfl
         ·
          intro D hn hd hcl hu hi
          refine zaB (b := true) rfl dc (zab (m := 19) hu rfl (hd 19 dc)) (zab (m := 26) hu rfl (hd 26 dc)) ?_
          exact zaf 27 hu hi rfl
         ·
          intro D hn hd hcl hu hi
          refine zah rfl dc (zab (m := 27) hu rfl (hd 27 dc)) ?_
          exact zaf 28 hu hi rfl
         ·
          intro D hn hd hcl hu hi
          refine zah (zbD rfl (zab (m := 28) hu rfl (hd 28 dc))) dc (zaE (by rfl) rfl) ?_
          exact zaf 29 hu hi rfl
         ·
          intro D hn hd hcl hu hi
          refine zah (zbD rfl (zab (m := 28) hu rfl (hd 28 dc))) dc (zaE (by rfl) rfl) ?_
          exact zaf 30 hu hi rfl
         ·
          intro D hn hd hcl hu hi
          refine zbc (k := 6) (cs := [.string r4.1.Title, hd1.v]) zcw (zbD rfl (zab (m := 28) hu rfl (hd 28 dc))) dc (zaE (by rfl) rfl) rfl rfl rfl ?_
          exact zaf 31 hu hi rfl
         ·
          intro D hn hd hcl hu hi
          refine zah (zbD rfl (zab (m := 28) hu rfl (hd 28 dc))) dc (zaE (by rfl) rfl) ?_
          exact zaf 32 hu hi rfl
         refine zcA (k := 4) rfl (fun hw6 => ?_)
         refine zcA (k := 5) rfl (fun hw7 => ?_)
         refine za4 (v := .bool r19) (vs := [zP b7, .string s1, .agg #[.string r4.1.Title, hd1.v], hd2.v]) (Rd.nil : Rd _ _ []) rfl dc rfl rfl rfl zns (zgJ (bp1 := b7) (p1 := p1) (p1_h0 := hd5) (p1_h1 := hd6) (wv1_h0 := hd1) (wv1 := r4.1) hw6 hz1 hw7 hq21) (.own (zal [12] (by kernel_rfl) rfl) (fun _ _ h => sepL.one1.1 h) (.own (zal [13] (by kernel_rfl) rfl) (fun _ _ h => sepL.one1.1 h) (.own (zal [14] (by kernel_rfl) rfl) (fun _ _ h => sepL.one1.1 h) (.own (As := [vec zae 48 1 hd1.v zs1]) (zal [4] (by kernel_rfl) rfl) (fun _ _ h => zcr zaL (sepL.one1.1 h)) (.own (As := [own zag zs1]) (zal [25] (by kernel_rfl) rfl) (fun _ _ h => zdr za5 (sepL.one1.1 h)) (.own (As := [vec zam 36 6 hd2.v r4.2.1]) (zal [5] (by kernel_rfl) rfl) (fun _ _ h => zeS zbI (sepL.one1.1 h)) .nil)))))) ?_
         refine zbP (show Value.bool (r19) = Value.bool false from congrArg Value.bool hb8) (zaB (b := true) rfl dc rfl rfl (zah rfl dc rfl (zan rfl dc (zaB (b := false) rfl dc rfl rfl (zak rfl dc rfl (zap (zaj (zaX ?_))))))))
         cases h
         exact za3 (rs := [.tmp 12]) () (.inl rfl) Tryd.results8 (.cons (.tmp rfl) .nil) rfl Splits.nil
       ·
        have h := za1 hb7 h
        refine zbR 33 [(0, 108, v5), (1, 109, zI r8.2), (2, 110, .agg #[.string r9.1.Title, hd7.v]), (3, 111, zI r9.2), (4, 112, .bool true), (5, 113, .bool true), (6, 114, v6), (7, 115, zI r10.2), (8, 116, .agg #[.string r11.1.Title, hd8.v]), (9, 117, zI r11.2), (10, 118, .bool true), (11, 119, .bool true), (12, 120, .bool true), (13, 121, v7), (14, 122, zI r12.2), (15, 123, .agg #[.string r13.1.Title, hd11.v]), (16, 124, zI r13.2), (17, 125, .bool true), (18, 126, .bool true), (19, 127, .bool true), (20, 128, zP b7), (21, 129, zP b10), (22, 130, .bool r17), (23, 131, .agg #[.string r4.1.Title, hd1.v]), (24, 132, .agg #[.string r5.1.Title, hd3.v]), (25, 133, .bool r18), (26, 134, .bool false), (27, 135, .bool false), (28, 136, .bool false), (29, 137, undef), (30, 138, undef), (31, 139, undef), (32, 140, undef)] mixed kr kr dc (by rfl) kr kr (zac ?_ (zac ?_ (zac ?_ (zac ?_ (zac ?_ (zac ?_ (zac ?_ (zac ?_ (zac ?_ (zac ?_ (zac ?_ (zac ?_ (zac ?_ (zac ?_ (zac ?_ (zac ?_ (zac ?_ (zac ?_ (zac ?_ (zac ?_ (zac ?_ (zac ?_ (zac ?_ (zac ?_ (zac ?_ (zac ?_ (zac ?_ (zac ?_ (zac ?_ (zac ?_ (zac ?_ (zac ?_ (zac ?_ DrawPre.nil))))))))))))))))))))))))))))))))) ?_
        ·
         intro D hn hd hcl hu hi
         refine zah rfl dc (zaE (by rfl) rfl) ?_
         exact zaf 0 hu hi rfl
        ·
         intro D hn hd hcl hu hi
         refine zah rfl dc (zaE (by rfl) rfl) ?_
         exact zaf 1 hu hi rfl
        ·
         intro D hn hd hcl hu hi
         refine zbc (k := 17) (cs := [.string r9.1.Title, hd7.v]) zcw rfl dc (zaE (by rfl) rfl) rfl rfl rfl ?_
         exact zaf 2 hu hi rfl
        ·
         intro D hn hd hcl hu hi
         refine zah rfl dc (zaE (by rfl) rfl) ?_
         exact zaf 3 hu hi rfl
        ·
         intro D hn hd hcl hu hi
         refine za4 (v := .bool r14) (vs := [v5, zI r8.2, .agg #[.string r9.1.Title, hd7.v], zI r9.2]) (Rd.nil : Rd _ _ []) rfl dc rfl (evL.cons (zab (m := 0) hu rfl (hd 0 dc)) (evL.cons (zab (m := 1) hu rfl (hd 1 dc)) (evL.cons (zab (m := 2) hu rfl (hd 2 dc)) (evL.cons (zab (m := 3) hu rfl (hd 3 dc)) evL.nil)))) rfl zgL (zch (nest := zag) (e := 48) (v := hd7.v) (xs := r9.1.Stanzas) (RD1 := [_]) (RD2 := []) zaL za5 (fun zs_c1 hz_c1 hV_c1 => (zbz (v := v5) (m := r8.1) (wv1_h0 := hd7) (wv1 := r9.1) hV_c1 hz_c1 hq16))) (.own (zal [15] (by kernel_rfl) rfl) (fun _ _ h => sepL.one1.1 h) (.own (zal [16] (by kernel_rfl) rfl) (fun _ _ h => sepL.one1.1 h) .nil)) ?_
         refine zbP (show Value.bool (r14) = Value.bool true from congrArg Value.bool hb4) ?_
         exact zaf 4 hu hi rfl
        ·
         intro D hn hd hcl hu hi
         refine zah rfl dc (zab (m := 4) hu rfl (hd 4 dc)) ?_
         exact zaf 5 hu hi rfl
        ·
         intro D hn hd hcl hu hi
         refine zah (zbD rfl (zab (m := 5) hu rfl (hd 5 dc))) dc (zaE (by rfl) rfl) ?_
         exact zaf 6 hu hi rfl
        ·
         intro D hn hd hcl hu hi
         refine zah (zbD rfl (zab (m := 5) hu rfl (hd 5 dc))) dc (zaE (by rfl) rfl) ?_
         exact zaf 7 hu hi rfl
        ·
         intro D hn hd hcl hu hi
         refine zbc (k := 20) (cs := [.string r11.1.Title, hd8.v]) zcw (zbD rfl (zab (m := 5) hu rfl (hd 5 dc))) dc (zaE (by rfl) rfl) rfl rfl rfl ?_
         exact zaf 8 hu hi rfl
        ·
         intro D hn hd hcl hu hi
         refine zah (zbD rfl (zab (m := 5) hu rfl (hd 5 dc))) dc (zaE (by rfl) rfl) ?_
         exact zaf 9 hu hi rfl
        ·
         intro D hn hd hcl hu hi
         refine za4 (v := .bool r15) (vs := [v6, zI r10.2, .agg #[.string r11.1.Title, hd8.v], zI r11.2]) (Rd.nil : Rd _ _ []) (zbD rfl (zab (m := 5) hu rfl (hd 5 dc))) dc rfl (evL.cons (zab (m := 6) hu rfl (hd 6 dc)) (evL.cons (zab (m := 7) hu rfl (hd 7 dc)) (evL.cons (zab (m := 8) hu rfl (hd 8 dc)) (evL.cons (zab (m := 9) hu rfl (hd 9 dc)) evL.nil)))) rfl zgL (zch (nest := zag) (e := 48) (v := hd8.v) (xs := r11.1.Stanzas) (RD1 := [_]) (RD2 := []) zaL za5 (fun zs_c1 hz_c1 hV_c1 => (zbz (v := v6) (m := r10.1) (wv1_h0 := hd8) (wv1 := r11.1) hV_c1 hz_c1 hq17))) (.own (zal [18] (by kernel_rfl) rfl) (fun _ _ h => sepL.one1.1 h) (.own (zal [19] (by kernel_rfl) rfl) (fun _ _ h => sepL.one1.1 h) .nil)) ?_
         refine zbP (show Value.bool (r15) = Value.bool true from congrArg Value.bool hb5) ?_
         exact zaf 10 hu hi rfl
        ·
         intro D hn hd hcl hu hi
         refine zaB (b := true) rfl dc (zab (m := 5) hu rfl (hd 5 dc)) (zab (m := 10) hu rfl (hd 10 dc)) ?_
         exact zaf 11 hu hi rfl
        ·
         intro D hn hd hcl hu hi
         refine zah rfl dc (zab (m := 11) hu rfl (hd 11 dc)) ?_
         exact zaf 12 hu hi rfl
        ·
         intro D hn hd hcl hu hi
         refine zah (zbD rfl (zab (m := 12) hu rfl (hd 12 dc))) dc (zaE (by rfl) rfl) ?_
         exact zaf 13 hu hi rfl
        ·
         intro D hn hd hcl hu hi
         refine zah (zbD rfl (zab (m := 12) hu rfl (hd 12 dc))) dc (zaE (by rfl) rfl) ?_
         exact zaf 14 hu hi rfl
        ·
         intro D hn hd hcl hu hi
         refine zbc (k := 28) (cs := [.string r13.1.Title, hd11.v]) zcw (zbD rfl (zab (m := 12) hu rfl (hd 12 dc))) dc (zaE (by rfl) rfl) rfl rfl rfl ?_
         exact zaf 15 hu hi rfl
        ·
         intro D hn hd hcl hu hi
         refine zah (zbD rfl (zab (m := 12) hu rfl (hd 12 dc))) dc (zaE (by rfl) rfl) ?_
         exact zaf 16 hu hi rfl
        ·
         intro D hn hd hcl hu hi
         refine zcA (k := 27) rfl (fun hw3 => ?_)
         refine za4 (v := .bool r16) (vs := [v7, zI r12.2, .agg #[.string r13.1.Title, hd11.v], zI r13.2]) (Rd.nil : Rd _ _ []) (zbD rfl (zab (m := 12) hu rfl (hd 12 dc))) dc rfl (evL.cons (zab (m := 13) hu rfl (hd 13 dc)) (evL.cons (zab (m := 14) hu rfl (hd 14 dc)) (evL.cons (zab (m := 15) hu rfl (hd 15 dc)) (evL.cons (zab (m := 16) hu rfl (hd 16 dc)) evL.nil)))) rfl zgL (zbz (v := v7) (m := r12.1) (wv1_h0 := hd11) (wv1 := r13.1) hw3 hz3 hq18) (.own (zal [24] (by kernel_rfl) rfl) (fun _ _ h => sepL.one1.1 h) (.own (As := [vec zae 48 1 hd11.v zs3]) (zal [27] (by kernel_rfl) rfl) (fun _ _ h => zcr zaL (sepL.one1.1 h)) (.own (As := [own zag zs1, own zag zs2]) (zal [25, 26] (by kernel_rfl) rfl) (fun _ _ h => zgU za5 hm1 h) .nil))) ?_
         refine zbP (show Value.bool (r16) = Value.bool true from congrArg Value.bool hb6) ?_
         exact zaf 17 hu hi rfl
        ·
         intro D hn hd hcl hu hi
         refine zaB (b := true) rfl dc (zab (m := 12) hu rfl (hd 12 dc)) (zab (m := 17) hu rfl (hd 17 dc)) ?_
         exact zaf 18 hu hi rfl
        ·
         intro D hn hd hcl hu hi
         refine zah rfl dc (zab (m := 18) hu rfl (hd 18 dc)) ?_
         exact zaf 19 hu hi rfl
        ·
         intro D hn hd hcl hu hi
         refine zah (zbD rfl (zab (m := 19) hu rfl (hd 19 dc))) dc (zaE (by rfl) rfl) ?_
         exact zaf 20 hu hi rfl
        ·
         intro D hn hd hcl hu hi
         refine zah (zbD rfl (zab (m := 19) hu rfl (hd 19 dc))) dc (zaE (by rfl) rfl) ?_
         exact zaf 21 hu hi rfl
        ·
         intro D hn hd hcl hu hi
         refine za4 (v := .bool r17) (vs := [zP b7, zP b10]) (Rd.nil : Rd _ _ []) (zbD rfl (zab (m := 19) hu rfl (hd 19 dc))) dc rfl (evL.cons (zab (m := 20) hu rfl (hd 20 dc)) (evL.cons (zab (m := 21) hu rfl (hd 21 dc)) evL.nil)) rfl zmL (zdH (bp1 := b7) (p1 := p1) (p1_h0 := hd5) (p1_h1 := hd6) (bq1 := b10) (q1 := p2) (q1_h0 := hd9) (q1_h1 := hd10) hq19) (.own (zal [12] (by kernel_rfl) rfl) (fun _ _ h => sepL.one1.1 h) (.own (zal [13] (by kernel_rfl) rfl) (fun _ _ h => sepL.one1.1 h) (.own (zal [14] (by kernel_rfl) rfl) (fun _ _ h => sepL.one1.1 h) (.own (zal [21] (by kernel_rfl) rfl) (fun _ _ h => sepL.one1.1 h) (.own (zal [22] (by kernel_rfl) rfl) (fun _ _ h => sepL.one1.1 h) (.own (zal [23] (by kernel_rfl) rfl) (fun _ _ h => sepL.one1.1 h) .nil)))))) ?_
         exact zaf 22 hu hi rfl
        ·
         intro D hn hd hcl hu hi
         refine zbc (k := 6) (cs := [.string r4.1.Title, hd1.v]) zcw (zbD rfl (zab (m := 19) hu rfl (hd 19 dc))) dc (zaE (by rfl) rfl) rfl rfl rfl ?_
         exact zaf 23 hu hi rfl
        ·
         intro D hn hd hcl hu hi
         refine zbc (k := 10) (cs := [.string r5.1.Title, hd3.v]) zcw (zbD rfl (zab (m := 19) hu rfl (hd 19 dc))) dc (zaE (by rfl) rfl) rfl rfl rfl ?_
         exact zaf 24 hu hi rfl
        ·
         intro D hn hd hcl hu hi
         refine zcA (k := 4) rfl (fun hw4 => ?_)
         refine zcA (k := 8) rfl (fun hw5 => ?_)
         refine za4 (v := .bool r18) (vs := [.agg #[.string r4.1.Title, hd1.v], .agg #[.string r5.1.Title, hd3.v]]) (Rd.nil : Rd _ _ []) (zbD rfl (zab (m := 19) hu rfl (hd 19 dc))) dc rfl (evL.cons (zab (m := 23) hu rfl (hd 23 dc)) (evL.cons (zab (m := 24) hu rfl (hd 24 dc)) evL.nil)) rfl zol (zfS (p1_h0 := hd1) (p1 := r4.1) (q1_h0 := hd3) (q1 := r5.1) hw4 hz1 hw5 hz2 hq20) (.own (As := [vec zae 48 1 hd1.v zs1]) (zal [4] (by kernel_rfl) rfl) (fun _ _ h => zcr zaL (sepL.one1.1 h)) (.own (As := [own zag zs1]) (zal [25] (by kernel_rfl) rfl) (fun _ _ h => zdr za5 (sepL.one1.1 h)) (.own (As := [vec zae 48 1 hd3.v zs2]) (zal [8] (by kernel_rfl) rfl) (fun _ _ h => zcr zaL (sepL.one1.1 h)) (.own (As := [own zag zs2]) (zal [26] (by kernel_rfl) rfl) (fun _ _ h => zdr za5 (sepL.one1.1 h)) .nil)))) ?_
         exact zaf 25 hu hi rfl
        ·
         intro D hn hd hcl hu hi
         refine zaz (zbD rfl (zab (m := 19) hu rfl (hd 19 dc))) dc (zab (m := 22) hu rfl (hd 22 dc)) (zab (m := 25) hu rfl (hd 25 dc)) (zgM Tryd.underlying4) (zbP (show Value.bool (r17 == r18) = Value.bool false from congrArg Value.bool hb7) ?_)
         exact zaf 26 hu hi rfl
        ·
         intro D hn hd hcl hu hi
         refine zaB (b := true) rfl dc (zab (m := 19) hu rfl (hd 19 dc)) (zab (m := 26) hu rfl (hd 26 dc)) ?_
         exact zaf 27 hu hi rfl
        ·
         intro D hn hd hcl hu hi
         refine zah rfl dc (zab (m := 27) hu rfl (hd 27 dc)) ?_
         exact zaf 28 hu hi rfl
        ·
         intro D hn hd hcl hu hi
         refine zan (zb3 rfl (zab (m := 28) hu rfl (hd 28 dc))) dc ?_
         exact zaf 29 hu hi rfl
        ·
         intro D hn hd hcl hu hi
         refine zan (zb3 rfl (zab (m := 28) hu rfl (hd 28 dc))) dc ?_
         exact zaf 30 hu hi rfl
        ·
         intro D hn hd hcl hu hi
         refine zan (zb3 rfl (zab (m := 28) hu rfl (hd 28 dc))) dc ?_
         exact zaf 31 hu hi rfl
        ·
         intro D hn hd hcl hu hi
         refine zan (zb3 rfl (zab (m := 28) hu rfl (hd 28 dc))) dc ?_
         exact zaf 32 hu hi rfl
        refine zan rfl dc (zaB (b := false) rfl dc rfl rfl (zah rfl dc rfl (zan rfl dc (zaB (b := false) rfl dc rfl rfl (zak rfl dc rfl (zap (zaj (zaX ?_))))))))
        cases h
        exact za3 (rs := [.tmp 12]) () (.inl rfl) Tryd.results8 (.cons (.tmp rfl) .nil) rfl Splits.nil
      ·
       have h := za1 hb6 h
       refine zbR 33 [(0, 108, v5), (1, 109, zI r8.2), (2, 110, .agg #[.string r9.1.Title, hd7.v]), (3, 111, zI r9.2), (4, 112, .bool true), (5, 113, .bool true), (6, 114, v6), (7, 115, zI r10.2), (8, 116, .agg #[.string r11.1.Title, hd8.v]), (9, 117, zI r11.2), (10, 118, .bool true), (11, 119, .bool true), (12, 120, .bool true), (13, 121, v7), (14, 122, zI r12.2), (15, 123, .agg #[.string r13.1.Title, hd11.v]), (16, 124, zI r13.2), (17, 125, .bool false), (18, 126, .bool false), (19, 127, .bool false), (20, 128, undef), (21, 129, undef), (22, 130, undef), (23, 131, undef), (24, 132, undef), (25, 133, undef), (26, 134, undef), (27, 135, .bool false), (28, 136, .bool false), (29, 137, undef), (30, 138, undef), (31, 139, undef), (32, 140, undef)] mixed kr kr dc (by rfl) kr kr (zac ?_ (zac ?_ (zac ?_ (zac ?_ (zac ?_ (zac ?_ (zac ?_ (zac ?_ (zac ?_ (zac ?_ (zac ?_ (zac ?_ (zac ?_ (zac ?_ (zac ?_ (zac ?_ (zac ?_ (zac ?_ (zac ?_ (zac ?_ (zac ?_ (zac ?_ (zac ?_ (zac ?_ (zac ?_ (zac ?_ (zac ?_ (zac ?_ (zac ?_ (zac ?_ (zac ?_ (zac ?_ (zac ?_ DrawPre.nil))))))))))))))))))))))))))))))))) ?_
       ·
        intro D hn hd hcl hu hi
        refine zah rfl dc (zaE (by rfl) rfl) ?_
        exact zaf 0 hu hi rfl
       ·
        intro D hn hd hcl hu hi
        refine zah rfl dc (zaE (by rfl) rfl) ?_
        exact zaf 1 hu hi rfl
       ·
        intro D hn hd hcl hu hi
        refine zbc (k := 17) (cs := [.string r9.1.Title, hd7.v]) zcw rfl dc (zaE (by rfl) rfl) rfl rfl rfl ?_
        exact zaf 2 hu hi rfl
       ·
        intro D hn hd hcl hu hi
        refine zah rfl dc (zaE (by rfl) rfl) ?_
        exact zaf 3 hu hi rfl
       ·
        intro D hn hd hcl hu hi
        refine za4 (v := .bool r14) (vs := [v5, zI r8.2, .agg #[.string r9.1.Title, hd7.v], zI r9.2]) (Rd.nil : Rd _ _ []) rfl dc rfl (evL.cons (zab (m := 0) hu rfl (hd 0 dc)) (evL.cons (zab (m := 1) hu rfl (hd 1 dc)) (evL.cons (zab (m := 2) hu rfl (hd 2 dc)) (evL.cons (zab (m := 3) hu rfl (hd 3 dc)) evL.nil)))) rfl zgL (zch (nest := zag) (e := 48) (v := hd7.v) (xs := r9.1.Stanzas) (RD1 := [_]) (RD2 := []) zaL za5 (fun zs_c1 hz_c1 hV_c1 => (zbz (v := v5) (m := r8.1) (wv1_h0 := hd7) (wv1 := r9.1) hV_c1 hz_c1 hq16))) (.own (zal [15] (by kernel_rfl) rfl) (fun _ _ h => sepL.one1.1 h) (.own (zal [16] (by kernel_rfl) rfl) (fun _ _ h => sepL.one1.1 h) .nil)) ?_
        refine zbP (show Value.bool (r14) = Value.bool true from congrArg Value.bool hb4) ?_
        exact zaf 4 hu hi rfl
       ·
        intro D hn hd hcl hu hi
        refine zah rfl dc (zab (m := 4) hu rfl (hd 4 dc)) ?_
        exact zaf 5 hu hi rfl
       ·
        intro D hn hd hcl hu hi
        refine zah (zbD rfl (zab (m := 5) hu rfl (hd 5 dc))) dc (zaE (by rfl) rfl) ?_
        exact zaf 6 hu hi rfl
       ·
        intro D hn hd hcl hu hi
        refine zah (zbD rfl (zab (m := 5) hu rfl (hd 5 dc))) dc (zaE (by rfl) rfl) ?_
        exact zaf 7 hu hi rfl
       ·
        intro D hn hd hcl hu hi
        refine zbc (k := 20) (cs := [.string r11.1.Title, hd8.v]) zcw (zbD rfl (zab (m := 5) hu rfl (hd 5 dc))) dc (zaE (by rfl) rfl) rfl rfl rfl ?_
        exact zaf 8 hu hi rfl
       ·
        intro D hn hd hcl hu hi
        refine zah (zbD rfl (zab (m := 5) hu rfl (hd 5 dc))) dc (zaE (by rfl) rfl) ?_
        exact zaf 9 hu hi rfl
       ·
        intro D hn hd hcl hu hi
        refine za4 (v := .bool r15) (vs := [v6, zI r10.2, .agg #[.string r11.1.Title, hd8.v], zI r11.2]) (Rd.nil : Rd _ _ []) (zbD rfl (zab (m := 5) hu rfl (hd 5 dc))) dc rfl (evL.cons (zab (m := 6) hu rfl (hd 6 dc)) (evL.cons (zab (m := 7) hu rfl (hd 7 dc)) (evL.cons (zab (m := 8) hu rfl (hd 8 dc)) (evL.cons (zab (m := 9) hu rfl (hd 9 dc)) evL.nil)))) rfl zgL (zch (nest := zag) (e := 48) (v := hd8.v) (xs := r11.1.Stanzas) (RD1 := [_]) (RD2 := []) zaL za5 (fun zs_c1 hz_c1 hV_c1 => (zbz (v := v6) (m := r10.1) (wv1_h0 := hd8) (wv1 := r11.1) hV_c1 hz_c1 hq17))) (.own (zal [18] (by kernel_rfl) rfl) (fun _ _ h => sepL.one1.1 h) (.own (zal [19] (by kernel_rfl) rfl) (fun _ _ h => sepL.one1.1 h) .nil)) ?_
        refine zbP (show Value.bool (r15) = Value.bool true from congrArg Value.bool hb5) ?_
        exact zaf 10 hu hi rfl
       ·
        intro D hn hd hcl hu hi
        refine zaB (b := true) rfl dc (zab (m := 5) hu rfl (hd 5 dc)) (zab (m := 10) hu rfl (hd 10 dc)) ?_
        exact zaf 11 hu hi rfl
       ·
        intro D hn hd hcl hu hi
        refine zah rfl dc (zab (m := 11) hu rfl (hd 11 dc)) ?_
        exact zaf 12 hu hi rfl
       ·
        intro D hn hd hcl hu hi
        refine zah (zbD rfl (zab (m := 12) hu rfl (hd 12 dc))) dc (zaE (by rfl) rfl) ?_
        exact zaf 13 hu hi rfl
       ·
        intro D hn hd hcl hu hi
        refine zah (zbD rfl (zab (m := 12) hu rfl (hd 12 dc))) dc (zaE (by rfl) rfl) ?_
        exact zaf 14 hu hi rfl
       ·
        intro D hn hd hcl hu hi
        refine zbc (k := 28) (cs := [.string r13.1.Title, hd11.v]) zcw (zbD rfl (zab (m := 12) hu rfl (hd 12 dc))) dc (zaE (by rfl) rfl) rfl rfl rfl ?_
        exact zaf 15 hu hi rfl
       ·
        intro D hn hd hcl hu hi
        refine zah (zbD rfl (zab (m := 12) hu rfl (hd 12 dc))) dc (zaE (by rfl) rfl) ?_
        exact zaf 16 hu hi rfl
       ·
        intro D hn hd hcl hu hi
        refine zcA (k := 27) rfl (fun hw3 => ?_)
        refine za4 (v := .bool r16) (vs := [v7, zI r12.2, .agg #[.string r13.1.Title, hd11.v], zI r13.2]) (Rd.nil : Rd _ _ []) (zbD rfl (zab (m := 12) hu rfl (hd 12 dc))) dc rfl (evL.cons (zab (m := 13) hu rfl (hd 13 dc)) (evL.cons (zab (m := 14) hu rfl (hd 14 dc)) (evL.cons (zab (m := 15) hu rfl (hd 15 dc)) (evL.cons (zab (m := 16) hu rfl (hd 16 dc)) evL.nil)))) rfl zgL (zbz (v := v7) (m := r12.1) (wv1_h0 := hd11) (wv1 := r13.1) hw3 hz3 hq18) (.own (zal [24] (by kernel_rfl) rfl) (fun _ _ h => sepL.one1.1 h) (.own (As := [vec zae 48 1 hd11.v zs3]) (zal [27] (by kernel_rfl) rfl) (fun _ _ h => zcr zaL (sepL.one1.1 h)) (.own (As := [own zag zs1, own zag zs2]) (zal [25, 26] (by kernel_rfl) rfl) (fun _ _ h => zgU za5 hm1 h) .nil))) ?_
        refine zbP (show Value.bool (r16) = Value.bool false from congrArg Value.bool hb6) ?_
        exact zaf 17 hu hi rfl
       ·
        intro D hn hd hcl hu hi
        refine zaB (b := true) rfl dc (zab (m := 12) hu rfl (hd 12 dc)) (zab (m := 17) hu rfl (hd 17 dc)) ?_
        exact zaf 18 hu hi rfl
       ·
        intro D hn hd hcl hu hi
        refine zah rfl dc (zab (m := 18) hu rfl (hd 18 dc)) ?_
        exact zaf 19 hu hi rfl
       ·
        intro D hn hd hcl hu hi
        refine zan (zb3 rfl (zab (m := 19) hu rfl (hd 19 dc))) dc ?_
        exact zaf 20 hu hi rfl
       ·
        intro D hn hd hcl hu hi
        refine zan (zb3 rfl (zab (m := 19) hu rfl (hd 19 dc))) dc ?_
        exact zaf 21 hu hi rfl
       ·
        intro D hn hd hcl hu hi
        refine zan (zb3 rfl (zab (m := 19) hu rfl (hd 19 dc))) dc ?_
        exact zaf 22 hu hi rfl
       ·
        intro D hn hd hcl hu hi
        refine zan (zb3 rfl (zab (m := 19) hu rfl (hd 19 dc))) dc ?_
        exact zaf 23 hu hi rfl
       ·
        intro D hn hd hcl hu hi
        refine zan (zb3 rfl (zab (m := 19) hu rfl (hd 19 dc))) dc ?_
        exact zaf 24 hu hi rfl
       ·
        intro D hn hd hcl hu hi
        refine zan (zb3 rfl (zab (m := 19) hu rfl (hd 19 dc))) dc ?_
        exact zaf 25 hu hi rfl
       ·
        intro D hn hd hcl hu hi
        refine zan (zb3 rfl (zab (m := 19) hu rfl (hd 19 dc))) dc ?_
        exact zaf 26 hu hi rfl
       ·
        intro D hn hd hcl hu hi
        refine zaB (b := false) rfl dc (zab (m := 19) hu rfl (hd 19 dc)) rfl ?_
        exact zaf 27 hu hi rfl
       ·
        intro D hn hd hcl hu hi
        refine zah rfl dc (zab (m := 27) hu rfl (hd 27 dc)) ?_
        exact zaf 28 hu hi rfl
       ·
        intro D hn hd hcl hu hi
        refine zan (zb3 rfl (zab (m := 28) hu rfl (hd 28 dc))) dc ?_
        exact zaf 29 hu hi rfl
       ·
        intro D hn hd hcl hu hi
        refine zan (zb3 rfl (zab (m := 28) hu rfl (hd 28 dc))) dc ?_
        exact zaf 30 hu hi rfl
       ·
        intro D hn hd hcl hu hi
        refine zan (zb3 rfl (zab (m := 28) hu rfl (hd 28 dc))) dc ?_
        exact zaf 31 hu hi rfl
       ·
        intro D hn hd hcl hu hi
        refine zan (zb3 rfl (zab (m := 28) hu rfl (hd 28 dc))) dc ?_
        exact zaf 32 hu hi rfl
       refine zan rfl dc (zaB (b := false) rfl dc rfl rfl (zah rfl dc rfl (zan rfl dc (zaB (b := false) rfl dc rfl rfl (zak rfl dc rfl (zap (zaj (zaX ?_))))))))
       cases h
       exact za3 (rs := [.tmp 12]) () (.inl rfl) Tryd.results8 (.cons (.tmp rfl) .nil) rfl Splits.nil
     ·
      have h := za1 hb5 h
      refine zbR 33 [(0, 108, v5), (1, 109, zI r8.2), (2, 110, .agg #[.string r9.1.Title, hd7.v]), (3, 111, zI r9.2), (4, 112, .bool true), (5, 113, .bool true), (6, 114, v6), (7, 115, zI r10.2), (8, 116, .agg #[.string r11.1.Title, hd8.v]), (9, 117, zI r11.2), (10, 118, .bool false), (11, 119, .bool false), (12, 120, .bool false), (13, 121, undef), (14, 122, undef), (15, 123, undef), (16, 124, undef), (17, 125, undef), (18, 126, .bool false), (19, 127, .bool false), (20, 128, undef), (21, 129, undef), (22, 130, undef), (23, 131, undef), (24, 132, undef), (25, 133, undef), (26, 134, undef), (27, 135, .bool false), (28, 136, .bool false), (29, 137, undef), (30, 138, undef), (31, 139, undef), (32, 140, undef)] mixed kr kr dc (by rfl) kr kr (zac ?_ (zac ?_ (zac ?_ (zac ?_ (zac ?_ (zac ?_ (zac ?_ (zac ?_ (zac ?_ (zac ?_ (zac ?_ (zac ?_ (zac ?_ (zac ?_ (zac ?_ (zac ?_ (zac ?_ (zac ?_ (zac ?_ (zac ?_ (zac ?_ (zac ?_ (zac ?_ (zac ?_ (zac ?_ (zac ?_ (zac ?_ (zac ?_ (zac ?_ (zac ?_ (zac ?_ (zac ?_ (zac ?_ DrawPre.nil))))))))))))))))))))))))))))))))) ?_
      ·
       intro D hn hd hcl hu hi
       refine zah rfl dc (zaE (by rfl) rfl) ?_
       exact zaf 0 hu hi rfl
      ·
       intro D hn hd hcl hu hi
       refine zah rfl dc (zaE (by rfl) rfl) ?_
       exact zaf 1 hu hi rfl
      ·
       intro D hn hd hcl hu hi
       refine zbc (k := 17) (cs := [.string r9.1.Title, hd7.v]) zcw rfl dc (zaE (by rfl) rfl) rfl rfl rfl ?_
       exact zaf 2 hu hi rfl
      ·
       intro D hn hd hcl hu hi
       refine zah rfl dc (zaE (by rfl) rfl) ?_
       exact zaf 3 hu hi rfl
      ·
       intro D hn hd hcl hu hi
       refine za4 (v := .bool r14) (vs := [v5, zI r8.2, .agg #[.string r9.1.Title, hd7.v], zI r9.2]) (Rd.nil : Rd _ _ []) rfl dc rfl (evL.cons (zab (m := 0) hu rfl (hd 0 dc)) (evL.cons (zab (m := 1) hu rfl (hd 1 dc)) (evL.cons (zab (m := 2) hu rfl (hd 2 dc)) (evL.cons (zab (m := 3) hu rfl (hd 3 dc)) evL.nil)))) rfl zgL (zch (nest := zag) (e := 48) (v := hd7.v) (xs := r9.1.Stanzas) (RD1 := [_]) (RD2 := []) zaL za5 (fun zs_c1 hz_c1 hV_c1 => (zbz (v := v5) (m := r8.1) (wv1_h0 := hd7) (wv1 := r9.1) hV_c1 hz_c1 hq16))) (.own (zal [15] (by kernel_rfl) rfl) (fun _ _ h => sepL.one1.1 h) (.own (zal [16] (by kernel_rfl) rfl) (fun _ _ h => sepL.one1.1 h) .nil)) ?_
       refine zbP (show Value.bool (r14) = Value.bool true from congrArg Value.bool hb4) ?_
       exact zaf 4 hu hi rfl
      ·
       intro D hn hd hcl hu hi
       refine zah rfl dc (zab (m := 4) hu rfl (hd 4 dc)) ?_
       exact zaf 5 hu hi rfl
      ·
       intro D hn hd hcl hu hi
       refine zah (zbD rfl (zab (m := 5) hu rfl (hd 5 dc))) dc (zaE (by rfl) rfl) ?_
       exact zaf 6 hu hi rfl
      ·
       intro D hn hd hcl hu hi
       refine zah (zbD rfl (zab (m := 5) hu rfl (hd 5 dc))) dc (zaE (by rfl) rfl) ?_
       exact zaf 7 hu hi rfl
      ·
       intro D hn hd hcl hu hi
       refine zbc (k := 20) (cs := [.string r11.1.Title, hd8.v]) zcw (zbD rfl (zab (m := 5) hu rfl (hd 5 dc))) dc (zaE (by rfl) rfl) rfl rfl rfl ?_
       exact zaf 8 hu hi rfl
      ·
       intro D hn hd hcl hu hi
       refine zah (zbD rfl (zab (m := 5) hu rfl (hd 5 dc))) dc (zaE (by rfl) rfl) ?_
       exact zaf 9 hu hi rfl
      ·
       intro D hn hd hcl hu hi
       refine za4 (v := .bool r15) (vs := [v6, zI r10.2, .agg #[.string r11.1.Title, hd8.v], zI r11.2]) (Rd.nil : Rd _ _ []) (zbD rfl (zab (m := 5) hu rfl (hd 5 dc))) dc rfl (evL.cons (zab (m := 6) hu rfl (hd 6 dc)) (evL.cons (zab (m := 7) hu rfl (hd 7 dc)) (evL.cons (zab (m := 8) hu rfl (hd 8 dc)) (evL.cons (zab (m := 9) hu rfl (hd 9 dc)) evL.nil)))) rfl zgL (zch (nest := zag) (e := 48) (v := hd8.v) (xs := r11.1.Stanzas) (RD1 := [_]) (RD2 := []) zaL za5 (fun zs_c1 hz_c1 hV_c1 => (zbz (v := v6) (m := r10.1) (wv1_h0 := hd8) (wv1 := r11.1) hV_c1 hz_c1 hq17))) (.own (zal [18] (by kernel_rfl) rfl) (fun _ _ h => sepL.one1.1 h) (.own (zal [19] (by kernel_rfl) rfl) (fun _ _ h => sepL.one1.1 h) .nil)) ?_
       refine zbP (show Value.bool (r15) = Value.bool false from congrArg Value.bool hb5) ?_
       exact zaf 10 hu hi rfl
      ·
       intro D hn hd hcl hu hi
       refine zaB (b := true) rfl dc (zab (m := 5) hu rfl (hd 5 dc)) (zab (m := 10) hu rfl (hd 10 dc)) ?_
       exact zaf 11 hu hi rfl
      ·
       intro D hn hd hcl hu hi
       refine zah rfl dc (zab (m := 11) hu rfl (hd 11 dc)) ?_
       exact zaf 12 hu hi rfl
      ·
       intro D hn hd hcl hu hi
       refine zan (zb3 rfl (zab (m := 12) hu rfl (hd 12 dc))) dc ?_
       exact zaf 13 hu hi rfl
      ·
       intro D hn hd hcl hu hi
       refine zan (zb3 rfl (zab (m := 12) hu rfl (hd 12 dc))) dc ?_
       exact zaf 14 hu hi rfl
      ·
       intro D hn hd hcl hu hi
       refine zan (zb3 rfl (zab (m := 12) hu rfl (hd 12 dc))) dc ?_
       exact zaf 15 hu hi rfl
      ·
       intro D hn hd hcl hu hi
       refine zan (zb3 rfl (zab (m := 12) hu rfl (hd 12 dc))) dc ?_
       exact zaf 16 hu hi rfl
      ·
       intro D hn hd hcl hu hi
       refine zan (zb3 rfl (zab (m := 12) hu rfl (hd 12 dc))) dc ?_
       exact zaf 17 hu hi rfl
      ·
       intro D hn hd hcl hu hi
       refine zaB (b := false) rfl dc (zab (m := 12) hu rfl (hd 12 dc)) rfl ?_
       exact zaf 18 hu hi rfl
      ·
       intro D hn hd hcl hu hi
       refine zah rfl dc (zab (m := 18) hu rfl (hd 18 dc)) ?_
       exact zaf 19 hu hi rfl
      ·
       intro D hn hd hcl hu hi
       refine zan (zb3 rfl (zab (m := 19) hu rfl (hd 19 dc))) dc ?_
       exact zaf 20 hu hi rfl
      ·
       intro D hn hd hcl hu hi
       refine zan (zb3 rfl (zab (m := 19) hu rfl (hd 19 dc))) dc ?_
       exact zaf 21 hu hi rfl
      ·
       intro D hn hd hcl hu hi
       refine zan (zb3 rfl (zab (m := 19) hu rfl (hd 19 dc))) dc ?_
       exact zaf 22 hu hi rfl
      ·
       intro D hn hd hcl hu hi
       refine zan (zb3 rfl (zab (m := 19) hu rfl (hd 19 dc))) dc ?_
       exact zaf 23 hu hi rfl
      ·
       intro D hn hd hcl hu hi
       refine zan (zb3 rfl (zab (m := 19) hu rfl (hd 19 dc))) dc ?_
       exact zaf 24 hu hi rfl
      ·
       intro D hn hd hcl hu hi
       refine zan (zb3 rfl (zab (m := 19) hu rfl (hd 19 dc))) dc ?_
       exact zaf 25 hu hi rfl
      ·
       intro D hn hd hcl hu hi
       refine zan (zb3 rfl (zab (m := 19) hu rfl (hd 19 dc))) dc ?_
       exact zaf 26 hu hi rfl
      ·
       intro D hn hd hcl hu hi
       refine zaB (b := false) rfl dc (zab (m := 19) hu rfl (hd 19 dc)) rfl ?_
       exact zaf 27 hu hi rfl
      ·
       intro D hn hd hcl hu hi
       refine zah rfl dc (zab (m := 27) hu rfl (hd 27 dc)) ?_
       exact zaf 28 hu hi rfl
      ·
       intro D hn hd hcl hu hi
       refine zan (zb3 rfl (zab (m := 28) hu rfl (hd 28 dc))) dc ?_
       exact zaf 29 hu hi rfl
      ·
       intro D hn hd hcl hu hi
       refine zan (zb3 rfl (zab (m := 28) hu rfl (hd 28 dc))) dc ?_
       exact zaf 30 hu hi rfl
      ·
       intro D hn hd hcl hu hi
       refine zan (zb3 rfl (zab (m := 28) hu rfl (hd 28 dc))) dc ?_
       exact zaf 31 hu hi rfl
      ·
       intro D hn hd hcl hu hi
       refine zan (zb3 rfl (zab (m := 28) hu rfl (hd 28 dc))) dc ?_
       exact zaf 32 hu hi rfl
      refine zan rfl dc (zaB (b := false) rfl dc rfl rfl (zah rfl dc rfl (zan rfl dc (zaB (b := false) rfl dc rfl rfl (zak rfl dc rfl (zap (zaj (zaX ?_))))))))
      cases h
      exact za3 (rs := [.tmp 12]) () (.inl rfl) Tryd.results8 (.cons (.tmp rfl) .nil) rfl Splits.nil
    ·
     have h := za1 hb4 h
     refine zbR 33 [(0, 108, v5), (1, 109, zI r8.2), (2, 110, .agg #[.string r9.1.Title, hd7.v]), (3, 111, zI r9.2), (4, 112, .bool false), (5, 113, .bool false), (6, 114, undef), (7, 115, undef), (8, 116, undef), (9, 117, undef), (10, 118, undef), (11, 119, .bool false), (12, 120, .bool false), (13, 121, undef), (14, 122, undef), (15, 123, undef), (16, 124, undef), (17, 125, undef), (18, 126, .bool false), (19, 127, .bool false), (20, 128, undef), (21, 129, undef), (22, 130, undef), (23, 131, undef), (24, 132, undef), (25, 133, undef), (26, 134, undef), (27, 135, .bool false), (28, 136, .bool false), (29, 137, undef), (30, 138, undef), (31, 139, undef), (32, 140, undef)] mixed kr kr dc (by rfl) kr kr (zac ?_ (zac ?_ (zac ?_ (zac ?_ (zac ?_ (zac ?_ (zac ?_ (zac ?_ (zac ?_ (zac ?_ (zac ?_ (zac ?_ (zac ?_ (zac ?_ (zac ?_ (zac ?_ (zac ?_ (zac ?_ (zac ?_ (zac ?_ (zac ?_ (zac ?_ (zac ?_ (zac ?_ (zac ?_ (zac ?_ (zac ?_ (zac ?_ (zac ?_ (zac ?_ (zac ?_ (zac ?_ (zac ?_ DrawPre.nil))))))))))))))))))))))))))))))))) ?_
     ·
      intro D hn hd hcl hu hi
      refine zah rfl dc (zaE (by rfl) rfl) ?_
      exact zaf 0 hu hi rfl
     ·
      intro D hn hd hcl hu hi
      refine zah rfl dc (zaE (by rfl) rfl) ?_
      exact zaf 1 hu hi rfl
     ·
      intro D hn hd hcl hu hi
      refine zbc (k := 17) (cs := [.string r9.1.Title, hd7.v]) zcw rfl dc (zaE (by rfl) rfl) rfl rfl rfl ?_
      exact zaf 2 hu hi rfl
     ·
      intro D hn hd hcl hu hi
      refine zah rfl dc (zaE (by rfl) rfl) ?_
      exact zaf 3 hu hi rfl
     ·
      intro D hn hd hcl hu hi
      refine za4 (v := .bool r14) (vs := [v5, zI r8.2, .agg #[.string r9.1.Title, hd7.v], zI r9.2]) (Rd.nil : Rd _ _ []) rfl dc rfl (evL.cons (zab (m := 0) hu rfl (hd 0 dc)) (evL.cons (zab (m := 1) hu rfl (hd 1 dc)) (evL.cons (zab (m := 2) hu rfl (hd 2 dc)) (evL.cons (zab (m := 3) hu rfl (hd 3 dc)) evL.nil)))) rfl zgL (zch (nest := zag) (e := 48) (v := hd7.v) (xs := r9.1.Stanzas) (RD1 := [_]) (RD2 := []) zaL za5 (fun zs_c1 hz_c1 hV_c1 => (zbz (v := v5) (m := r8.1) (wv1_h0 := hd7) (wv1 := r9.1) hV_c1 hz_c1 hq16))) (.own (zal [15] (by kernel_rfl) rfl) (fun _ _ h => sepL.one1.1 h) (.own (zal [16] (by kernel_rfl) rfl) (fun _ _ h => sepL.one1.1 h) .nil)) ?_
      refine zbP (show Value.bool (r14) = Value.bool false from congrArg Value.bool hb4) ?_
      exact zaf 4 hu hi rfl
     ·
      intro D hn hd hcl hu hi
      refine zah rfl dc (zab (m := 4) hu rfl (hd 4 dc)) ?_
      exact zaf 5 hu hi rfl
     ·
      intro D hn hd hcl hu hi
      refine zan (zb3 rfl (zab (m := 5) hu rfl (hd 5 dc))) dc ?_
      exact zaf 6 hu hi rfl
     ·
      intro D hn hd hcl hu hi
      refine zan (zb3 rfl (zab (m := 5) hu rfl (hd 5 dc))) dc ?_
      exact zaf 7 hu hi rfl
     ·
      intro D hn hd hcl hu hi
      refine zan (zb3 rfl (zab (m := 5) hu rfl (hd 5 dc))) dc ?_
      exact zaf 8 hu hi rfl
     ·
      intro D hn hd hcl hu hi
      refine zan (zb3 rfl (zab (m := 5) hu rfl (hd 5 dc))) dc ?_
      exact zaf 9 hu hi rfl
     ·
      intro D hn hd hcl hu hi
      refine zan (zb3 rfl (zab (m := 5) hu rfl (hd 5 dc))) dc ?_
      exact zaf 10 hu hi rfl
     ·
      intro D hn hd hcl hu hi
      refine zaB (b := false) rfl dc (zab (m := 5) hu rfl (hd 5 dc)) rfl ?_
      exact zaf 11 hu hi rfl
     ·
      intro D hn hd hcl hu hi
      refine zah rfl dc (zab (m := 11) hu rfl (hd 11 dc)) ?_
      exact zaf 12 hu hi rfl
     ·
      intro D hn hd hcl hu hi
      refine zan (zb3 rfl (zab (m := 12) hu rfl (hd 12 dc))) dc ?_
      exact zaf 13 hu hi rfl
     ·
      intro D hn hd hcl hu hi
      refine zan (zb3 rfl (zab (m := 12) hu rfl (hd 12 dc))) dc ?_
      exact zaf 14 hu hi rfl
     ·
      intro D hn hd hcl hu hi
      refine zan (zb3 rfl (zab (m := 12) hu rfl (hd 12 dc))) dc ?_
      exact zaf 15 hu hi rfl
     ·
      intro D hn hd hcl hu hi
      refine zan (zb3 rfl (zab (m := 12) hu rfl (hd 12 dc))) dc ?_
      exact zaf 16 hu hi rfl
     ·
      intro D hn hd hcl hu hi
      refine zan (zb3 rfl (zab (m := 12) hu rfl (hd 12 dc))) dc ?_
      exact zaf 17 hu hi rfl
     ·
      intro D hn hd hcl hu hi
      refine zaB (b := false) rfl dc (zab (m := 12) hu rfl (hd 12 dc)) rfl ?_
      exact zaf 18 hu hi rfl
     ·
      intro D hn hd hcl hu hi
      refine zah rfl dc (zab (m := 18) hu rfl (hd 18 dc)) ?_
      exact zaf 19 hu hi rfl
     ·
      intro D hn hd hcl hu hi
      refine zan (zb3 rfl (zab (m := 19) hu rfl (hd 19 dc))) dc ?_
      exact zaf 20 hu hi rfl
     ·
      intro D hn hd hcl hu hi
      refine zan (zb3 rfl (zab (m := 19) hu rfl (hd 19 dc))) dc ?_
      exact zaf 21 hu hi rfl
     ·
      intro D hn hd hcl hu hi
      refine zan (zb3 rfl (zab (m := 19) hu rfl (hd 19 dc))) dc ?_
      exact zaf 22 hu hi rfl
     ·
      intro D hn hd hcl hu hi
      refine zan (zb3 rfl (zab (m := 19) hu rfl (hd 19 dc))) dc ?_
      exact zaf 23 hu hi rfl
     ·
      intro D hn hd hcl hu hi
      refine zan (zb3 rfl (zab (m := 19) hu rfl (hd 19 dc))) dc ?_
      exact zaf 24 hu hi rfl
     ·
      intro D hn hd hcl hu hi
      refine zan (zb3 rfl (zab (m := 19) hu rfl (hd 19 dc))) dc ?_
      exact zaf 25 hu hi rfl
     ·
      intro D hn hd hcl hu hi
      refine zan (zb3 rfl (zab (m := 19) hu rfl (hd 19 dc))) dc ?_
      exact zaf 26 hu hi rfl
     ·
      intro D hn hd hcl hu hi
      refine zaB (b := false) rfl dc (zab (m := 19) hu rfl (hd 19 dc)) rfl ?_
      exact zaf 27 hu hi rfl
     ·
      intro D hn hd hcl hu hi
      refine zah rfl dc (zab (m := 27) hu rfl (hd 27 dc)) ?_
      exact zaf 28 hu hi rfl
     ·
      intro D hn hd hcl hu hi
      refine zan (zb3 rfl (zab (m := 28) hu rfl (hd 28 dc))) dc ?_
      exact zaf 29 hu hi rfl
     ·
      intro D hn hd hcl hu hi
      refine zan (zb3 rfl (zab (m := 28) hu rfl (hd 28 dc))) dc ?_
      exact zaf 30 hu hi rfl
     ·
      intro D hn hd hcl hu hi
      refine zan (zb3 rfl (zab (m := 28) hu rfl (hd 28 dc))) dc ?_
      exact zaf 31 hu hi rfl
     ·
      intro D hn hd hcl hu hi
      refine zan (zb3 rfl (zab (m := 28) hu rfl (hd 28 dc))) dc ?_
      exact zaf 32 hu hi rfl
     refine zan rfl dc (zaB (b := false) rfl dc rfl rfl (zah rfl dc rfl (zan rfl dc (zaB (b := false) rfl dc rfl rfl (zak rfl dc rfl (zap (zaj (zaX ?_))))))))
     cases h
     exact za3 (rs := [.tmp 12]) () (.inl rfl) Tryd.results8 (.cons (.tmp rfl) .nil) rfl Splits.nil
end Go.Proofs.YtgfkogafkhbgnaaDoor
