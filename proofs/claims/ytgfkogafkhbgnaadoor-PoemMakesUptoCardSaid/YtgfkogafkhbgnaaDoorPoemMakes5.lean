/-
  Texts laid together: LqI, PqI, PqJ, PqK, PqL, PqM, PqN, PqO, LqJ, Ar, Cl, Ce, LqN, Sh, Sw, PlPoemMakes. Nothing is assumed.
-/
import Derived.Test.YtgfkogafkhbgnaaDoorPoemMakes4
import Derived.Test.YtgfkogafkhbgnaaDoorPoemMakes3
import Derived.Test.YtgfkogafkhbgnaaDoorPoemMakes1
import Derived.Test.YtgfkogafkhbgnaaDoorPoemMakes2
import Derived.Laws.CopyRow
import Derived.OpenShut
import Derived.SliceStrings
import Derived.ProofKit
set_option maxRecDepth 100000
set_option maxHeartbeats 4000000
namespace Go.Proofs.YtgfkogafkhbgnaaDoor
open Go.RowKit Go.Lib
set_option linter.unusedVariables false
set_option linter.unusedSimpArgs false
def zeb  : Option Bool :=
zaE (zc8 (⟨#[35, 32, 65, 32, 115, 111, 110, 103, 10, 10, 111, 110, 101, 10, 32, 32, 116, 119, 111, 32, 10, 32, 10, 255, 116, 104, 114, 101, 101, 10, 102, 111, 117, 114, 10]⟩ : ByteArray)) fun (r1 : ((Option Gpoem_Poem) × Gapi_Spot)) =>
zaO (!(zd4 r1.2 (⟨0, 0⟩ : Gapi_Spot))) (
some false
) (
zaE (r1.1) fun (p1 : Gpoem_Poem) =>
zaE (zdM p1) fun (r2 : Int) =>
zaO ((r2 : Int) != 4) (
some false
) (
zaE (zdx p1) fun (r3 : Int) =>
zaO ((r3 : Int) != 2) (
some false
) (
zaE (zdL p1) fun (r4 : ByteArray) =>
zaO (!decide (r4 = (⟨#[65, 32, 115, 111, 110, 103]⟩ : ByteArray))) (
some false
) (
zaE (zeV p1 1 (⟨#[120]⟩ : ByteArray)) fun (r5 : ((Option Gpoem_Poem) × Int)) =>
zaO ((r5.2 : Int) == 0) (
zaE (r5.1) fun (p2 : Gpoem_Poem) =>
zaE (zcK p2) fun (r6 : ByteArray) =>
zaO (decide (r6 = (⟨#[35, 32, 65, 32, 115, 111, 110, 103, 10, 10, 111, 110, 101, 10, 120, 10, 10, 255, 116, 104, 114, 101, 101, 10, 102, 111, 117, 114, 10]⟩ : ByteArray))) (
zaE (zdS p2 p1) fun (r7 : Bool) =>
zaO (!r7) (
zaE (zdS p1 p1) fun (r8 : Bool) =>
some r8
) (
some false
)
) (
some false
)
) (
some false
)
)
)
)
)
theorem zga  {r : Bool} (h : zeb = some r) : FnP Tryd.prog 12 [] (.bool r) := by
 unfold zeb at h
 refine FnP.intro Tryd.func12 rfl Tryd.ntmps12 (by simp) ?_
 intro w0 K
 refine zak (zae (zai rfl dc rfl (zaj (zah (zak (zae ?_))))))
 obtain ⟨r1, hq1, h⟩ := zbN h
 refine zeq (vs := [.string (⟨#[35, 32, 65, 32, 115, 111, 110, 103, 10, 10, 111, 110, 101, 10, 32, 32, 116, 119, 111, 32, 10, 32, 10, 255, 116, 104, 114, 101, 101, 10, 102, 111, 117, 114, 10]⟩ : ByteArray)]) rfl dc rfl rfl rfl zoH (zg5 hq1) Splits.nil ?_
 rintro v1
 show TO _ _ _ _ _ _ _ _ _ _ [zd5 zaB zaz 93 v1 r1.1]
 refine zb3 (L' := [zd5 zaB zaz 93 v1 r1.1]) (zam [0] kr rfl) (zaf rfl dc rfl (zaZ rfl dc rfl rfl (zaZ rfl dc rfl rfl ?_)))
 refine zbv zk5 rfl dc (fun b1 => ?_)
 refine zai rfl dc rfl (za4 (k := 1) (vs := [zI r1.2.Err, zI r1.2.At]) (l' := [zI r1.2.Err, zI r1.2.At]) zgM rfl rfl rfl rfl rfl (show _ ≤ _ by simp) rfl rfl ?_)
 show TO _ _ _ _ _ _ _ _ _ _ [zd5 zaB zaz 93 v1 r1.1, cells b1 [zI r1.2.Err, zI r1.2.At] 26]
 refine zaj (zah (zak (zak (zae (zcj (k := 1) (cs := [zI r1.2.Err, zI r1.2.At]) zie rfl dc rfl rfl rfl rfl ?_)))))
 refine zbi (v := .agg #[zI 0, zI 0]) (ps := []) rfl dc rfl (fun _ => by kernel_rfl) ?_
 refine zau rfl dc rfl rfl (zlC r1.2 (⟨0, 0⟩ : Gapi_Spot)) (zaf rfl dc rfl ?_)
 refine za3 (s := 12) rfl (fun hb1 => ?_) (fun hb1 => ?_)
 ·
  have h := zaT hb1 h
  refine zal rfl dc (zal rfl dc (zal rfl dc (zaA (b := true) rfl dc rfl rfl (zaf rfl dc rfl (zal rfl dc (zal rfl dc (zal rfl dc (zaA (b := true) rfl dc rfl rfl (zaf rfl dc rfl (zal rfl dc (zal rfl dc (zal rfl dc (zaA (b := true) rfl dc rfl rfl ?_)))))))))))))
  refine zaj (zah (zbn rfl (zak (zae (zai rfl dc rfl (zaj (zah (zaQ (zas ?_)))))))))
  cases h
  exact zaW (rs := [.tmp 0]) () (.inl rfl) Tryd.results12 (.cons (.tmp rfl) .nil) rfl Splits.nil
 ·
  have h := zaU hb1 h
  refine zaf rfl dc rfl ?_
  obtain ⟨p1, hq2, h⟩ := zbN h
  refine zkC (As := [zd5 zaB zaz 93 v1 r1.1]) (zam [0] kr rfl) (zfY hq2) ?_
  rintro ⟨b2, hd1, hd2⟩ hv1
  subst hv1
  show TO _ _ _ _ _ _ _ _ _ _ [emp, cells b1 [zI r1.2.Err, zI r1.2.At] 26, cells b2 [.string p1.told_title, hd1.v, hd2.v, .string p1.source] 93, vec zar 36 6 hd1.v p1.told_lines, vec zaq 34 2 hd2.v p1.told_stanzas]
  obtain ⟨r2, hq3, h⟩ := zbN h
  refine zbe (v := zI r2) (vs := [zP b2]) (Rd.nil : Rd _ _ []) rfl dc rfl rfl rfl zm6 (zdF (bp1 := b2) (p1 := p1) (p1_h0 := hd1) (p1_h1 := hd2) hq3) (.own (zam [2] (by kernel_rfl) rfl) (fun _ _ h => sepL.one1.1 h) (.own (zam [3] (by kernel_rfl) rfl) (fun _ _ h => sepL.one1.1 h) (.own (zam [4] (by kernel_rfl) rfl) (fun _ _ h => sepL.one1.1 h) .nil))) ?_
  refine zau rfl dc rfl rfl zbu (zaA (b := false) rfl dc rfl rfl (zaf rfl dc rfl ?_))
  refine za3 (s := 17) rfl (fun hb2 => ?_) (fun hb2 => ?_)
  ·
   have h := zaT hb2 h
   refine zal rfl dc (zal rfl dc (zal rfl dc (zaA (b := true) rfl dc rfl rfl (zaf rfl dc rfl (zal rfl dc (zal rfl dc (zal rfl dc (zaA (b := true) rfl dc rfl rfl (zaj (zah (zbn rfl (zak (zae ?_)))))))))))))
   refine zai rfl dc rfl (zaj (zah (zaQ (zas ?_))))
   cases h
   exact zaW (rs := [.tmp 0]) () (.inl rfl) Tryd.results12 (.cons (.tmp rfl) .nil) rfl Splits.nil
  ·
   have h := zaU hb2 h
   refine zaf rfl dc rfl ?_
   obtain ⟨r3, hq4, h⟩ := zbN h
   refine zbe (v := zI r3) (vs := [zP b2]) (Rd.nil : Rd _ _ []) rfl dc rfl rfl rfl znQ (zdQ (bp1 := b2) (p1 := p1) (p1_h0 := hd1) (p1_h1 := hd2) hq4) (.own (zam [2] (by kernel_rfl) rfl) (fun _ _ h => sepL.one1.1 h) (.own (zam [3] (by kernel_rfl) rfl) (fun _ _ h => sepL.one1.1 h) (.own (zam [4] (by kernel_rfl) rfl) (fun _ _ h => sepL.one1.1 h) .nil))) ?_
   refine zau rfl dc rfl rfl zbu (zaA (b := false) rfl dc rfl rfl (zaf rfl dc rfl ?_))
   refine za3 (s := 22) rfl (fun hb3 => ?_) (fun hb3 => ?_)
   ·
    have h := zaT hb3 h
    refine zal rfl dc (zal rfl dc (zal rfl dc (zaA (b := true) rfl dc rfl rfl (zaj (zah (zbn rfl (zak (zae (zai rfl dc rfl (zaj (zah (zaQ (zas ?_)))))))))))))
    cases h
    exact zaW (rs := [.tmp 0]) () (.inl rfl) Tryd.results12 (.cons (.tmp rfl) .nil) rfl Splits.nil
   ·
    have h := zaU hb3 h
    refine zaf rfl dc rfl ?_
    obtain ⟨r4, hq5, h⟩ := zbN h
    refine zbe (v := .string r4) (vs := [zP b2]) (Rd.nil : Rd _ _ []) rfl dc rfl rfl rfl zmo (zcZ (bp1 := b2) (p1 := p1) (p1_h0 := hd1) (p1_h1 := hd2) hq5) (.own (zam [2] (by kernel_rfl) rfl) (fun _ _ h => sepL.one1.1 h) (.own (zam [3] (by kernel_rfl) rfl) (fun _ _ h => sepL.one1.1 h) (.own (zam [4] (by kernel_rfl) rfl) (fun _ _ h => sepL.one1.1 h) .nil))) ?_
    refine zau rfl dc rfl rfl zcS (zaA (b := false) rfl dc rfl rfl (zaj (zah ?_)))
    refine zaI rfl (fun hb4 => ?_) (fun hb4 => ?_)
    ·
     have h := zaT hb4 h
     refine zak (zae (zai rfl dc rfl (zaj (zah (zaQ (zas ?_))))))
     cases h
     exact zaW (rs := [.tmp 0]) () (.inl rfl) Tryd.results12 (.cons (.tmp rfl) .nil) rfl Splits.nil
    ·
     have h := zaU hb4 h
     refine zaK (zah (zak (zae (zaf rfl dc rfl ?_))))
     obtain ⟨r5, hq6, h⟩ := zbN h
     refine zeK (vs := [zP b2, zI 1, .string (⟨#[120]⟩ : ByteArray)]) (Rd.nil : Rd _ _ []) rfl dc rfl rfl rfl zpy (zhb (bp1 := b2) (p1 := p1) (p1_h0 := hd1) (p1_h1 := hd2) hq6) Splits.nil (.own (zam [2] (by kernel_rfl) rfl) (fun _ _ h => sepL.one1.1 h) (.own (zam [3] (by kernel_rfl) rfl) (fun _ _ h => sepL.one1.1 h) (.own (zam [4] (by kernel_rfl) rfl) (fun _ _ h => sepL.one1.1 h) .nil))) ?_
     rintro v2
     show TO _ _ _ _ _ _ _ _ _ _ [emp, cells b1 [zI r1.2.Err, zI r1.2.At] 26, cells b2 [.string p1.told_title, hd1.v, hd2.v, .string p1.source] 93, vec zar 36 6 hd1.v p1.told_lines, vec zaq 34 2 hd2.v p1.told_stanzas, zd5 zaB zaz 93 v2 r5.1]
     refine zb3 (L' := [emp, cells b1 [zI r1.2.Err, zI r1.2.At] 26, cells b2 [.string p1.told_title, hd1.v, hd2.v, .string p1.source] 93, vec zar 36 6 hd1.v p1.told_lines, vec zaq 34 2 hd2.v p1.told_stanzas, zd5 zaB zaz 93 v2 r5.1]) (zam [0, 1, 2, 3, 4, 5] kr rfl) (zaf rfl dc rfl (zaZ rfl dc rfl rfl (zaZ rfl dc rfl rfl (zai rfl dc rfl (zai rfl dc rfl (zaj (zah (zak (zae (zaf rfl dc rfl (zau rfl dc rfl rfl zbF (zaf rfl dc rfl ?_))))))))))))
     refine za3 (s := 34) rfl (fun hb5 => ?_) (fun hb5 => ?_)
     ·
      have h := zaT hb5 h
      refine zaf rfl dc rfl ?_
      obtain ⟨p2, hq7, h⟩ := zbN h
      refine zkC (As := [zd5 zaB zaz 93 v2 r5.1]) (zam [5] kr rfl) (zfY hq7) ?_
      rintro ⟨b3, hd3, hd4⟩ hv2
      subst hv2
      show TO _ _ _ _ _ _ _ _ _ _ [emp, cells b1 [zI r1.2.Err, zI r1.2.At] 26, cells b2 [.string p1.told_title, hd1.v, hd2.v, .string p1.source] 93, vec zar 36 6 hd1.v p1.told_lines, vec zaq 34 2 hd2.v p1.told_stanzas, emp, cells b3 [.string p2.told_title, hd3.v, hd4.v, .string p2.source] 93, vec zar 36 6 hd3.v p2.told_lines, vec zaq 34 2 hd4.v p2.told_stanzas]
      obtain ⟨r6, hq8, h⟩ := zbN h
      refine zbe (v := .string r6) (vs := [zP b3]) (Rd.nil : Rd _ _ []) rfl dc rfl rfl rfl zoF (ze3 (bp1 := b3) (p1 := p2) (p1_h0 := hd3) (p1_h1 := hd4) hq8) (.own (zam [6] (by kernel_rfl) rfl) (fun _ _ h => sepL.one1.1 h) (.own (zam [7] (by kernel_rfl) rfl) (fun _ _ h => sepL.one1.1 h) (.own (zam [8] (by kernel_rfl) rfl) (fun _ _ h => sepL.one1.1 h) .nil))) ?_
      refine zau rfl dc rfl rfl zf1 (zaA (b := true) rfl dc rfl rfl (zaf rfl dc rfl ?_))
      refine za3 (s := 39) rfl (fun hb6 => ?_) (fun hb6 => ?_)
      ·
       have h := zaT hb6 h
       refine zaf rfl dc rfl (zaf rfl dc rfl ?_)
       obtain ⟨r7, hq9, h⟩ := zbN h
       refine zbe (v := .bool r7) (vs := [zP b3, zP b2]) (Rd.nil : Rd _ _ []) rfl dc rfl rfl rfl zoE (zfe (bp1 := b3) (p1 := p2) (p1_h0 := hd3) (p1_h1 := hd4) (bq1 := b2) (q1 := p1) (q1_h0 := hd1) (q1_h1 := hd2) hq9) (.own (zam [6] (by kernel_rfl) rfl) (fun _ _ h => sepL.one1.1 h) (.own (zam [7] (by kernel_rfl) rfl) (fun _ _ h => sepL.one1.1 h) (.own (zam [8] (by kernel_rfl) rfl) (fun _ _ h => sepL.one1.1 h) (.own (zam [2] (by kernel_rfl) rfl) (fun _ _ h => sepL.one1.1 h) (.own (zam [3] (by kernel_rfl) rfl) (fun _ _ h => sepL.one1.1 h) (.own (zam [4] (by kernel_rfl) rfl) (fun _ _ h => sepL.one1.1 h) .nil)))))) ?_
       refine zf7 rfl dc rfl zeE (zaA (b := true) rfl dc rfl rfl (zaf rfl dc rfl ?_))
       refine za3 (s := 45) rfl (fun hb7 => ?_) (fun hb7 => ?_)
       ·
        have h := zaT hb7 h
        refine zaf rfl dc rfl (zaf rfl dc rfl ?_)
        obtain ⟨r8, hq10, h⟩ := zbN h
        refine zbe (v := .bool r8) (vs := [zP b2, zP b2]) (Rd.nil : Rd _ _ []) rfl dc rfl rfl rfl zoE (zfe (bp1 := b2) (p1 := p1) (p1_h0 := hd1) (p1_h1 := hd2) (bq1 := b2) (q1 := p1) (q1_h0 := hd1) (q1_h1 := hd2) hq10) (.own (zam [2] (by kernel_rfl) rfl) (fun _ _ h => sepL.one1.1 h) (.own (zam [3] (by kernel_rfl) rfl) (fun _ _ h => sepL.one1.1 h) (.own (zam [4] (by kernel_rfl) rfl) (fun _ _ h => sepL.one1.1 h) (.own (zam [2] (by kernel_rfl) rfl) (fun _ _ h => sepL.one1.1 h) (.own (zam [3] (by kernel_rfl) rfl) (fun _ _ h => sepL.one1.1 h) (.own (zam [4] (by kernel_rfl) rfl) (fun _ _ h => sepL.one1.1 h) .nil)))))) ?_
        refine zaA (b := true) rfl dc rfl rfl (zai rfl dc rfl (zaj (zah (zaQ ?_))))
        cases h
        exact zaW (rs := [.tmp 0]) () (.inl rfl) Tryd.results12 (.cons (.tmp rfl) .nil) rfl Splits.nil
       ·
        have h := zaU hb7 h
        refine zal rfl dc (zal rfl dc (zal rfl dc (zaA (b := false) rfl dc rfl rfl (zai rfl dc rfl (zaj (zah (zaQ ?_)))))))
        cases h
        exact zaW (rs := [.tmp 0]) () (.inl rfl) Tryd.results12 (.cons (.tmp rfl) .nil) rfl Splits.nil
      ·
       have h := zaU hb6 h
       refine zal rfl dc (zal rfl dc (zal rfl dc (zal rfl dc (zaA (b := false) rfl dc rfl rfl (zaf rfl dc rfl (zal rfl dc (zal rfl dc (zal rfl dc (zaA (b := false) rfl dc rfl rfl (zai rfl dc rfl (zaj (zah (zaQ ?_)))))))))))))
       cases h
       exact zaW (rs := [.tmp 0]) () (.inl rfl) Tryd.results12 (.cons (.tmp rfl) .nil) rfl Splits.nil
     ·
      have h := zaU hb5 h
      refine zal rfl dc (zal rfl dc (zal rfl dc (zaA (b := false) rfl dc rfl rfl (zaf rfl dc rfl (zal rfl dc (zal rfl dc (zal rfl dc (zal rfl dc (zaA (b := false) rfl dc rfl rfl (zaf rfl dc rfl (zal rfl dc (zal rfl dc (zal rfl dc ?_)))))))))))))
      refine zaA (b := false) rfl dc rfl rfl (zai rfl dc rfl (zaj (zah (zaQ ?_))))
      cases h
      exact zaW (rs := [.tmp 0]) () (.inl rfl) Tryd.results12 (.cons (.tmp rfl) .nil) rfl Splits.nil
def ze9 (source1 : ByteArray) (wv1 : Gref17_Poem) (l1 : List Gapi_Verse) : Option Bool :=
some false
theorem zhL {source1 : ByteArray} {wv1 : Gref17_Poem} {wv1_h0 : Hd} {vvwv10 : Value} {kwv10 : Nat} {Zwv10 zwv10 : List ((List ByteArray) × Hd)} (hwwv10 : Vw vvwv10 Zwv10 1 kwv10 wv1_h0.v zwv10) (hzwv10 : zwv10.map Prod.fst = wv1.Stanzas) {vvl1 vl1 : Value} {Ll1 : List Gapi_Verse} {kl1 : Nat} {l1 : List Gapi_Verse} (hwl1 : Vw vvl1 Ll1 6 kl1 vl1 l1) {r : Bool} (h : ze9 source1 wv1 l1 = some r) : FnR Tryd.prog 31 [.pointer none, .string source1, .agg #[.string wv1.Title, wv1_h0.v], vl1] [roRow encN_T_string 1 vvwv10 kwv10 Zwv10, rdOwn nestR_T_string Zwv10, roRow zar 6 vvl1 kl1 Ll1] [] (fun _ : Unit => (.bool r)) (fun _ => []) := by
 unfold ze9 at h
 refine FnR.intro Tryd.func31 rfl Tryd.ntmps31 (by simp) ?_
 intro w0 K hrd
 refine zjj ?_
 show TC _ _ _ _ _ _ _ _ _ [zd7 ((([] : List Nat) : List Nat).map zet)]
 refine zak (zae ?_)
 refine zfo rfl dc rfl (fun b1 => ?_)
 refine zfo rfl dc rfl (fun b2 => ?_)
 show TO _ _ _ _ _ _ _ _ _ _ [zd7 ((([] : List Nat) : List Nat).map zet), cells b1 [.pointer none] 23, cells b2 [.string wv1.Title, wv1_h0.v] 56]
 refine zmB (fun _ _ => Vw.one hwl1) rfl dc rfl (fun b3 => ?_)
 refine zbv zpN rfl dc (fun b4 => ?_)
 show TO _ _ _ _ _ _ _ _ _ _ [zd7 ((([] : List Nat) : List Nat).map zet), cells b1 [.pointer none] 23, cells b2 [.string wv1.Title, wv1_h0.v] 56, cells b3 [vl1] 57, cells b4 [.bool false] 4]
 refine zaj (zah (zak (zak ?_)))
 refine zb0 34 [(0, 27, .pointer none), (1, 28, .bool true), (2, 29, .bool true), (3, 30, undef), (4, 31, undef), (5, 32, undef), (6, 33, undef), (7, 34, .bool true), (8, 35, .bool true), (9, 36, undef), (10, 37, undef), (11, 38, undef), (12, 39, undef), (13, 40, undef), (14, 41, .bool true), (15, 42, .bool true), (16, 43, undef), (17, 44, undef), (18, 45, undef), (19, 46, undef), (20, 47, undef), (21, 48, .bool true), (22, 49, .bool true), (23, 50, undef), (24, 51, undef), (25, 52, undef), (26, 53, undef), (27, 54, undef), (28, 55, undef), (29, 56, .bool true), (30, 57, .bool true), (31, 58, undef), (32, 59, undef), (33, 60, undef)] mixed kr kr dc (by rfl) kr kr (zad ?_ (zad ?_ (zad ?_ (zad ?_ (zad ?_ (zad ?_ (zad ?_ (zad ?_ (zad ?_ (zad ?_ (zad ?_ (zad ?_ (zad ?_ (zad ?_ (zad ?_ (zad ?_ (zad ?_ (zad ?_ (zad ?_ (zad ?_ (zad ?_ (zad ?_ (zad ?_ (zad ?_ (zad ?_ (zad ?_ (zad ?_ (zad ?_ (zad ?_ (zad ?_ (zad ?_ (zad ?_ (zad ?_ (zad ?_ DrawPre.nil)))))))))))))))))))))))))))))))))) ?_
 ·
  intro D hn hd hcl hu hi
  refine zaM (k := 1) zef rfl dc (zaL (by rfl) rfl) rfl rfl ?_
  exact zag 0 hu hi rfl
 ·
  intro D hn hd hcl hu hi
  refine zau rfl dc (zac (m := 0) hu rfl (hd 0 dc)) rfl (ziE (m := (none : Option Unit)) Tryd.underlying23 (.inl ⟨rfl, rfl⟩)) ?_
  exact zag 1 hu hi rfl
 ·
  intro D hn hd hcl hu hi
  refine zaf rfl dc (zac (m := 1) hu rfl (hd 1 dc)) ?_
  exact zag 2 hu hi rfl
 ·
  intro D hn hd hcl hu hi
  refine zal (zcT rfl (zac (m := 2) hu rfl (hd 2 dc))) dc ?_
  exact zag 3 hu hi rfl
 ·
  intro D hn hd hcl hu hi
  refine zal (zcT rfl (zac (m := 2) hu rfl (hd 2 dc))) dc ?_
  exact zag 4 hu hi rfl
 ·
  intro D hn hd hcl hu hi
  refine zal (zcT rfl (zac (m := 2) hu rfl (hd 2 dc))) dc ?_
  exact zag 5 hu hi rfl
 ·
  intro D hn hd hcl hu hi
  refine zal (zcT rfl (zac (m := 2) hu rfl (hd 2 dc))) dc ?_
  exact zag 6 hu hi rfl
 ·
  intro D hn hd hcl hu hi
  refine zaA (b := true) rfl dc (zac (m := 2) hu rfl (hd 2 dc)) rfl ?_
  exact zag 7 hu hi rfl
 ·
  intro D hn hd hcl hu hi
  refine zaf rfl dc (zac (m := 7) hu rfl (hd 7 dc)) ?_
  exact zag 8 hu hi rfl
 ·
  intro D hn hd hcl hu hi
  refine zal (zcT rfl (zac (m := 8) hu rfl (hd 8 dc))) dc ?_
  exact zag 9 hu hi rfl
 ·
  intro D hn hd hcl hu hi
  refine zal (zcT rfl (zac (m := 8) hu rfl (hd 8 dc))) dc ?_
  exact zag 10 hu hi rfl
 ·
  intro D hn hd hcl hu hi
  refine zal (zcT rfl (zac (m := 8) hu rfl (hd 8 dc))) dc ?_
  exact zag 11 hu hi rfl
 ·
  intro D hn hd hcl hu hi
  refine zal (zcT rfl (zac (m := 8) hu rfl (hd 8 dc))) dc ?_
  exact zag 12 hu hi rfl
 ·
  intro D hn hd hcl hu hi
  refine zal (zcT rfl (zac (m := 8) hu rfl (hd 8 dc))) dc ?_
  exact zag 13 hu hi rfl
 ·
  intro D hn hd hcl hu hi
  refine zaA (b := true) rfl dc (zac (m := 8) hu rfl (hd 8 dc)) rfl ?_
  exact zag 14 hu hi rfl
 ·
  intro D hn hd hcl hu hi
  refine zaf rfl dc (zac (m := 14) hu rfl (hd 14 dc)) ?_
  exact zag 15 hu hi rfl
 ·
  intro D hn hd hcl hu hi
  refine zal (zcT rfl (zac (m := 15) hu rfl (hd 15 dc))) dc ?_
  exact zag 16 hu hi rfl
 ·
  intro D hn hd hcl hu hi
  refine zal (zcT rfl (zac (m := 15) hu rfl (hd 15 dc))) dc ?_
  exact zag 17 hu hi rfl
 ·
  intro D hn hd hcl hu hi
  refine zal (zcT rfl (zac (m := 15) hu rfl (hd 15 dc))) dc ?_
  exact zag 18 hu hi rfl
 ·
  intro D hn hd hcl hu hi
  refine zal (zcT rfl (zac (m := 15) hu rfl (hd 15 dc))) dc ?_
  exact zag 19 hu hi rfl
 ·
  intro D hn hd hcl hu hi
  refine zal (zcT rfl (zac (m := 15) hu rfl (hd 15 dc))) dc ?_
  exact zag 20 hu hi rfl
 ·
  intro D hn hd hcl hu hi
  refine zaA (b := true) rfl dc (zac (m := 15) hu rfl (hd 15 dc)) rfl ?_
  exact zag 21 hu hi rfl
 ·
  intro D hn hd hcl hu hi
  refine zaf rfl dc (zac (m := 21) hu rfl (hd 21 dc)) ?_
  exact zag 22 hu hi rfl
 ·
  intro D hn hd hcl hu hi
  refine zal (zcT rfl (zac (m := 22) hu rfl (hd 22 dc))) dc ?_
  exact zag 23 hu hi rfl
 ·
  intro D hn hd hcl hu hi
  refine zal (zcT rfl (zac (m := 22) hu rfl (hd 22 dc))) dc ?_
  exact zag 24 hu hi rfl
 ·
  intro D hn hd hcl hu hi
  refine zal (zcT rfl (zac (m := 22) hu rfl (hd 22 dc))) dc ?_
  exact zag 25 hu hi rfl
 ·
  intro D hn hd hcl hu hi
  refine zal (zcT rfl (zac (m := 22) hu rfl (hd 22 dc))) dc ?_
  exact zag 26 hu hi rfl
 ·
  intro D hn hd hcl hu hi
  refine zal (zcT rfl (zac (m := 22) hu rfl (hd 22 dc))) dc ?_
  exact zag 27 hu hi rfl
 ·
  intro D hn hd hcl hu hi
  refine zal (zcT rfl (zac (m := 22) hu rfl (hd 22 dc))) dc ?_
  exact zag 28 hu hi rfl
 ·
  intro D hn hd hcl hu hi
  refine zaA (b := true) rfl dc (zac (m := 22) hu rfl (hd 22 dc)) rfl ?_
  exact zag 29 hu hi rfl
 ·
  intro D hn hd hcl hu hi
  refine zaf rfl dc (zac (m := 29) hu rfl (hd 29 dc)) ?_
  exact zag 30 hu hi rfl
 ·
  intro D hn hd hcl hu hi
  refine zal (zcT rfl (zac (m := 30) hu rfl (hd 30 dc))) dc ?_
  exact zag 31 hu hi rfl
 ·
  intro D hn hd hcl hu hi
  refine zal (zcT rfl (zac (m := 30) hu rfl (hd 30 dc))) dc ?_
  exact zag 32 hu hi rfl
 ·
  intro D hn hd hcl hu hi
  refine zal (zcT rfl (zac (m := 30) hu rfl (hd 30 dc))) dc ?_
  exact zag 33 hu hi rfl
 refine zal rfl dc (zal rfl dc (zaA (b := true) rfl dc rfl rfl (zaj (zah (zbn rfl (zak (zae ?_)))))))
 refine zbh (k := 4) (l' := [.bool false]) zjl rfl rfl rfl rfl rfl (fun _ _ => rfl) rfl ?_
 refine zaj (zah (zaQ (zas ?_)))
 cases h
 exact zdY (rs := [.cell 8 4]) ([] : List Nat) () (.inl rfl) (zbS (k := 0) rfl) Tryd.results31 (.cons (.cell zkT (k := 4) rfl rfl) .nil) rfl Splits.nil
def zdH (p1 : Gpoem_Poem) (l1 : List Gapi_Verse) (ek1 : Int → Option Bool) (x1 : Int × Gapi_Verse) (ag1 : Int → Option Bool) (i4 : Int) : Option Bool :=
zaO (decide (((l1.length : Int) : Int) ≤ i4)) (
ek1 i4
) (
zaO ((x1.1 : Int) != i4) (
ek1 i4
) (
zaE (zdk l1 i4) fun (q1 : Gapi_Verse) =>
zaO (!(zcu x1.2 q1)) (
ek1 i4
) (
zaE (zbT p1 i4) fun (r8 : (Gapi_Verse × Int)) =>
zaO ((r8.2 : Int) != 0) (
ek1 i4
) (
zaO (!(zcu r8.1 x1.2)) (
ek1 i4
) (
grd (I64 (i4 + 1)) <|
ag1 (i4 + 1)
)
)
)
)
)
def zdz (p1 : Gpoem_Poem) (wv1 : Gref17_Poem) (j2 : Option Bool) (ag2 : Int → Int → Option Bool) (from3 : Int) (x4 : Int) : Option Bool :=
zaO (decide ((x4 : Int) < (wv1.Stanzas.length : Int))) (
zaE (zdk wv1.Stanzas x4) fun (x5 : List ByteArray) =>
zaE (zbB p1 x4) fun (r9 : (Gapi_Span × Int)) =>
zaO ((r9.2 : Int) != 0) (
some false
) (
grd (I64 (from3 + (x5.length : Int))) <|
zaO (!(zdt r9.1 (⟨from3, from3 + (x5.length : Int)⟩ : Gapi_Span))) (
some false
) (
grd (I64 (from3 + (x5.length : Int))) <|
grd (I64 (x4 + 1)) <|
ag2 (from3 + (x5.length : Int)) (x4 + 1)
)
)
) (
j2
)
def zcO (p1 : Gpoem_Poem) (l1 : List Gapi_Verse) (j3 : Option Bool) (ag3 : Int → Option Bool) (x8 : Int) : Option Bool :=
zaO (decide ((x8 : Int) < (([(-1), (l1.length : Int)] : List Int).length : Int))) (
zaE (zdk ([(-1), (l1.length : Int)] : List Int) x8) fun (q2 : Int) =>
zaE (zbT p1 q2) fun (r10 : (Gapi_Verse × Int)) =>
zaO (!(zcu r10.1 (⟨ByteArray.empty, 0, 0, 0, 0, 0⟩ : Gapi_Verse))) (
some false
) (
zaO ((r10.2 : Int) != 5) (
some false
) (
grd (I64 (x8 + 1)) <|
ag3 (x8 + 1)
)
)
) (
j3
)
def zcN (p1 : Gpoem_Poem) (wv1 : Gref17_Poem) (j4 : Option Bool) (ag4 : Int → Option Bool) (x11 : Int) : Option Bool :=
zaO (decide ((x11 : Int) < (([(-1), (wv1.Stanzas.length : Int)] : List Int).length : Int))) (
zaE (zdk ([(-1), (wv1.Stanzas.length : Int)] : List Int) x11) fun (q3 : Int) =>
zaE (zbB p1 q3) fun (r11 : (Gapi_Span × Int)) =>
zaO (!(zdt r11.1 (⟨0, 0⟩ : Gapi_Span))) (
some false
) (
zaO ((r11.2 : Int) != 5) (
some false
) (
grd (I64 (x11 + 1)) <|
ag4 (x11 + 1)
)
)
) (
j4
)
def zfh (p1 : Gpoem_Poem) (source1 : ByteArray) (wv1 : Gref17_Poem) (l1 : List Gapi_Verse) : Option Bool :=
zaE (zea p1) fun (r1 : ByteArray) =>
zaO (!decide (r1 = source1)) (
some false
) (
zaE (zdL p1) fun (r2 : ByteArray) =>
zaO (!decide (r2 = wv1.Title)) (
some false
) (
zaE (zdM p1) fun (r3 : Int) =>
zaO ((r3 : Int) != (l1.length : Int)) (
some false
) (
zaE (zdx p1) fun (r4 : Int) =>
zaO ((r4 : Int) != (wv1.Stanzas.length : Int)) (
some false
) (
zaE (zcK p1) fun (r5 : ByteArray) =>
zaE (zcC wv1) fun (r6 : ByteArray) =>
zaO (!decide (r5 = r6)) (
some false
) (
zbE (fun (j1 : Int → Option Bool) =>
zaE (zdT p1) fun (r7 : Unit) =>
zaE (zcz p1) fun (its1 : (List (Int × Gapi_Verse))) =>
zbE (fun (ek1 : Int → Option Bool) =>
zbE (fun (dn1 : Int → Option Bool) =>
zeT dn1 (zdH p1 l1 ek1) its1 0
) (fun (i4 : Int) =>
j1 i4
)
) (fun (i5 : Int) =>
some false
)
) (fun (i1 : Int) =>
zbE (fun (j2 : Option Bool) =>
za2 (fun _ _ => none) (zdz p1 wv1 j2) zbG 0 0
) (
zbE (fun (j3 : Option Bool) =>
za2 (fun _ => none) (zcO p1 l1 j3) zbG 0
) (
zbE (fun (j4 : Option Bool) =>
za2 (fun _ => none) (zcN p1 wv1 j4) zbG 0
) (
some ((i1 : Int) == (l1.length : Int))
)
)
)
)
)
)
)
)
)
theorem zkp {bp1 : Nat} {p1 : Gpoem_Poem} {p1_h0 p1_h1 : Hd} {source1 : ByteArray} {wv1 : Gref17_Poem} {wv1_h0 : Hd} {vvwv10 : Value} {kwv10 : Nat} {Zwv10 zwv10 : List ((List ByteArray) × Hd)} (hwwv10 : Vw vvwv10 Zwv10 1 kwv10 wv1_h0.v zwv10) (hzwv10 : zwv10.map Prod.fst = wv1.Stanzas) {vvl1 vl1 : Value} {Ll1 : List Gapi_Verse} {kl1 : Nat} {l1 : List Gapi_Verse} (hwl1 : Vw vvl1 Ll1 6 kl1 vl1 l1) {r : Bool} (h : zfh p1 source1 wv1 l1 = some r) : FnR Tryd.prog 31 [zP bp1, .string source1, .agg #[.string wv1.Title, wv1_h0.v], vl1] [cells bp1 [.string p1.told_title, p1_h0.v, p1_h1.v, .string p1.source] 93, vec zar 36 6 p1_h0.v p1.told_lines, vec zaq 34 2 p1_h1.v p1.told_stanzas, roRow encN_T_string 1 vvwv10 kwv10 Zwv10, rdOwn nestR_T_string Zwv10, roRow zar 6 vvl1 kl1 Ll1] [] (fun _ : Unit => (.bool r)) (fun _ => []) := by
 unfold zfh at h
 refine FnR.intro Tryd.func31 rfl Tryd.ntmps31 (by simp) ?_
 intro w0 K hrd
 refine zjj ?_
 show TC _ _ _ _ _ _ _ _ _ [zd7 ((([] : List Nat) : List Nat).map zet)]
 refine zak (zae ?_)
 refine zfo rfl dc rfl (fun b1 => ?_)
 refine zfo rfl dc rfl (fun b2 => ?_)
 show TO _ _ _ _ _ _ _ _ _ _ [zd7 ((([] : List Nat) : List Nat).map zet), cells b1 [zP bp1] 23, cells b2 [.string wv1.Title, wv1_h0.v] 56]
 refine zmB (fun _ _ => Vw.one hwl1) rfl dc rfl (fun b3 => ?_)
 refine zbv zpN rfl dc (fun b4 => ?_)
 show TO _ _ _ _ _ _ _ _ _ _ [zd7 ((([] : List Nat) : List Nat).map zet), cells b1 [zP bp1] 23, cells b2 [.string wv1.Title, wv1_h0.v] 56, cells b3 [vl1] 57, cells b4 [.bool false] 4]
 refine zaj (zah (zak (zak ?_)))
 obtain ⟨r1, hq1, h⟩ := zbN h
 refine zer (b := !decide (r1 = source1)) (fun hb1 => ?_) (fun hb1 => ?_)
 ·
  have h := zaT hb1 h
  refine zb0 34 [(0, 27, zP bp1), (1, 28, .bool false), (2, 29, .bool false), (3, 30, zP bp1), (4, 31, .string r1), (5, 32, .string source1), (6, 33, .bool true), (7, 34, .bool true), (8, 35, .bool true), (9, 36, undef), (10, 37, undef), (11, 38, undef), (12, 39, undef), (13, 40, undef), (14, 41, .bool true), (15, 42, .bool true), (16, 43, undef), (17, 44, undef), (18, 45, undef), (19, 46, undef), (20, 47, undef), (21, 48, .bool true), (22, 49, .bool true), (23, 50, undef), (24, 51, undef), (25, 52, undef), (26, 53, undef), (27, 54, undef), (28, 55, undef), (29, 56, .bool true), (30, 57, .bool true), (31, 58, undef), (32, 59, undef), (33, 60, undef)] mixed kr kr dc (by rfl) kr kr (zad ?_ (zad ?_ (zad ?_ (zad ?_ (zad ?_ (zad ?_ (zad ?_ (zad ?_ (zad ?_ (zad ?_ (zad ?_ (zad ?_ (zad ?_ (zad ?_ (zad ?_ (zad ?_ (zad ?_ (zad ?_ (zad ?_ (zad ?_ (zad ?_ (zad ?_ (zad ?_ (zad ?_ (zad ?_ (zad ?_ (zad ?_ (zad ?_ (zad ?_ (zad ?_ (zad ?_ (zad ?_ (zad ?_ (zad ?_ DrawPre.nil)))))))))))))))))))))))))))))))))) ?_
  ·
   intro D hn hd hcl hu hi
   refine zaM (k := 1) zef rfl dc (zaL (by rfl) rfl) rfl rfl ?_
   exact zag 0 hu hi rfl
  ·
   intro D hn hd hcl hu hi
   refine zau rfl dc (zac (m := 0) hu rfl (hd 0 dc)) rfl (za8 Tryd.underlying23) ?_
   exact zag 1 hu hi rfl
  ·
   intro D hn hd hcl hu hi
   refine zaf rfl dc (zac (m := 1) hu rfl (hd 1 dc)) ?_
   exact zag 2 hu hi rfl
  ·
   intro D hn hd hcl hu hi
   refine zaM (k := 1) zef (zch rfl (zac (m := 2) hu rfl (hd 2 dc))) dc (zaL (by rfl) rfl) rfl rfl ?_
   exact zag 3 hu hi rfl
  ·
   intro D hn hd hcl hu hi
   refine zbe (v := .string r1) (vs := [zP bp1]) hrd (zch rfl (zac (m := 2) hu rfl (hd 2 dc))) dc rfl (evL.cons (zac (m := 3) hu rfl (hd 3 dc)) evL.nil) rfl zmp (zcM (bp1 := bp1) (p1 := p1) (p1_h0 := p1_h0) (p1_h1 := p1_h1) hq1) (.ro 0 rfl (.ro 1 rfl (.ro 2 rfl .nil))) ?_
   exact zag 4 hu hi rfl
  ·
   intro D hn hd hcl hu hi
   refine zaf (zch rfl (zac (m := 2) hu rfl (hd 2 dc))) dc (zaL (by rfl) rfl) ?_
   exact zag 5 hu hi rfl
  ·
   intro D hn hd hcl hu hi
   refine zau (zch rfl (zac (m := 2) hu rfl (hd 2 dc))) dc (zac (m := 4) hu rfl (hd 4 dc)) (zac (m := 5) hu rfl (hd 5 dc)) zcS (zdb (show Value.bool (!decide (r1 = source1)) = Value.bool true from congrArg Value.bool hb1) ?_)
   exact zag 6 hu hi rfl
  ·
   intro D hn hd hcl hu hi
   refine zaA (b := false) rfl dc (zac (m := 2) hu rfl (hd 2 dc)) (zac (m := 6) hu rfl (hd 6 dc)) ?_
   exact zag 7 hu hi rfl
  ·
   intro D hn hd hcl hu hi
   refine zaf rfl dc (zac (m := 7) hu rfl (hd 7 dc)) ?_
   exact zag 8 hu hi rfl
  ·
   intro D hn hd hcl hu hi
   refine zal (zcT rfl (zac (m := 8) hu rfl (hd 8 dc))) dc ?_
   exact zag 9 hu hi rfl
  ·
   intro D hn hd hcl hu hi
   refine zal (zcT rfl (zac (m := 8) hu rfl (hd 8 dc))) dc ?_
   exact zag 10 hu hi rfl
  ·
   intro D hn hd hcl hu hi
   refine zal (zcT rfl (zac (m := 8) hu rfl (hd 8 dc))) dc ?_
   exact zag 11 hu hi rfl
  ·
   intro D hn hd hcl hu hi
   refine zal (zcT rfl (zac (m := 8) hu rfl (hd 8 dc))) dc ?_
   exact zag 12 hu hi rfl
  ·
   intro D hn hd hcl hu hi
   refine zal (zcT rfl (zac (m := 8) hu rfl (hd 8 dc))) dc ?_
   exact zag 13 hu hi rfl
  ·
   intro D hn hd hcl hu hi
   refine zaA (b := true) rfl dc (zac (m := 8) hu rfl (hd 8 dc)) rfl ?_
   exact zag 14 hu hi rfl
  ·
   intro D hn hd hcl hu hi
   refine zaf rfl dc (zac (m := 14) hu rfl (hd 14 dc)) ?_
   exact zag 15 hu hi rfl
  ·
   intro D hn hd hcl hu hi
   refine zal (zcT rfl (zac (m := 15) hu rfl (hd 15 dc))) dc ?_
   exact zag 16 hu hi rfl
  ·
   intro D hn hd hcl hu hi
   refine zal (zcT rfl (zac (m := 15) hu rfl (hd 15 dc))) dc ?_
   exact zag 17 hu hi rfl
  ·
   intro D hn hd hcl hu hi
   refine zal (zcT rfl (zac (m := 15) hu rfl (hd 15 dc))) dc ?_
   exact zag 18 hu hi rfl
  ·
   intro D hn hd hcl hu hi
   refine zal (zcT rfl (zac (m := 15) hu rfl (hd 15 dc))) dc ?_
   exact zag 19 hu hi rfl
  ·
   intro D hn hd hcl hu hi
   refine zal (zcT rfl (zac (m := 15) hu rfl (hd 15 dc))) dc ?_
   exact zag 20 hu hi rfl
  ·
   intro D hn hd hcl hu hi
   refine zaA (b := true) rfl dc (zac (m := 15) hu rfl (hd 15 dc)) rfl ?_
   exact zag 21 hu hi rfl
  ·
   intro D hn hd hcl hu hi
   refine zaf rfl dc (zac (m := 21) hu rfl (hd 21 dc)) ?_
   exact zag 22 hu hi rfl
  ·
   intro D hn hd hcl hu hi
   refine zal (zcT rfl (zac (m := 22) hu rfl (hd 22 dc))) dc ?_
   exact zag 23 hu hi rfl
  ·
   intro D hn hd hcl hu hi
   refine zal (zcT rfl (zac (m := 22) hu rfl (hd 22 dc))) dc ?_
   exact zag 24 hu hi rfl
  ·
   intro D hn hd hcl hu hi
   refine zal (zcT rfl (zac (m := 22) hu rfl (hd 22 dc))) dc ?_
   exact zag 25 hu hi rfl
  ·
   intro D hn hd hcl hu hi
   refine zal (zcT rfl (zac (m := 22) hu rfl (hd 22 dc))) dc ?_
   exact zag 26 hu hi rfl
  ·
   intro D hn hd hcl hu hi
   refine zal (zcT rfl (zac (m := 22) hu rfl (hd 22 dc))) dc ?_
   exact zag 27 hu hi rfl
  ·
   intro D hn hd hcl hu hi
   refine zal (zcT rfl (zac (m := 22) hu rfl (hd 22 dc))) dc ?_
   exact zag 28 hu hi rfl
  ·
   intro D hn hd hcl hu hi
   refine zaA (b := true) rfl dc (zac (m := 22) hu rfl (hd 22 dc)) rfl ?_
   exact zag 29 hu hi rfl
  ·
   intro D hn hd hcl hu hi
   refine zaf rfl dc (zac (m := 29) hu rfl (hd 29 dc)) ?_
   exact zag 30 hu hi rfl
  ·
   intro D hn hd hcl hu hi
   refine zal (zcT rfl (zac (m := 30) hu rfl (hd 30 dc))) dc ?_
   exact zag 31 hu hi rfl
  ·
   intro D hn hd hcl hu hi
   refine zal (zcT rfl (zac (m := 30) hu rfl (hd 30 dc))) dc ?_
   exact zag 32 hu hi rfl
  ·
   intro D hn hd hcl hu hi
   refine zal (zcT rfl (zac (m := 30) hu rfl (hd 30 dc))) dc ?_
   exact zag 33 hu hi rfl
  refine zal rfl dc (zal rfl dc (zaA (b := true) rfl dc rfl rfl (zaj (zah (zbn rfl (zak (zae ?_)))))))
  refine zbh (k := 4) (l' := [.bool false]) zjl rfl rfl rfl rfl rfl (fun _ _ => rfl) rfl ?_
  refine zaj (zah (zaQ (zas ?_)))
  cases h
  exact zdY (rs := [.cell 8 4]) ([] : List Nat) () (.inl rfl) (zbS (k := 0) rfl) Tryd.results31 (.cons (.cell zkT (k := 4) rfl rfl) .nil) rfl Splits.nil
 ·
  have h := zaU hb1 h
  obtain ⟨r2, hq2, h⟩ := zbN h
  refine zer (b := !decide (r2 = wv1.Title)) (fun hb2 => ?_) (fun hb2 => ?_)
  ·
   have h := zaT hb2 h
   refine zb0 34 [(0, 27, zP bp1), (1, 28, .bool false), (2, 29, .bool false), (3, 30, zP bp1), (4, 31, .string r1), (5, 32, .string source1), (6, 33, .bool false), (7, 34, .bool false), (8, 35, .bool false), (9, 36, zP bp1), (10, 37, .string r2), (11, 38, zP b2), (12, 39, .string wv1.Title), (13, 40, .bool true), (14, 41, .bool true), (15, 42, .bool true), (16, 43, undef), (17, 44, undef), (18, 45, undef), (19, 46, undef), (20, 47, undef), (21, 48, .bool true), (22, 49, .bool true), (23, 50, undef), (24, 51, undef), (25, 52, undef), (26, 53, undef), (27, 54, undef), (28, 55, undef), (29, 56, .bool true), (30, 57, .bool true), (31, 58, undef), (32, 59, undef), (33, 60, undef)] mixed kr kr dc (by rfl) kr kr (zad ?_ (zad ?_ (zad ?_ (zad ?_ (zad ?_ (zad ?_ (zad ?_ (zad ?_ (zad ?_ (zad ?_ (zad ?_ (zad ?_ (zad ?_ (zad ?_ (zad ?_ (zad ?_ (zad ?_ (zad ?_ (zad ?_ (zad ?_ (zad ?_ (zad ?_ (zad ?_ (zad ?_ (zad ?_ (zad ?_ (zad ?_ (zad ?_ (zad ?_ (zad ?_ (zad ?_ (zad ?_ (zad ?_ (zad ?_ DrawPre.nil)))))))))))))))))))))))))))))))))) ?_
   ·
    intro D hn hd hcl hu hi
    refine zaM (k := 1) zef rfl dc (zaL (by rfl) rfl) rfl rfl ?_
    exact zag 0 hu hi rfl
   ·
    intro D hn hd hcl hu hi
    refine zau rfl dc (zac (m := 0) hu rfl (hd 0 dc)) rfl (za8 Tryd.underlying23) ?_
    exact zag 1 hu hi rfl
   ·
    intro D hn hd hcl hu hi
    refine zaf rfl dc (zac (m := 1) hu rfl (hd 1 dc)) ?_
    exact zag 2 hu hi rfl
   ·
    intro D hn hd hcl hu hi
    refine zaM (k := 1) zef (zch rfl (zac (m := 2) hu rfl (hd 2 dc))) dc (zaL (by rfl) rfl) rfl rfl ?_
    exact zag 3 hu hi rfl
   ·
    intro D hn hd hcl hu hi
    refine zbe (v := .string r1) (vs := [zP bp1]) hrd (zch rfl (zac (m := 2) hu rfl (hd 2 dc))) dc rfl (evL.cons (zac (m := 3) hu rfl (hd 3 dc)) evL.nil) rfl zmp (zcM (bp1 := bp1) (p1 := p1) (p1_h0 := p1_h0) (p1_h1 := p1_h1) hq1) (.ro 0 rfl (.ro 1 rfl (.ro 2 rfl .nil))) ?_
    exact zag 4 hu hi rfl
   ·
    intro D hn hd hcl hu hi
    refine zaf (zch rfl (zac (m := 2) hu rfl (hd 2 dc))) dc (zaL (by rfl) rfl) ?_
    exact zag 5 hu hi rfl
   ·
    intro D hn hd hcl hu hi
    refine zau (zch rfl (zac (m := 2) hu rfl (hd 2 dc))) dc (zac (m := 4) hu rfl (hd 4 dc)) (zac (m := 5) hu rfl (hd 5 dc)) zcS (zdb (show Value.bool (!decide (r1 = source1)) = Value.bool false from congrArg Value.bool hb1) ?_)
    exact zag 6 hu hi rfl
   ·
    intro D hn hd hcl hu hi
    refine zaA (b := false) rfl dc (zac (m := 2) hu rfl (hd 2 dc)) (zac (m := 6) hu rfl (hd 6 dc)) ?_
    exact zag 7 hu hi rfl
   ·
    intro D hn hd hcl hu hi
    refine zaf rfl dc (zac (m := 7) hu rfl (hd 7 dc)) ?_
    exact zag 8 hu hi rfl
   ·
    intro D hn hd hcl hu hi
    refine zaM (k := 1) zef (zch rfl (zac (m := 8) hu rfl (hd 8 dc))) dc (zaL (by rfl) rfl) rfl rfl ?_
    exact zag 9 hu hi rfl
   ·
    intro D hn hd hcl hu hi
    refine zbe (v := .string r2) (vs := [zP bp1]) hrd (zch rfl (zac (m := 8) hu rfl (hd 8 dc))) dc rfl (evL.cons (zac (m := 9) hu rfl (hd 9 dc)) evL.nil) rfl zmo (zcZ (bp1 := bp1) (p1 := p1) (p1_h0 := p1_h0) (p1_h1 := p1_h1) hq2) (.ro 0 rfl (.ro 1 rfl (.ro 2 rfl .nil))) ?_
    exact zag 10 hu hi rfl
   ·
    intro D hn hd hcl hu hi
    refine zan zfS (zch rfl (zac (m := 8) hu rfl (hd 8 dc))) dc (zaL (by rfl) rfl) (show _ = 0 from rfl) ?_
    exact zag 11 hu hi rfl
   ·
    intro D hn hd hcl hu hi
    refine zaM (k := 2) zgN (zch rfl (zac (m := 8) hu rfl (hd 8 dc))) dc (zac (m := 11) hu rfl (hd 11 dc)) rfl rfl ?_
    exact zag 12 hu hi rfl
   ·
    intro D hn hd hcl hu hi
    refine zau (zch rfl (zac (m := 8) hu rfl (hd 8 dc))) dc (zac (m := 10) hu rfl (hd 10 dc)) (zac (m := 12) hu rfl (hd 12 dc)) zcS (zdb (show Value.bool (!decide (r2 = wv1.Title)) = Value.bool true from congrArg Value.bool hb2) ?_)
    exact zag 13 hu hi rfl
   ·
    intro D hn hd hcl hu hi
    refine zaA (b := false) rfl dc (zac (m := 8) hu rfl (hd 8 dc)) (zac (m := 13) hu rfl (hd 13 dc)) ?_
    exact zag 14 hu hi rfl
   ·
    intro D hn hd hcl hu hi
    refine zaf rfl dc (zac (m := 14) hu rfl (hd 14 dc)) ?_
    exact zag 15 hu hi rfl
   ·
    intro D hn hd hcl hu hi
    refine zal (zcT rfl (zac (m := 15) hu rfl (hd 15 dc))) dc ?_
    exact zag 16 hu hi rfl
   ·
    intro D hn hd hcl hu hi
    refine zal (zcT rfl (zac (m := 15) hu rfl (hd 15 dc))) dc ?_
    exact zag 17 hu hi rfl
   ·
    intro D hn hd hcl hu hi
    refine zal (zcT rfl (zac (m := 15) hu rfl (hd 15 dc))) dc ?_
    exact zag 18 hu hi rfl
   ·
    intro D hn hd hcl hu hi
    refine zal (zcT rfl (zac (m := 15) hu rfl (hd 15 dc))) dc ?_
    exact zag 19 hu hi rfl
   ·
    intro D hn hd hcl hu hi
    refine zal (zcT rfl (zac (m := 15) hu rfl (hd 15 dc))) dc ?_
    exact zag 20 hu hi rfl
   ·
    intro D hn hd hcl hu hi
    refine zaA (b := true) rfl dc (zac (m := 15) hu rfl (hd 15 dc)) rfl ?_
    exact zag 21 hu hi rfl
   ·
    intro D hn hd hcl hu hi
    refine zaf rfl dc (zac (m := 21) hu rfl (hd 21 dc)) ?_
    exact zag 22 hu hi rfl
   ·
    intro D hn hd hcl hu hi
    refine zal (zcT rfl (zac (m := 22) hu rfl (hd 22 dc))) dc ?_
    exact zag 23 hu hi rfl
   ·
    intro D hn hd hcl hu hi
    refine zal (zcT rfl (zac (m := 22) hu rfl (hd 22 dc))) dc ?_
    exact zag 24 hu hi rfl
   ·
    intro D hn hd hcl hu hi
    refine zal (zcT rfl (zac (m := 22) hu rfl (hd 22 dc))) dc ?_
    exact zag 25 hu hi rfl
   ·
    intro D hn hd hcl hu hi
    refine zal (zcT rfl (zac (m := 22) hu rfl (hd 22 dc))) dc ?_
    exact zag 26 hu hi rfl
   ·
    intro D hn hd hcl hu hi
    refine zal (zcT rfl (zac (m := 22) hu rfl (hd 22 dc))) dc ?_
    exact zag 27 hu hi rfl
   ·
    intro D hn hd hcl hu hi
    refine zal (zcT rfl (zac (m := 22) hu rfl (hd 22 dc))) dc ?_
    exact zag 28 hu hi rfl
   ·
    intro D hn hd hcl hu hi
    refine zaA (b := true) rfl dc (zac (m := 22) hu rfl (hd 22 dc)) rfl ?_
    exact zag 29 hu hi rfl
   ·
    intro D hn hd hcl hu hi
    refine zaf rfl dc (zac (m := 29) hu rfl (hd 29 dc)) ?_
    exact zag 30 hu hi rfl
   ·
    intro D hn hd hcl hu hi
    refine zal (zcT rfl (zac (m := 30) hu rfl (hd 30 dc))) dc ?_
    exact zag 31 hu hi rfl
   ·
    intro D hn hd hcl hu hi
    refine zal (zcT rfl (zac (m := 30) hu rfl (hd 30 dc))) dc ?_
    exact zag 32 hu hi rfl
   ·
    intro D hn hd hcl hu hi
    refine zal (zcT rfl (zac (m := 30) hu rfl (hd 30 dc))) dc ?_
    exact zag 33 hu hi rfl
   refine zal rfl dc (zal rfl dc (zaA (b := true) rfl dc rfl rfl (zaj (zah (zbn rfl (zak (zae ?_)))))))
   refine zbh (k := 4) (l' := [.bool false]) zjl rfl rfl rfl rfl rfl (fun _ _ => rfl) rfl ?_
   refine zaj (zah (zaQ (zas ?_)))
   cases h
   exact zdY (rs := [.cell 8 4]) ([] : List Nat) () (.inl rfl) (zbS (k := 0) rfl) Tryd.results31 (.cons (.cell zkT (k := 4) rfl rfl) .nil) rfl Splits.nil
  ·
   have h := zaU hb2 h
   obtain ⟨r3, hq3, h⟩ := zbN h
   refine zer (b := (r3 : Int) != (l1.length : Int)) (fun hb3 => ?_) (fun hb3 => ?_)
   ·
    have h := zaT hb3 h
    refine zb0 34 [(0, 27, zP bp1), (1, 28, .bool false), (2, 29, .bool false), (3, 30, zP bp1), (4, 31, .string r1), (5, 32, .string source1), (6, 33, .bool false), (7, 34, .bool false), (8, 35, .bool false), (9, 36, zP bp1), (10, 37, .string r2), (11, 38, zP b2), (12, 39, .string wv1.Title), (13, 40, .bool false), (14, 41, .bool false), (15, 42, .bool false), (16, 43, zP bp1), (17, 44, zI r3), (18, 45, vl1), (19, 46, zI (l1.length : Int)), (20, 47, .bool true), (21, 48, .bool true), (22, 49, .bool true), (23, 50, undef), (24, 51, undef), (25, 52, undef), (26, 53, undef), (27, 54, undef), (28, 55, undef), (29, 56, .bool true), (30, 57, .bool true), (31, 58, undef), (32, 59, undef), (33, 60, undef)] mixed kr kr dc (by rfl) kr kr (zad ?_ (zad ?_ (zad ?_ (zad ?_ (zad ?_ (zad ?_ (zad ?_ (zad ?_ (zad ?_ (zad ?_ (zad ?_ (zad ?_ (zad ?_ (zad ?_ (zad ?_ (zad ?_ (zad ?_ (zad ?_ (zad ?_ (zad ?_ (zad ?_ (zad ?_ (zad ?_ (zad ?_ (zad ?_ (zad ?_ (zad ?_ (zad ?_ (zad ?_ (zad ?_ (zad ?_ (zad ?_ (zad ?_ (zad ?_ DrawPre.nil)))))))))))))))))))))))))))))))))) ?_
    ·
     intro D hn hd hcl hu hi
     refine zaM (k := 1) zef rfl dc (zaL (by rfl) rfl) rfl rfl ?_
     exact zag 0 hu hi rfl
    ·
     intro D hn hd hcl hu hi
     refine zau rfl dc (zac (m := 0) hu rfl (hd 0 dc)) rfl (za8 Tryd.underlying23) ?_
     exact zag 1 hu hi rfl
    ·
     intro D hn hd hcl hu hi
     refine zaf rfl dc (zac (m := 1) hu rfl (hd 1 dc)) ?_
     exact zag 2 hu hi rfl
    ·
     intro D hn hd hcl hu hi
     refine zaM (k := 1) zef (zch rfl (zac (m := 2) hu rfl (hd 2 dc))) dc (zaL (by rfl) rfl) rfl rfl ?_
     exact zag 3 hu hi rfl
    ·
     intro D hn hd hcl hu hi
     refine zbe (v := .string r1) (vs := [zP bp1]) hrd (zch rfl (zac (m := 2) hu rfl (hd 2 dc))) dc rfl (evL.cons (zac (m := 3) hu rfl (hd 3 dc)) evL.nil) rfl zmp (zcM (bp1 := bp1) (p1 := p1) (p1_h0 := p1_h0) (p1_h1 := p1_h1) hq1) (.ro 0 rfl (.ro 1 rfl (.ro 2 rfl .nil))) ?_
     exact zag 4 hu hi rfl
    ·
     intro D hn hd hcl hu hi
     refine zaf (zch rfl (zac (m := 2) hu rfl (hd 2 dc))) dc (zaL (by rfl) rfl) ?_
     exact zag 5 hu hi rfl
    ·
     intro D hn hd hcl hu hi
     refine zau (zch rfl (zac (m := 2) hu rfl (hd 2 dc))) dc (zac (m := 4) hu rfl (hd 4 dc)) (zac (m := 5) hu rfl (hd 5 dc)) zcS (zdb (show Value.bool (!decide (r1 = source1)) = Value.bool false from congrArg Value.bool hb1) ?_)
     exact zag 6 hu hi rfl
    ·
     intro D hn hd hcl hu hi
     refine zaA (b := false) rfl dc (zac (m := 2) hu rfl (hd 2 dc)) (zac (m := 6) hu rfl (hd 6 dc)) ?_
     exact zag 7 hu hi rfl
    ·
     intro D hn hd hcl hu hi
     refine zaf rfl dc (zac (m := 7) hu rfl (hd 7 dc)) ?_
     exact zag 8 hu hi rfl
    ·
     intro D hn hd hcl hu hi
     refine zaM (k := 1) zef (zch rfl (zac (m := 8) hu rfl (hd 8 dc))) dc (zaL (by rfl) rfl) rfl rfl ?_
     exact zag 9 hu hi rfl
    ·
     intro D hn hd hcl hu hi
     refine zbe (v := .string r2) (vs := [zP bp1]) hrd (zch rfl (zac (m := 8) hu rfl (hd 8 dc))) dc rfl (evL.cons (zac (m := 9) hu rfl (hd 9 dc)) evL.nil) rfl zmo (zcZ (bp1 := bp1) (p1 := p1) (p1_h0 := p1_h0) (p1_h1 := p1_h1) hq2) (.ro 0 rfl (.ro 1 rfl (.ro 2 rfl .nil))) ?_
     exact zag 10 hu hi rfl
    ·
     intro D hn hd hcl hu hi
     refine zan zfS (zch rfl (zac (m := 8) hu rfl (hd 8 dc))) dc (zaL (by rfl) rfl) (show _ = 0 from rfl) ?_
     exact zag 11 hu hi rfl
    ·
     intro D hn hd hcl hu hi
     refine zaM (k := 2) zgN (zch rfl (zac (m := 8) hu rfl (hd 8 dc))) dc (zac (m := 11) hu rfl (hd 11 dc)) rfl rfl ?_
     exact zag 12 hu hi rfl
    ·
     intro D hn hd hcl hu hi
     refine zau (zch rfl (zac (m := 8) hu rfl (hd 8 dc))) dc (zac (m := 10) hu rfl (hd 10 dc)) (zac (m := 12) hu rfl (hd 12 dc)) zcS (zdb (show Value.bool (!decide (r2 = wv1.Title)) = Value.bool false from congrArg Value.bool hb2) ?_)
     exact zag 13 hu hi rfl
    ·
     intro D hn hd hcl hu hi
     refine zaA (b := false) rfl dc (zac (m := 8) hu rfl (hd 8 dc)) (zac (m := 13) hu rfl (hd 13 dc)) ?_
     exact zag 14 hu hi rfl
    ·
     intro D hn hd hcl hu hi
     refine zaf rfl dc (zac (m := 14) hu rfl (hd 14 dc)) ?_
     exact zag 15 hu hi rfl
    ·
     intro D hn hd hcl hu hi
     refine zaM (k := 1) zef (zch rfl (zac (m := 15) hu rfl (hd 15 dc))) dc (zaL (by rfl) rfl) rfl rfl ?_
     exact zag 16 hu hi rfl
    ·
     intro D hn hd hcl hu hi
     refine zbe (v := zI r3) (vs := [zP bp1]) hrd (zch rfl (zac (m := 15) hu rfl (hd 15 dc))) dc rfl (evL.cons (zac (m := 16) hu rfl (hd 16 dc)) evL.nil) rfl zm6 (zdF (bp1 := bp1) (p1 := p1) (p1_h0 := p1_h0) (p1_h1 := p1_h1) hq3) (.ro 0 rfl (.ro 1 rfl (.ro 2 rfl .nil))) ?_
     exact zag 17 hu hi rfl
    ·
     intro D hn hd hcl hu hi
     refine zaM (k := 3) zex (zch rfl (zac (m := 15) hu rfl (hd 15 dc))) dc (zaL (by rfl) rfl) rfl rfl ?_
     exact zag 18 hu hi rfl
    ·
     intro D hn hd hcl hu hi
     refine zbt hwl1 (zch rfl (zac (m := 15) hu rfl (hd 15 dc))) dc (zac (m := 18) hu rfl (hd 18 dc)) Tryd.underlying57 ?_
     exact zag 19 hu hi rfl
    ·
     intro D hn hd hcl hu hi
     refine zau (zch rfl (zac (m := 15) hu rfl (hd 15 dc))) dc (zac (m := 17) hu rfl (hd 17 dc)) (zac (m := 19) hu rfl (hd 19 dc)) zbu (zdb (show Value.bool ((r3 : Int) != (l1.length : Int)) = Value.bool true from congrArg Value.bool hb3) ?_)
     exact zag 20 hu hi rfl
    ·
     intro D hn hd hcl hu hi
     refine zaA (b := false) rfl dc (zac (m := 15) hu rfl (hd 15 dc)) (zac (m := 20) hu rfl (hd 20 dc)) ?_
     exact zag 21 hu hi rfl
    ·
     intro D hn hd hcl hu hi
     refine zaf rfl dc (zac (m := 21) hu rfl (hd 21 dc)) ?_
     exact zag 22 hu hi rfl
    ·
     intro D hn hd hcl hu hi
     refine zal (zcT rfl (zac (m := 22) hu rfl (hd 22 dc))) dc ?_
     exact zag 23 hu hi rfl
    ·
     intro D hn hd hcl hu hi
     refine zal (zcT rfl (zac (m := 22) hu rfl (hd 22 dc))) dc ?_
     exact zag 24 hu hi rfl
    ·
     intro D hn hd hcl hu hi
     refine zal (zcT rfl (zac (m := 22) hu rfl (hd 22 dc))) dc ?_
     exact zag 25 hu hi rfl
    ·
     intro D hn hd hcl hu hi
     refine zal (zcT rfl (zac (m := 22) hu rfl (hd 22 dc))) dc ?_
     exact zag 26 hu hi rfl
    ·
     intro D hn hd hcl hu hi
     refine zal (zcT rfl (zac (m := 22) hu rfl (hd 22 dc))) dc ?_
     exact zag 27 hu hi rfl
    ·
     intro D hn hd hcl hu hi
     refine zal (zcT rfl (zac (m := 22) hu rfl (hd 22 dc))) dc ?_
     exact zag 28 hu hi rfl
    ·
     intro D hn hd hcl hu hi
     refine zaA (b := true) rfl dc (zac (m := 22) hu rfl (hd 22 dc)) rfl ?_
     exact zag 29 hu hi rfl
    ·
     intro D hn hd hcl hu hi
     refine zaf rfl dc (zac (m := 29) hu rfl (hd 29 dc)) ?_
     exact zag 30 hu hi rfl
    ·
     intro D hn hd hcl hu hi
     refine zal (zcT rfl (zac (m := 30) hu rfl (hd 30 dc))) dc ?_
     exact zag 31 hu hi rfl
    ·
     intro D hn hd hcl hu hi
     refine zal (zcT rfl (zac (m := 30) hu rfl (hd 30 dc))) dc ?_
     exact zag 32 hu hi rfl
    ·
     intro D hn hd hcl hu hi
     refine zal (zcT rfl (zac (m := 30) hu rfl (hd 30 dc))) dc ?_
     exact zag 33 hu hi rfl
    refine zal rfl dc (zal rfl dc (zaA (b := true) rfl dc rfl rfl (zaj (zah (zbn rfl (zak (zae ?_)))))))
    refine zbh (k := 4) (l' := [.bool false]) zjl rfl rfl rfl rfl rfl (fun _ _ => rfl) rfl ?_
    refine zaj (zah (zaQ (zas ?_)))
    cases h
    exact zdY (rs := [.cell 8 4]) ([] : List Nat) () (.inl rfl) (zbS (k := 0) rfl) Tryd.results31 (.cons (.cell zkT (k := 4) rfl rfl) .nil) rfl Splits.nil
   ·
    have h := zaU hb3 h
    obtain ⟨r4, hq4, h⟩ := zbN h
    refine zer (b := (r4 : Int) != (wv1.Stanzas.length : Int)) (fun hb4 => ?_) (fun hb4 => ?_)
    ·
     have h := zaT hb4 h
     refine zb0 34 [(0, 27, zP bp1), (1, 28, .bool false), (2, 29, .bool false), (3, 30, zP bp1), (4, 31, .string r1), (5, 32, .string source1), (6, 33, .bool false), (7, 34, .bool false), (8, 35, .bool false), (9, 36, zP bp1), (10, 37, .string r2), (11, 38, zP b2), (12, 39, .string wv1.Title), (13, 40, .bool false), (14, 41, .bool false), (15, 42, .bool false), (16, 43, zP bp1), (17, 44, zI r3), (18, 45, vl1), (19, 46, zI (l1.length : Int)), (20, 47, .bool false), (21, 48, .bool false), (22, 49, .bool false), (23, 50, zP bp1), (24, 51, zI r4), (25, 52, .pointer (some ⟨b2, 1, none⟩)), (26, 53, wv1_h0.v), (27, 54, zI (wv1.Stanzas.length : Int)), (28, 55, .bool true), (29, 56, .bool true), (30, 57, .bool true), (31, 58, undef), (32, 59, undef), (33, 60, undef)] mixed kr kr dc (by rfl) kr kr (zad ?_ (zad ?_ (zad ?_ (zad ?_ (zad ?_ (zad ?_ (zad ?_ (zad ?_ (zad ?_ (zad ?_ (zad ?_ (zad ?_ (zad ?_ (zad ?_ (zad ?_ (zad ?_ (zad ?_ (zad ?_ (zad ?_ (zad ?_ (zad ?_ (zad ?_ (zad ?_ (zad ?_ (zad ?_ (zad ?_ (zad ?_ (zad ?_ (zad ?_ (zad ?_ (zad ?_ (zad ?_ (zad ?_ (zad ?_ DrawPre.nil)))))))))))))))))))))))))))))))))) ?_
     ·
      intro D hn hd hcl hu hi
      refine zaM (k := 1) zef rfl dc (zaL (by rfl) rfl) rfl rfl ?_
      exact zag 0 hu hi rfl
     ·
      intro D hn hd hcl hu hi
      refine zau rfl dc (zac (m := 0) hu rfl (hd 0 dc)) rfl (za8 Tryd.underlying23) ?_
      exact zag 1 hu hi rfl
     ·
      intro D hn hd hcl hu hi
      refine zaf rfl dc (zac (m := 1) hu rfl (hd 1 dc)) ?_
      exact zag 2 hu hi rfl
     ·
      intro D hn hd hcl hu hi
      refine zaM (k := 1) zef (zch rfl (zac (m := 2) hu rfl (hd 2 dc))) dc (zaL (by rfl) rfl) rfl rfl ?_
      exact zag 3 hu hi rfl
     ·
      intro D hn hd hcl hu hi
      refine zbe (v := .string r1) (vs := [zP bp1]) hrd (zch rfl (zac (m := 2) hu rfl (hd 2 dc))) dc rfl (evL.cons (zac (m := 3) hu rfl (hd 3 dc)) evL.nil) rfl zmp (zcM (bp1 := bp1) (p1 := p1) (p1_h0 := p1_h0) (p1_h1 := p1_h1) hq1) (.ro 0 rfl (.ro 1 rfl (.ro 2 rfl .nil))) ?_
      exact zag 4 hu hi rfl
     ·
      intro D hn hd hcl hu hi
      refine zaf (zch rfl (zac (m := 2) hu rfl (hd 2 dc))) dc (zaL (by rfl) rfl) ?_
      exact zag 5 hu hi rfl
     ·
      intro D hn hd hcl hu hi
      refine zau (zch rfl (zac (m := 2) hu rfl (hd 2 dc))) dc (zac (m := 4) hu rfl (hd 4 dc)) (zac (m := 5) hu rfl (hd 5 dc)) zcS (zdb (show Value.bool (!decide (r1 = source1)) = Value.bool false from congrArg Value.bool hb1) ?_)
      exact zag 6 hu hi rfl
     ·
      intro D hn hd hcl hu hi
      refine zaA (b := false) rfl dc (zac (m := 2) hu rfl (hd 2 dc)) (zac (m := 6) hu rfl (hd 6 dc)) ?_
      exact zag 7 hu hi rfl
     ·
      intro D hn hd hcl hu hi
      refine zaf rfl dc (zac (m := 7) hu rfl (hd 7 dc)) ?_
      exact zag 8 hu hi rfl
     ·
      intro D hn hd hcl hu hi
      refine zaM (k := 1) zef (zch rfl (zac (m := 8) hu rfl (hd 8 dc))) dc (zaL (by rfl) rfl) rfl rfl ?_
      exact zag 9 hu hi rfl
     ·
      intro D hn hd hcl hu hi
      refine zbe (v := .string r2) (vs := [zP bp1]) hrd (zch rfl (zac (m := 8) hu rfl (hd 8 dc))) dc rfl (evL.cons (zac (m := 9) hu rfl (hd 9 dc)) evL.nil) rfl zmo (zcZ (bp1 := bp1) (p1 := p1) (p1_h0 := p1_h0) (p1_h1 := p1_h1) hq2) (.ro 0 rfl (.ro 1 rfl (.ro 2 rfl .nil))) ?_
      exact zag 10 hu hi rfl
     ·
      intro D hn hd hcl hu hi
      refine zan zfS (zch rfl (zac (m := 8) hu rfl (hd 8 dc))) dc (zaL (by rfl) rfl) (show _ = 0 from rfl) ?_
      exact zag 11 hu hi rfl
     ·
      intro D hn hd hcl hu hi
      refine zaM (k := 2) zgN (zch rfl (zac (m := 8) hu rfl (hd 8 dc))) dc (zac (m := 11) hu rfl (hd 11 dc)) rfl rfl ?_
      exact zag 12 hu hi rfl
     ·
      intro D hn hd hcl hu hi
      refine zau (zch rfl (zac (m := 8) hu rfl (hd 8 dc))) dc (zac (m := 10) hu rfl (hd 10 dc)) (zac (m := 12) hu rfl (hd 12 dc)) zcS (zdb (show Value.bool (!decide (r2 = wv1.Title)) = Value.bool false from congrArg Value.bool hb2) ?_)
      exact zag 13 hu hi rfl
     ·
      intro D hn hd hcl hu hi
      refine zaA (b := false) rfl dc (zac (m := 8) hu rfl (hd 8 dc)) (zac (m := 13) hu rfl (hd 13 dc)) ?_
      exact zag 14 hu hi rfl
     ·
      intro D hn hd hcl hu hi
      refine zaf rfl dc (zac (m := 14) hu rfl (hd 14 dc)) ?_
      exact zag 15 hu hi rfl
     ·
      intro D hn hd hcl hu hi
      refine zaM (k := 1) zef (zch rfl (zac (m := 15) hu rfl (hd 15 dc))) dc (zaL (by rfl) rfl) rfl rfl ?_
      exact zag 16 hu hi rfl
     ·
      intro D hn hd hcl hu hi
      refine zbe (v := zI r3) (vs := [zP bp1]) hrd (zch rfl (zac (m := 15) hu rfl (hd 15 dc))) dc rfl (evL.cons (zac (m := 16) hu rfl (hd 16 dc)) evL.nil) rfl zm6 (zdF (bp1 := bp1) (p1 := p1) (p1_h0 := p1_h0) (p1_h1 := p1_h1) hq3) (.ro 0 rfl (.ro 1 rfl (.ro 2 rfl .nil))) ?_
      exact zag 17 hu hi rfl
     ·
      intro D hn hd hcl hu hi
      refine zaM (k := 3) zex (zch rfl (zac (m := 15) hu rfl (hd 15 dc))) dc (zaL (by rfl) rfl) rfl rfl ?_
      exact zag 18 hu hi rfl
     ·
      intro D hn hd hcl hu hi
      refine zbt hwl1 (zch rfl (zac (m := 15) hu rfl (hd 15 dc))) dc (zac (m := 18) hu rfl (hd 18 dc)) Tryd.underlying57 ?_
      exact zag 19 hu hi rfl
     ·
      intro D hn hd hcl hu hi
      refine zau (zch rfl (zac (m := 15) hu rfl (hd 15 dc))) dc (zac (m := 17) hu rfl (hd 17 dc)) (zac (m := 19) hu rfl (hd 19 dc)) zbu (zdb (show Value.bool ((r3 : Int) != (l1.length : Int)) = Value.bool false from congrArg Value.bool hb3) ?_)
      exact zag 20 hu hi rfl
     ·
      intro D hn hd hcl hu hi
      refine zaA (b := false) rfl dc (zac (m := 15) hu rfl (hd 15 dc)) (zac (m := 20) hu rfl (hd 20 dc)) ?_
      exact zag 21 hu hi rfl
     ·
      intro D hn hd hcl hu hi
      refine zaf rfl dc (zac (m := 21) hu rfl (hd 21 dc)) ?_
      exact zag 22 hu hi rfl
     ·
      intro D hn hd hcl hu hi
      refine zaM (k := 1) zef (zch rfl (zac (m := 22) hu rfl (hd 22 dc))) dc (zaL (by rfl) rfl) rfl rfl ?_
      exact zag 23 hu hi rfl
     ·
      intro D hn hd hcl hu hi
      refine zbe (v := zI r4) (vs := [zP bp1]) hrd (zch rfl (zac (m := 22) hu rfl (hd 22 dc))) dc rfl (evL.cons (zac (m := 23) hu rfl (hd 23 dc)) evL.nil) rfl znQ (zdQ (bp1 := bp1) (p1 := p1) (p1_h0 := p1_h0) (p1_h1 := p1_h1) hq4) (.ro 0 rfl (.ro 1 rfl (.ro 2 rfl .nil))) ?_
      exact zag 24 hu hi rfl
     ·
      intro D hn hd hcl hu hi
      refine zan zdD (zch rfl (zac (m := 22) hu rfl (hd 22 dc))) dc (zaL (by rfl) rfl) (show _ = 1 from rfl) ?_
      exact zag 25 hu hi rfl
     ·
      intro D hn hd hcl hu hi
      refine zaM (k := 2) ze1 (zch rfl (zac (m := 22) hu rfl (hd 22 dc))) dc (zac (m := 25) hu rfl (hd 25 dc)) rfl rfl ?_
      exact zag 26 hu hi rfl
     ·
      intro D hn hd hcl hu hi
      refine zdm hzwv10 hwwv10 (zch rfl (zac (m := 22) hu rfl (hd 22 dc))) dc (zac (m := 26) hu rfl (hd 26 dc)) Tryd.underlying54 ?_
      exact zag 27 hu hi rfl
     ·
      intro D hn hd hcl hu hi
      refine zau (zch rfl (zac (m := 22) hu rfl (hd 22 dc))) dc (zac (m := 24) hu rfl (hd 24 dc)) (zac (m := 27) hu rfl (hd 27 dc)) zbu (zdb (show Value.bool ((r4 : Int) != (wv1.Stanzas.length : Int)) = Value.bool true from congrArg Value.bool hb4) ?_)
      exact zag 28 hu hi rfl
     ·
      intro D hn hd hcl hu hi
      refine zaA (b := false) rfl dc (zac (m := 22) hu rfl (hd 22 dc)) (zac (m := 28) hu rfl (hd 28 dc)) ?_
      exact zag 29 hu hi rfl
     ·
      intro D hn hd hcl hu hi
      refine zaf rfl dc (zac (m := 29) hu rfl (hd 29 dc)) ?_
      exact zag 30 hu hi rfl
     ·
      intro D hn hd hcl hu hi
      refine zal (zcT rfl (zac (m := 30) hu rfl (hd 30 dc))) dc ?_
      exact zag 31 hu hi rfl
     ·
      intro D hn hd hcl hu hi
      refine zal (zcT rfl (zac (m := 30) hu rfl (hd 30 dc))) dc ?_
      exact zag 32 hu hi rfl
     ·
      intro D hn hd hcl hu hi
      refine zal (zcT rfl (zac (m := 30) hu rfl (hd 30 dc))) dc ?_
      exact zag 33 hu hi rfl
     refine zal rfl dc (zal rfl dc (zaA (b := true) rfl dc rfl rfl (zaj (zah (zbn rfl (zak (zae ?_)))))))
     refine zbh (k := 4) (l' := [.bool false]) zjl rfl rfl rfl rfl rfl (fun _ _ => rfl) rfl ?_
     refine zaj (zah (zaQ (zas ?_)))
     cases h
     exact zdY (rs := [.cell 8 4]) ([] : List Nat) () (.inl rfl) (zbS (k := 0) rfl) Tryd.results31 (.cons (.cell zkT (k := 4) rfl rfl) .nil) rfl Splits.nil
    ·
     have h := zaU hb4 h
     obtain ⟨r5, hq5, h⟩ := zbN h
     obtain ⟨r6, hq6, h⟩ := zbN h
     refine zb0 34 [(0, 27, zP bp1), (1, 28, .bool false), (2, 29, .bool false), (3, 30, zP bp1), (4, 31, .string r1), (5, 32, .string source1), (6, 33, .bool false), (7, 34, .bool false), (8, 35, .bool false), (9, 36, zP bp1), (10, 37, .string r2), (11, 38, zP b2), (12, 39, .string wv1.Title), (13, 40, .bool false), (14, 41, .bool false), (15, 42, .bool false), (16, 43, zP bp1), (17, 44, zI r3), (18, 45, vl1), (19, 46, zI (l1.length : Int)), (20, 47, .bool false), (21, 48, .bool false), (22, 49, .bool false), (23, 50, zP bp1), (24, 51, zI r4), (25, 52, .pointer (some ⟨b2, 1, none⟩)), (26, 53, wv1_h0.v), (27, 54, zI (wv1.Stanzas.length : Int)), (28, 55, .bool false), (29, 56, .bool false), (30, 57, .bool false), (31, 58, zP bp1), (32, 59, .string r5), (33, 60, .agg #[.string wv1.Title, wv1_h0.v])] mixed kr kr dc (by rfl) kr kr (zad ?_ (zad ?_ (zad ?_ (zad ?_ (zad ?_ (zad ?_ (zad ?_ (zad ?_ (zad ?_ (zad ?_ (zad ?_ (zad ?_ (zad ?_ (zad ?_ (zad ?_ (zad ?_ (zad ?_ (zad ?_ (zad ?_ (zad ?_ (zad ?_ (zad ?_ (zad ?_ (zad ?_ (zad ?_ (zad ?_ (zad ?_ (zad ?_ (zad ?_ (zad ?_ (zad ?_ (zad ?_ (zad ?_ (zad ?_ DrawPre.nil)))))))))))))))))))))))))))))))))) ?_
     ·
      intro D hn hd hcl hu hi
      refine zaM (k := 1) zef rfl dc (zaL (by rfl) rfl) rfl rfl ?_
      exact zag 0 hu hi rfl
     ·
      intro D hn hd hcl hu hi
      refine zau rfl dc (zac (m := 0) hu rfl (hd 0 dc)) rfl (za8 Tryd.underlying23) ?_
      exact zag 1 hu hi rfl
     ·
      intro D hn hd hcl hu hi
      refine zaf rfl dc (zac (m := 1) hu rfl (hd 1 dc)) ?_
      exact zag 2 hu hi rfl
     ·
      intro D hn hd hcl hu hi
      refine zaM (k := 1) zef (zch rfl (zac (m := 2) hu rfl (hd 2 dc))) dc (zaL (by rfl) rfl) rfl rfl ?_
      exact zag 3 hu hi rfl
     ·
      intro D hn hd hcl hu hi
      refine zbe (v := .string r1) (vs := [zP bp1]) hrd (zch rfl (zac (m := 2) hu rfl (hd 2 dc))) dc rfl (evL.cons (zac (m := 3) hu rfl (hd 3 dc)) evL.nil) rfl zmp (zcM (bp1 := bp1) (p1 := p1) (p1_h0 := p1_h0) (p1_h1 := p1_h1) hq1) (.ro 0 rfl (.ro 1 rfl (.ro 2 rfl .nil))) ?_
      exact zag 4 hu hi rfl
     ·
      intro D hn hd hcl hu hi
      refine zaf (zch rfl (zac (m := 2) hu rfl (hd 2 dc))) dc (zaL (by rfl) rfl) ?_
      exact zag 5 hu hi rfl
     ·
      intro D hn hd hcl hu hi
      refine zau (zch rfl (zac (m := 2) hu rfl (hd 2 dc))) dc (zac (m := 4) hu rfl (hd 4 dc)) (zac (m := 5) hu rfl (hd 5 dc)) zcS (zdb (show Value.bool (!decide (r1 = source1)) = Value.bool false from congrArg Value.bool hb1) ?_)
      exact zag 6 hu hi rfl
     ·
      intro D hn hd hcl hu hi
      refine zaA (b := false) rfl dc (zac (m := 2) hu rfl (hd 2 dc)) (zac (m := 6) hu rfl (hd 6 dc)) ?_
      exact zag 7 hu hi rfl
     ·
      intro D hn hd hcl hu hi
      refine zaf rfl dc (zac (m := 7) hu rfl (hd 7 dc)) ?_
      exact zag 8 hu hi rfl
     ·
      intro D hn hd hcl hu hi
      refine zaM (k := 1) zef (zch rfl (zac (m := 8) hu rfl (hd 8 dc))) dc (zaL (by rfl) rfl) rfl rfl ?_
      exact zag 9 hu hi rfl
     ·
      intro D hn hd hcl hu hi
      refine zbe (v := .string r2) (vs := [zP bp1]) hrd (zch rfl (zac (m := 8) hu rfl (hd 8 dc))) dc rfl (evL.cons (zac (m := 9) hu rfl (hd 9 dc)) evL.nil) rfl zmo (zcZ (bp1 := bp1) (p1 := p1) (p1_h0 := p1_h0) (p1_h1 := p1_h1) hq2) (.ro 0 rfl (.ro 1 rfl (.ro 2 rfl .nil))) ?_
      exact zag 10 hu hi rfl
     ·
      intro D hn hd hcl hu hi
      refine zan zfS (zch rfl (zac (m := 8) hu rfl (hd 8 dc))) dc (zaL (by rfl) rfl) (show _ = 0 from rfl) ?_
      exact zag 11 hu hi rfl
     ·
      intro D hn hd hcl hu hi
      refine zaM (k := 2) zgN (zch rfl (zac (m := 8) hu rfl (hd 8 dc))) dc (zac (m := 11) hu rfl (hd 11 dc)) rfl rfl ?_
      exact zag 12 hu hi rfl
     ·
      intro D hn hd hcl hu hi
      refine zau (zch rfl (zac (m := 8) hu rfl (hd 8 dc))) dc (zac (m := 10) hu rfl (hd 10 dc)) (zac (m := 12) hu rfl (hd 12 dc)) zcS (zdb (show Value.bool (!decide (r2 = wv1.Title)) = Value.bool false from congrArg Value.bool hb2) ?_)
      exact zag 13 hu hi rfl
     ·
      intro D hn hd hcl hu hi
      refine zaA (b := false) rfl dc (zac (m := 8) hu rfl (hd 8 dc)) (zac (m := 13) hu rfl (hd 13 dc)) ?_
      exact zag 14 hu hi rfl
     ·
      intro D hn hd hcl hu hi
      refine zaf rfl dc (zac (m := 14) hu rfl (hd 14 dc)) ?_
      exact zag 15 hu hi rfl
     ·
      intro D hn hd hcl hu hi
      refine zaM (k := 1) zef (zch rfl (zac (m := 15) hu rfl (hd 15 dc))) dc (zaL (by rfl) rfl) rfl rfl ?_
      exact zag 16 hu hi rfl
     ·
      intro D hn hd hcl hu hi
      refine zbe (v := zI r3) (vs := [zP bp1]) hrd (zch rfl (zac (m := 15) hu rfl (hd 15 dc))) dc rfl (evL.cons (zac (m := 16) hu rfl (hd 16 dc)) evL.nil) rfl zm6 (zdF (bp1 := bp1) (p1 := p1) (p1_h0 := p1_h0) (p1_h1 := p1_h1) hq3) (.ro 0 rfl (.ro 1 rfl (.ro 2 rfl .nil))) ?_
      exact zag 17 hu hi rfl
     ·
      intro D hn hd hcl hu hi
      refine zaM (k := 3) zex (zch rfl (zac (m := 15) hu rfl (hd 15 dc))) dc (zaL (by rfl) rfl) rfl rfl ?_
      exact zag 18 hu hi rfl
     ·
      intro D hn hd hcl hu hi
      refine zbt hwl1 (zch rfl (zac (m := 15) hu rfl (hd 15 dc))) dc (zac (m := 18) hu rfl (hd 18 dc)) Tryd.underlying57 ?_
      exact zag 19 hu hi rfl
     ·
      intro D hn hd hcl hu hi
      refine zau (zch rfl (zac (m := 15) hu rfl (hd 15 dc))) dc (zac (m := 17) hu rfl (hd 17 dc)) (zac (m := 19) hu rfl (hd 19 dc)) zbu (zdb (show Value.bool ((r3 : Int) != (l1.length : Int)) = Value.bool false from congrArg Value.bool hb3) ?_)
      exact zag 20 hu hi rfl
     ·
      intro D hn hd hcl hu hi
      refine zaA (b := false) rfl dc (zac (m := 15) hu rfl (hd 15 dc)) (zac (m := 20) hu rfl (hd 20 dc)) ?_
      exact zag 21 hu hi rfl
     ·
      intro D hn hd hcl hu hi
      refine zaf rfl dc (zac (m := 21) hu rfl (hd 21 dc)) ?_
      exact zag 22 hu hi rfl
     ·
      intro D hn hd hcl hu hi
      refine zaM (k := 1) zef (zch rfl (zac (m := 22) hu rfl (hd 22 dc))) dc (zaL (by rfl) rfl) rfl rfl ?_
      exact zag 23 hu hi rfl
     ·
      intro D hn hd hcl hu hi
      refine zbe (v := zI r4) (vs := [zP bp1]) hrd (zch rfl (zac (m := 22) hu rfl (hd 22 dc))) dc rfl (evL.cons (zac (m := 23) hu rfl (hd 23 dc)) evL.nil) rfl znQ (zdQ (bp1 := bp1) (p1 := p1) (p1_h0 := p1_h0) (p1_h1 := p1_h1) hq4) (.ro 0 rfl (.ro 1 rfl (.ro 2 rfl .nil))) ?_
      exact zag 24 hu hi rfl
     ·
      intro D hn hd hcl hu hi
      refine zan zdD (zch rfl (zac (m := 22) hu rfl (hd 22 dc))) dc (zaL (by rfl) rfl) (show _ = 1 from rfl) ?_
      exact zag 25 hu hi rfl
     ·
      intro D hn hd hcl hu hi
      refine zaM (k := 2) ze1 (zch rfl (zac (m := 22) hu rfl (hd 22 dc))) dc (zac (m := 25) hu rfl (hd 25 dc)) rfl rfl ?_
      exact zag 26 hu hi rfl
     ·
      intro D hn hd hcl hu hi
      refine zdm hzwv10 hwwv10 (zch rfl (zac (m := 22) hu rfl (hd 22 dc))) dc (zac (m := 26) hu rfl (hd 26 dc)) Tryd.underlying54 ?_
      exact zag 27 hu hi rfl
     ·
      intro D hn hd hcl hu hi
      refine zau (zch rfl (zac (m := 22) hu rfl (hd 22 dc))) dc (zac (m := 24) hu rfl (hd 24 dc)) (zac (m := 27) hu rfl (hd 27 dc)) zbu (zdb (show Value.bool ((r4 : Int) != (wv1.Stanzas.length : Int)) = Value.bool false from congrArg Value.bool hb4) ?_)
      exact zag 28 hu hi rfl
     ·
      intro D hn hd hcl hu hi
      refine zaA (b := false) rfl dc (zac (m := 22) hu rfl (hd 22 dc)) (zac (m := 28) hu rfl (hd 28 dc)) ?_
      exact zag 29 hu hi rfl
     ·
      intro D hn hd hcl hu hi
      refine zaf rfl dc (zac (m := 29) hu rfl (hd 29 dc)) ?_
      exact zag 30 hu hi rfl
     ·
      intro D hn hd hcl hu hi
      refine zaM (k := 1) zef (zch rfl (zac (m := 30) hu rfl (hd 30 dc))) dc (zaL (by rfl) rfl) rfl rfl ?_
      exact zag 31 hu hi rfl
     ·
      intro D hn hd hcl hu hi
      refine zbe (v := .string r5) (vs := [zP bp1]) hrd (zch rfl (zac (m := 30) hu rfl (hd 30 dc))) dc rfl (evL.cons (zac (m := 31) hu rfl (hd 31 dc)) evL.nil) rfl zoF (ze3 (bp1 := bp1) (p1 := p1) (p1_h0 := p1_h0) (p1_h1 := p1_h1) hq5) (.ro 0 rfl (.ro 1 rfl (.ro 2 rfl .nil))) ?_
      exact zag 32 hu hi rfl
     ·
      intro D hn hd hcl hu hi
      refine zcj (k := 2) (cs := [.string wv1.Title, wv1_h0.v]) zgO (zch rfl (zac (m := 30) hu rfl (hd 30 dc))) dc (zaL (by rfl) rfl) rfl rfl rfl ?_
      exact zag 33 hu hi rfl
     refine zbe (v := .string r6) (vs := [.agg #[.string wv1.Title, wv1_h0.v]]) hrd rfl dc rfl rfl rfl zm4 (zes (p1_h0 := wv1_h0) (p1 := wv1) hwwv10 hzwv10 hq6) (.ro 3 rfl (.ro 4 rfl .nil)) (zau rfl dc rfl rfl zcS (zaA (b := false) rfl dc rfl rfl (zaj (zah ?_))))
     refine zaI rfl (fun hb5 => ?_) (fun hb5 => ?_)
     ·
      have h := zaT hb5 h
      refine zak (zae ?_)
      refine zbh (k := 4) (l' := [.bool false]) zjl rfl rfl rfl rfl rfl (fun _ _ => rfl) rfl ?_
      refine zaj (zah (zaQ (zas ?_)))
      cases h
      exact zdY (rs := [.cell 8 4]) ([] : List Nat) () (.inl rfl) (zbS (k := 0) rfl) Tryd.results31 (.cons (.cell zkT (k := 4) rfl rfl) .nil) rfl Splits.nil
     ·
      have h := zaU hb5 h
      refine zaK (zah ?_)
      obtain ⟨j1, hj1, h⟩ := zcc h
      refine zbf (β := Int × Nat × (List Nat)) 1 rfl (fun b => j1 b.1 = some r) (fun b => zda b.2.2) (fun b => [(4, zP b1), (6, zP b2), (7, zP b3), (8, zP b4), (9, zP b.2.1)]) (fun b => [cells b1 [zP bp1] 23, cells b2 [.string wv1.Title, wv1_h0.v] 56, cells b3 [vl1] 57, cells b4 [.bool false] 4, cells b.2.1 [zI b.1] 3, zd7 ((b.2.2 : List Nat).map zet)]) (fun cut => ?_) ?_
      ·
       refine zak (zae ?_)
       refine zbv zpO rfl dc (fun b6 => ?_)
       refine zbh (k := 5) (l' := [zI 0]) ziP rfl rfl rfl rfl rfl (fun _ _ => rfl) rfl ?_
       show TO _ _ _ _ _ _ _ _ _ _ [zd7 ((([] : List Nat) : List Nat).map zet), cells b1 [zP bp1] 23, cells b2 [.string wv1.Title, wv1_h0.v] 56, cells b3 [vl1] 57, cells b4 [.bool false] 4, cells b6 [zI 0] 3]
       refine zaj (zah (cut (zak (zae (zaM (k := 1) zef rfl dc rfl rfl rfl ?_)))))
       obtain ⟨r7, hq7, h⟩ := zbN h
       refine zeK (vs := [zP bp1]) hrd rfl dc rfl rfl rfl zoG (zfg (bp1 := bp1) (p1 := p1) (p1_h0 := p1_h0) (p1_h1 := p1_h1) hq7) Splits.nil (.ro 0 rfl (.ro 1 rfl (.ro 2 rfl .nil))) ?_
       rintro b7
       show TO _ _ _ _ _ _ _ _ _ _ [zd7 ((([] : List Nat) : List Nat).map zet), cells b1 [zP bp1] 23, cells b2 [.string wv1.Title, wv1_h0.v] 56, cells b3 [vl1] 57, cells b4 [.bool false] 4, cells b6 [zI 0] 3, cells b7 [zP bp1] 23]
       refine zb3 (L' := [zd7 ((([] : List Nat) : List Nat).map zet), cells b1 [zP bp1] 23, cells b2 [.string wv1.Title, wv1_h0.v] 56, cells b3 [vl1] 57, cells b4 [.bool false] 4, cells b6 [zI 0] 3, cells b7 [zP bp1] 23]) (zam [0, 1, 2, 3, 4, 5, 6] kr rfl) (zaj (zah (zaS ?_)))
       obtain ⟨its1, hq8, h⟩ := zbN h
       obtain ⟨ek1, hek1, h⟩ := zcc h
       obtain ⟨dn1, hdn1, h⟩ := zcc h
       refine zj8 (α := Int × Gapi_Verse) (β := Int) (γ := Int) (δ := Nat) (ps := [66, 67]) hrd Ro.nil rfl zoy (zeF hq8) (fun pre b => ∀ post, its1 = pre ++ post → zeT dn1 (zdH p1 l1 ek1) post b = some r) (fun pre b => [cells b1 [zP bp1] 23, cells b2 [.string wv1.Title, wv1_h0.v] 56, cells b3 [vl1] 57, cells b4 [.bool false] 4, cells b6 [zI b] 3]) (fun c pre g => (fun g => c = .ret ∧ ek1 g = some r) g) (fun c pre g => (fun g => [cells b1 [zP bp1] 23, cells b2 [.string wv1.Title, wv1_h0.v] 56, cells b3 [vl1] 57, cells b4 [.bool false] 4, cells b6 [zI g] 3]) g) (fun pre x b j => [(4, zP b1), (6, zP b2), (7, zP b3), (8, zP b4), (9, zP b6), (65, .func (.func 52) #[] #[zP b7]), (10, zI x.1), (11, zP j)]) (fun pre x b j => [cells b1 [zP bp1] 23, cells b2 [.string wv1.Title, wv1_h0.v] 56, cells b3 [vl1] 57, cells b4 [.bool false] 4, cells b6 [zI b] 3, cells j [.string x.2.Text, zI x.2.Indent, zI x.2.Stanza, zI x.2.In, zI x.2.Span_From, zI x.2.Span_To] 36]) 0 (fun post e => by rw [List.nil_append] at e; subst e; exact h) (zam [1, 2, 3, 4, 5] kr rfl) (.own (As := [cells b7 [zP bp1] 23]) (zam [6] (by kernel_rfl) rfl) (fun _ _ h => sepL.one1.1 h) (.ro 0 rfl (.ro 1 rfl (.ro 2 rfl .nil)))) (fun _ => rfl) dc ?_ ?_ ?_ ?_
       ·
        rintro lp rc pre x1 post i4 w1 K1 hxs1 hext hro hinv
        have hrd := hrd.ext hext
        refine zak (zae (zai rfl dc rfl (zaj (zah (zae ?_)))))
        refine zbv zia rfl dc (fun b8 => ?_)
        refine za4 (k := 5) (vs := [.string x1.2.Text, zI x1.2.Indent, zI x1.2.Stanza, zI x1.2.In, zI x1.2.Span_From, zI x1.2.Span_To]) (l' := [.string x1.2.Text, zI x1.2.Indent, zI x1.2.Stanza, zI x1.2.In, zI x1.2.Span_From, zI x1.2.Span_To]) zfF rfl rfl rfl rfl rfl (show _ ≤ _ by simp) rfl rfl ?_
        show TO _ _ _ _ _ _ _ _ _ _ [cells b1 [zP bp1] 23, cells b2 [.string wv1.Title, wv1_h0.v] 56, cells b3 [vl1] 57, cells b4 [.bool false] 4, cells b6 [zI i4] 3, cells b8 [.string x1.2.Text, zI x1.2.Indent, zI x1.2.Stanza, zI x1.2.In, zI x1.2.Span_From, zI x1.2.Span_To] 36]
        refine zaj ?_
        exact fun a w ha hw => ⟨b8, (zab rfl (zab rfl (zab rfl (zab rfl (zab rfl (zab rfl (zab rfl (zab rfl (zay))))))))) _ _ _ ha, hw.weaken (zam [0, 1, 2, 3, 4, 5] kr rfl)⟩
       ·
        rintro lp rc pre x1 post1 i4 jb1 w1 K1 hxs1 hext hro hinv
        have hrd := hrd.ext hext
        have h := hinv (x1 :: post1) hxs1
        obtain ⟨ag1, hag1⟩ : ∃ ag, ag = zeT dn1 (zdH p1 l1 ek1) post1 := ⟨_, rfl⟩
        have h : zdH p1 l1 ek1 x1 ag1 i4 = some r := by rw [hag1]; exact h
        unfold zdH at h
        show TC _ _ _ _ _ _ _ _ [(4, zP b1), (6, zP b2), (7, zP b3), (8, zP b4), (9, zP b6), (65, .func (.func 52) #[] #[zP b7]), (10, zI x1.1), (11, zP jb1)] [cells b1 [zP bp1] 23, cells b2 [.string wv1.Title, wv1_h0.v] 56, cells b3 [vl1] 57, cells b4 [.bool false] 4, cells b6 [zI i4] 3, cells jb1 [.string x1.2.Text, zI x1.2.Indent, zI x1.2.Stanza, zI x1.2.In, zI x1.2.Span_From, zI x1.2.Span_To] 36]
        refine zaS (zak (zak ?_))
        refine zer (b := decide (((l1.length : Int) : Int) ≤ i4)) (fun hb6 => ?_) (fun hb6 => ?_)
        ·
         have h := zaT hb6 h
         refine zb0 15 [(0, 68, zI i4), (1, 69, vl1), (2, 70, zI (l1.length : Int)), (3, 71, .bool true), (4, 72, .bool true), (5, 73, undef), (6, 74, undef), (7, 75, undef), (8, 76, .bool true), (9, 77, .bool true), (10, 78, undef), (11, 79, undef), (12, 80, undef), (13, 81, undef), (14, 82, undef)] mixed kr kr dc (by rfl) kr kr (zad ?_ (zad ?_ (zad ?_ (zad ?_ (zad ?_ (zad ?_ (zad ?_ (zad ?_ (zad ?_ (zad ?_ (zad ?_ (zad ?_ (zad ?_ (zad ?_ (zad ?_ DrawPre.nil))))))))))))))) ?_
         ·
          intro D hn hd hcl hu hi
          refine zaM (k := 4) zeL rfl dc (zaL (by rfl) rfl) rfl rfl ?_
          exact zag 0 hu hi rfl
         ·
          intro D hn hd hcl hu hi
          refine zaM (k := 2) zex rfl dc (zaL (by rfl) rfl) rfl rfl ?_
          exact zag 1 hu hi rfl
         ·
          intro D hn hd hcl hu hi
          refine zbt hwl1 rfl dc (zac (m := 1) hu rfl (hd 1 dc)) Tryd.underlying57 ?_
          exact zag 2 hu hi rfl
         ·
          intro D hn hd hcl hu hi
          refine zau rfl dc (zac (m := 0) hu rfl (hd 0 dc)) (zac (m := 2) hu rfl (hd 2 dc)) zeo (zdb (show Value.bool (decide (((l1.length : Int) : Int) ≤ i4)) = Value.bool true from congrArg Value.bool hb6) ?_)
          exact zag 3 hu hi rfl
         ·
          intro D hn hd hcl hu hi
          refine zaf rfl dc (zac (m := 3) hu rfl (hd 3 dc)) ?_
          exact zag 4 hu hi rfl
         ·
          intro D hn hd hcl hu hi
          refine zal (zcT rfl (zac (m := 4) hu rfl (hd 4 dc))) dc ?_
          exact zag 5 hu hi rfl
         ·
          intro D hn hd hcl hu hi
          refine zal (zcT rfl (zac (m := 4) hu rfl (hd 4 dc))) dc ?_
          exact zag 6 hu hi rfl
         ·
          intro D hn hd hcl hu hi
          refine zal (zcT rfl (zac (m := 4) hu rfl (hd 4 dc))) dc ?_
          exact zag 7 hu hi rfl
         ·
          intro D hn hd hcl hu hi
          refine zaA (b := true) rfl dc (zac (m := 4) hu rfl (hd 4 dc)) rfl ?_
          exact zag 8 hu hi rfl
         ·
          intro D hn hd hcl hu hi
          refine zaf rfl dc (zac (m := 8) hu rfl (hd 8 dc)) ?_
          exact zag 9 hu hi rfl
         ·
          intro D hn hd hcl hu hi
          refine zal (zcT rfl (zac (m := 9) hu rfl (hd 9 dc))) dc ?_
          exact zag 10 hu hi rfl
         ·
          intro D hn hd hcl hu hi
          refine zal (zcT rfl (zac (m := 9) hu rfl (hd 9 dc))) dc ?_
          exact zag 11 hu hi rfl
         ·
          intro D hn hd hcl hu hi
          refine zal (zcT rfl (zac (m := 9) hu rfl (hd 9 dc))) dc ?_
          exact zag 12 hu hi rfl
         ·
          intro D hn hd hcl hu hi
          refine zal (zcT rfl (zac (m := 9) hu rfl (hd 9 dc))) dc ?_
          exact zag 13 hu hi rfl
         ·
          intro D hn hd hcl hu hi
          refine zal (zcT rfl (zac (m := 9) hu rfl (hd 9 dc))) dc ?_
          exact zag 14 hu hi rfl
         refine zal rfl dc (zaA (b := true) rfl dc rfl rfl (zaj (zah (zbn rfl (zak (zae ?_))))))
         refine zbh (k := 3) (l' := [.bool false]) zjl rfl rfl rfl rfl rfl (fun _ _ => rfl) rfl ?_
         refine zaj (zah (zaQ (zas (zaw ?_))))
         exact zeY i4 (show _ ∧ _ from ⟨rfl, h⟩) (zam [0, 1, 2, 3, 4] kr rfl)
        ·
         have h := zaU hb6 h
         refine zer (b := (x1.1 : Int) != i4) (fun hb7 => ?_) (fun hb7 => ?_)
         ·
          have h := zaT hb7 h
          refine zb0 15 [(0, 68, zI i4), (1, 69, vl1), (2, 70, zI (l1.length : Int)), (3, 71, .bool false), (4, 72, .bool false), (5, 73, zI x1.1), (6, 74, zI i4), (7, 75, .bool true), (8, 76, .bool true), (9, 77, .bool true), (10, 78, undef), (11, 79, undef), (12, 80, undef), (13, 81, undef), (14, 82, undef)] mixed kr kr dc (by rfl) kr kr (zad ?_ (zad ?_ (zad ?_ (zad ?_ (zad ?_ (zad ?_ (zad ?_ (zad ?_ (zad ?_ (zad ?_ (zad ?_ (zad ?_ (zad ?_ (zad ?_ (zad ?_ DrawPre.nil))))))))))))))) ?_
          ·
           intro D hn hd hcl hu hi
           refine zaM (k := 4) zeL rfl dc (zaL (by rfl) rfl) rfl rfl ?_
           exact zag 0 hu hi rfl
          ·
           intro D hn hd hcl hu hi
           refine zaM (k := 2) zex rfl dc (zaL (by rfl) rfl) rfl rfl ?_
           exact zag 1 hu hi rfl
          ·
           intro D hn hd hcl hu hi
           refine zbt hwl1 rfl dc (zac (m := 1) hu rfl (hd 1 dc)) Tryd.underlying57 ?_
           exact zag 2 hu hi rfl
          ·
           intro D hn hd hcl hu hi
           refine zau rfl dc (zac (m := 0) hu rfl (hd 0 dc)) (zac (m := 2) hu rfl (hd 2 dc)) zeo (zdb (show Value.bool (decide (((l1.length : Int) : Int) ≤ i4)) = Value.bool false from congrArg Value.bool hb6) ?_)
           exact zag 3 hu hi rfl
          ·
           intro D hn hd hcl hu hi
           refine zaf rfl dc (zac (m := 3) hu rfl (hd 3 dc)) ?_
           exact zag 4 hu hi rfl
          ·
           intro D hn hd hcl hu hi
           refine zaf (zch rfl (zac (m := 4) hu rfl (hd 4 dc))) dc (zaL (by rfl) rfl) ?_
           exact zag 5 hu hi rfl
          ·
           intro D hn hd hcl hu hi
           refine zaM (k := 4) zeL (zch rfl (zac (m := 4) hu rfl (hd 4 dc))) dc (zaL (by rfl) rfl) rfl rfl ?_
           exact zag 6 hu hi rfl
          ·
           intro D hn hd hcl hu hi
           refine zau (zch rfl (zac (m := 4) hu rfl (hd 4 dc))) dc (zac (m := 5) hu rfl (hd 5 dc)) (zac (m := 6) hu rfl (hd 6 dc)) zbu (zdb (show Value.bool ((x1.1 : Int) != i4) = Value.bool true from congrArg Value.bool hb7) ?_)
           exact zag 7 hu hi rfl
          ·
           intro D hn hd hcl hu hi
           refine zaA (b := false) rfl dc (zac (m := 4) hu rfl (hd 4 dc)) (zac (m := 7) hu rfl (hd 7 dc)) ?_
           exact zag 8 hu hi rfl
          ·
           intro D hn hd hcl hu hi
           refine zaf rfl dc (zac (m := 8) hu rfl (hd 8 dc)) ?_
           exact zag 9 hu hi rfl
          ·
           intro D hn hd hcl hu hi
           refine zal (zcT rfl (zac (m := 9) hu rfl (hd 9 dc))) dc ?_
           exact zag 10 hu hi rfl
          ·
           intro D hn hd hcl hu hi
           refine zal (zcT rfl (zac (m := 9) hu rfl (hd 9 dc))) dc ?_
           exact zag 11 hu hi rfl
          ·
           intro D hn hd hcl hu hi
           refine zal (zcT rfl (zac (m := 9) hu rfl (hd 9 dc))) dc ?_
           exact zag 12 hu hi rfl
          ·
           intro D hn hd hcl hu hi
           refine zal (zcT rfl (zac (m := 9) hu rfl (hd 9 dc))) dc ?_
           exact zag 13 hu hi rfl
          ·
           intro D hn hd hcl hu hi
           refine zal (zcT rfl (zac (m := 9) hu rfl (hd 9 dc))) dc ?_
           exact zag 14 hu hi rfl
          refine zal rfl dc (zaA (b := true) rfl dc rfl rfl (zaj (zah (zbn rfl (zak (zae ?_))))))
          refine zbh (k := 3) (l' := [.bool false]) zjl rfl rfl rfl rfl rfl (fun _ _ => rfl) rfl ?_
          refine zaj (zah (zaQ (zas (zaw ?_))))
          exact zeY i4 (show _ ∧ _ from ⟨rfl, h⟩) (zam [0, 1, 2, 3, 4] kr rfl)
         ·
          have h := zaU hb7 h
          obtain ⟨q1, hq9, h⟩ := zbN h
          refine zb0 15 [(0, 68, zI i4), (1, 69, vl1), (2, 70, zI (l1.length : Int)), (3, 71, .bool false), (4, 72, .bool false), (5, 73, zI x1.1), (6, 74, zI i4), (7, 75, .bool false), (8, 76, .bool false), (9, 77, .bool false), (10, 78, .agg #[.string x1.2.Text, zI x1.2.Indent, zI x1.2.Stanza, zI x1.2.In, zI x1.2.Span_From, zI x1.2.Span_To]), (11, 79, vl1), (12, 80, zI i4), (13, 81, .pointer (some ⟨zeD vvl1, (kl1 + (i4 : Int).toNat) * 6, none⟩)), (14, 82, .agg #[.string q1.Text, zI q1.Indent, zI q1.Stanza, zI q1.In, zI q1.Span_From, zI q1.Span_To])] mixed kr kr dc (by rfl) kr kr (zad ?_ (zad ?_ (zad ?_ (zad ?_ (zad ?_ (zad ?_ (zad ?_ (zad ?_ (zad ?_ (zad ?_ (zad ?_ (zad ?_ (zad ?_ (zad ?_ (zad ?_ DrawPre.nil))))))))))))))) ?_
          ·
           intro D hn hd hcl hu hi
           refine zaM (k := 4) zeL rfl dc (zaL (by rfl) rfl) rfl rfl ?_
           exact zag 0 hu hi rfl
          ·
           intro D hn hd hcl hu hi
           refine zaM (k := 2) zex rfl dc (zaL (by rfl) rfl) rfl rfl ?_
           exact zag 1 hu hi rfl
          ·
           intro D hn hd hcl hu hi
           refine zbt hwl1 rfl dc (zac (m := 1) hu rfl (hd 1 dc)) Tryd.underlying57 ?_
           exact zag 2 hu hi rfl
          ·
           intro D hn hd hcl hu hi
           refine zau rfl dc (zac (m := 0) hu rfl (hd 0 dc)) (zac (m := 2) hu rfl (hd 2 dc)) zeo (zdb (show Value.bool (decide (((l1.length : Int) : Int) ≤ i4)) = Value.bool false from congrArg Value.bool hb6) ?_)
           exact zag 3 hu hi rfl
          ·
           intro D hn hd hcl hu hi
           refine zaf rfl dc (zac (m := 3) hu rfl (hd 3 dc)) ?_
           exact zag 4 hu hi rfl
          ·
           intro D hn hd hcl hu hi
           refine zaf (zch rfl (zac (m := 4) hu rfl (hd 4 dc))) dc (zaL (by rfl) rfl) ?_
           exact zag 5 hu hi rfl
          ·
           intro D hn hd hcl hu hi
           refine zaM (k := 4) zeL (zch rfl (zac (m := 4) hu rfl (hd 4 dc))) dc (zaL (by rfl) rfl) rfl rfl ?_
           exact zag 6 hu hi rfl
          ·
           intro D hn hd hcl hu hi
           refine zau (zch rfl (zac (m := 4) hu rfl (hd 4 dc))) dc (zac (m := 5) hu rfl (hd 5 dc)) (zac (m := 6) hu rfl (hd 6 dc)) zbu (zdb (show Value.bool ((x1.1 : Int) != i4) = Value.bool false from congrArg Value.bool hb7) ?_)
           exact zag 7 hu hi rfl
          ·
           intro D hn hd hcl hu hi
           refine zaA (b := false) rfl dc (zac (m := 4) hu rfl (hd 4 dc)) (zac (m := 7) hu rfl (hd 7 dc)) ?_
           exact zag 8 hu hi rfl
          ·
           intro D hn hd hcl hu hi
           refine zaf rfl dc (zac (m := 8) hu rfl (hd 8 dc)) ?_
           exact zag 9 hu hi rfl
          ·
           intro D hn hd hcl hu hi
           refine zcj (k := 5) (cs := [.string x1.2.Text, zI x1.2.Indent, zI x1.2.Stanza, zI x1.2.In, zI x1.2.Span_From, zI x1.2.Span_To]) zgd (zch rfl (zac (m := 9) hu rfl (hd 9 dc))) dc (zaL (by rfl) rfl) rfl rfl rfl ?_
           exact zag 10 hu hi rfl
          ·
           intro D hn hd hcl hu hi
           refine zaM (k := 2) zex (zch rfl (zac (m := 9) hu rfl (hd 9 dc))) dc (zaL (by rfl) rfl) rfl rfl ?_
           exact zag 11 hu hi rfl
          ·
           intro D hn hd hcl hu hi
           refine zaM (k := 4) zeL (zch rfl (zac (m := 9) hu rfl (hd 9 dc))) dc (zaL (by rfl) rfl) rfl rfl ?_
           exact zag 12 hu hi rfl
          ·
           intro D hn hd hcl hu hi
           refine zbd hwl1 hq9 Tryd.underlying57 zfF (zch rfl (zac (m := 9) hu rfl (hd 9 dc))) dc (zac (m := 11) hu rfl (hd 11 dc)) (zac (m := 12) hu rfl (hd 12 dc)) rfl ?_
           exact zag 13 hu hi rfl
          ·
           intro D hn hd hcl hu hi
           refine zjh (m := kl1 + (i4 : Int).toNat) (j := 0) (i := 5) (q := q1) (cs := [.string q1.Text, zI q1.Indent, zI q1.Stanza, zI q1.In, zI q1.Span_From, zI q1.Span_To]) hrd rfl (by omega) zgd (zch rfl (zac (m := 9) hu rfl (hd 9 dc))) dc (zac (m := 13) hu rfl (hd 13 dc)) (Vw.get hwl1 hq9) rfl rfl rfl ?_
           exact zag 14 hu hi rfl
          refine zau rfl dc rfl rfl (zgZ x1.2 q1) (zaA (b := false) rfl dc rfl rfl (zaj (zah ?_)))
          refine zaI rfl (fun hb8 => ?_) (fun hb8 => ?_)
          ·
           have h := zaT hb8 h
           refine zak (zae ?_)
           refine zbh (k := 3) (l' := [.bool false]) zjl rfl rfl rfl rfl rfl (fun _ _ => rfl) rfl ?_
           refine zaj (zah (zaQ (zas (zaw ?_))))
           exact zeY i4 (show _ ∧ _ from ⟨rfl, h⟩) (zam [0, 1, 2, 3, 4] kr rfl)
          ·
           have h := zaU hb8 h
           refine zaK (zah (zak (zae (zaM (k := 0) zef rfl dc rfl rfl rfl (zaM (k := 4) zeL rfl dc rfl rfl rfl ?_)))))
           obtain ⟨r8, hq10, h⟩ := zbN h
           refine zbe (v := .tuple #[.agg #[.string r8.1.Text, zI r8.1.Indent, zI r8.1.Stanza, zI r8.1.In, zI r8.1.Span_From, zI r8.1.Span_To], zI r8.2]) (vs := [zP bp1, zI i4]) hrd rfl dc rfl rfl rfl zoD (zff (bp1 := bp1) (p1 := p1) (p1_h0 := p1_h0) (p1_h1 := p1_h1) hq10) (.ro 0 rfl (.ro 1 rfl (.ro 2 rfl .nil))) (zaf rfl dc rfl (zaZ rfl dc rfl rfl (zaZ rfl dc rfl rfl ?_)))
           refine zbv zia rfl dc (fun b9 => ?_)
           refine za4 (k := 6) (vs := [.string r8.1.Text, zI r8.1.Indent, zI r8.1.Stanza, zI r8.1.In, zI r8.1.Span_From, zI r8.1.Span_To]) (l' := [.string r8.1.Text, zI r8.1.Indent, zI r8.1.Stanza, zI r8.1.In, zI r8.1.Span_From, zI r8.1.Span_To]) zfF rfl rfl rfl rfl rfl (show _ ≤ _ by simp) rfl rfl ?_
           show TO _ _ _ _ _ _ _ _ _ _ [cells b1 [zP bp1] 23, cells b2 [.string wv1.Title, wv1_h0.v] 56, cells b3 [vl1] 57, cells b4 [.bool false] 4, cells b6 [zI i4] 3, cells jb1 [.string x1.2.Text, zI x1.2.Indent, zI x1.2.Stanza, zI x1.2.In, zI x1.2.Span_From, zI x1.2.Span_To] 36, cells b9 [.string r8.1.Text, zI r8.1.Indent, zI r8.1.Stanza, zI r8.1.In, zI r8.1.Span_From, zI r8.1.Span_To] 36]
           refine zai rfl dc rfl (zaj (zah (zak (zak (zae (zaf rfl dc rfl (zau rfl dc rfl rfl zbu (zaf rfl dc rfl ?_))))))))
           refine za3 (s := 93) rfl (fun hb9 => ?_) (fun hb9 => ?_)
           ·
            have h := zaT hb9 h
            refine zal rfl dc (zal rfl dc (zal rfl dc (zaA (b := true) rfl dc rfl rfl (zaj (zah (zbn rfl (zak (zae ?_))))))))
            refine zbh (k := 3) (l' := [.bool false]) zjl rfl rfl rfl rfl rfl (fun _ _ => rfl) rfl ?_
            refine zaj (zah (zaQ (zas (zaw ?_))))
            exact zeY i4 (show _ ∧ _ from ⟨rfl, h⟩) (zam [0, 1, 2, 3, 4] kr rfl)
           ·
            have h := zaU hb9 h
            refine zcj (k := 6) (cs := [.string r8.1.Text, zI r8.1.Indent, zI r8.1.Stanza, zI r8.1.In, zI r8.1.Span_From, zI r8.1.Span_To]) zgd rfl dc rfl rfl rfl rfl (zcj (k := 5) (cs := [.string x1.2.Text, zI x1.2.Indent, zI x1.2.Stanza, zI x1.2.In, zI x1.2.Span_From, zI x1.2.Span_To]) zgd rfl dc rfl rfl rfl rfl (zau rfl dc rfl rfl (zgZ r8.1 x1.2) (zaA (b := false) rfl dc rfl rfl (zaj (zah ?_)))))
            refine zaI rfl (fun hb10 => ?_) (fun hb10 => ?_)
            ·
             have h := zaT hb10 h
             refine zak (zae ?_)
             refine zbh (k := 3) (l' := [.bool false]) zjl rfl rfl rfl rfl rfl (fun _ _ => rfl) rfl ?_
             refine zaj (zah (zaQ (zas (zaw ?_))))
             exact zeY i4 (show _ ∧ _ from ⟨rfl, h⟩) (zam [0, 1, 2, 3, 4] kr rfl)
            ·
             have h := zaU hb10 h
             refine zaK (zah (zae (zaM (k := 4) zeL rfl dc rfl rfl rfl ?_)))
             obtain ⟨hg1, h⟩ := zbW h
             refine zau rfl dc rfl rfl (za5 (r := i4 + 1) (IntWalk.i64_in _ hg1)) ?_
             refine zbh (k := 4) (l' := [zI (i4 + 1)]) ziP rfl rfl rfl rfl rfl (fun _ _ => rfl) rfl ?_
             refine zaj (zav ?_)
             exact zhs (i4 + 1) (fun post2 e2 => by have e9 := zgo hxs1 e2; subst e9; subst hag1; exact h) (zam [0, 1, 2, 3, 4] kr rfl)
       ·
        rintro dm1 i4 hinv
        have h : dn1 i4 = some r := hinv [] (List.append_nil _).symm
        rw [hdn1] at h
        show TX _ _ _ _ _ _ _ [zd7 ((([] : List Nat) : List Nat).map zet), emp, emp, emp, emp, emp, cells b7 [zP bp1] 23, cells b1 [zP bp1] 23, cells b2 [.string wv1.Title, wv1_h0.v] 56, cells b3 [vl1] 57, cells b4 [.bool false] 4, cells b6 [zI i4] 3, zet dm1]
        refine zh0 (k := 12) (j := 0) rfl rfl dc ?_
        show TX _ _ _ _ _ _ _ [zd7 ((dm1 :: ([] : List Nat) : List Nat).map zet), emp, emp, emp, emp, emp, cells b7 [zP bp1] 23, cells b1 [zP bp1] 23, cells b2 [.string wv1.Title, wv1_h0.v] 56, cells b3 [vl1] 57, cells b4 [.bool false] 4, cells b6 [zI i4] 3, emp]
        refine zav ?_
        exact zaJ (i4, b6, dm1 :: ([] : List Nat)) h rfl (zab rfl (zab rfl (zab rfl (zab rfl (zab rfl (zay)))))) (zam [7, 8, 9, 10, 11, 0] kr rfl)
       ·
        rintro dm1 c pre x1 post g hxs hX
        obtain ⟨rfl, h⟩ := (show _ ∧ _ from hX)
        generalize g = i5 at *
        rw [hek1] at h
        show TC _ _ _ _ _ _ _ _ _ [zd7 ((([] : List Nat) : List Nat).map zet), emp, emp, emp, emp, emp, cells b7 [zP bp1] 23, cells b1 [zP bp1] 23, cells b2 [.string wv1.Title, wv1_h0.v] 56, cells b3 [vl1] 57, cells b4 [.bool false] 4, cells b6 [zI i5] 3, zet dm1]
        refine zkG (k := 12) (j := 0) rfl rfl dc ?_
        show TC _ _ _ _ _ _ _ _ _ [zd7 ((dm1 :: ([] : List Nat) : List Nat).map zet), emp, emp, emp, emp, emp, cells b7 [zP bp1] 23, cells b1 [zP bp1] 23, cells b2 [.string wv1.Title, wv1_h0.v] 56, cells b3 [vl1] 57, cells b4 [.bool false] 4, cells b6 [zI i5] 3, emp]
        refine zaQ (zaw (zas ?_))
        cases h
        exact zdY (rs := [.cell 8 4]) (dm1 :: ([] : List Nat)) () (.inl rfl) (zbS (k := 0) rfl) Tryd.results31 (.cons (.cell zkT (k := 10) rfl rfl) .nil) rfl Splits.nil
      ·
       rintro ⟨i1, b5, ds1⟩ h
       rw [hj1] at h
       show TC _ _ _ _ _ (zda ds1) _ _ [(4, zP b1), (6, zP b2), (7, zP b3), (8, zP b4), (9, zP b5)] [cells b1 [zP bp1] 23, cells b2 [.string wv1.Title, wv1_h0.v] 56, cells b3 [vl1] 57, cells b4 [.bool false] 4, cells b5 [zI i1] 3, zd7 ((ds1 : List Nat).map zet)]
       obtain ⟨j2, hj2, h⟩ := zcc h
       refine zbf (β := Unit) 1 rfl (fun b => j2 = some r) (fun b => zda ds1) (fun b => [(4, zP b1), (6, zP b2), (7, zP b3), (8, zP b4), (9, zP b5)]) (fun b => [cells b1 [zP bp1] 23, cells b2 [.string wv1.Title, wv1_h0.v] 56, cells b3 [vl1] 57, cells b4 [.bool false] 4, cells b5 [zI i1] 3, zd7 ((ds1 : List Nat).map zet)]) (fun cut => ?_) ?_
       ·
        refine zak (zae (zai rfl dc rfl (zaj (zah (cut (zak (zae (zan zdD rfl dc rfl (show _ = 1 from rfl) (zaM (k := 1) ze1 rfl dc rfl rfl rfl (zdm hzwv10 hwwv10 rfl dc rfl Tryd.underlying54 (zaf rfl dc rfl (zaj (zah ?_)))))))))))))
        refine zaS ?_
        refine zbx (β := Nat × Int × Int) (fun b => za2 (fun _ _ => none) (zdz p1 wv1 j2) b.1 b.2.1 b.2.2 = some r) (fun b => zda ds1) (fun b => [(4, zP b1), (6, zP b2), (7, zP b3), (8, zP b4), (9, zP b5), (14, zI b.2.1), (101, wv1_h0.v), (102, zI (wv1.Stanzas.length : Int)), (103, zI b.2.2)]) (fun b => [cells b1 [zP bp1] 23, cells b2 [.string wv1.Title, wv1_h0.v] 56, cells b3 [vl1] 57, cells b4 [.bool false] 4, cells b5 [zI i1] 3, zd7 ((ds1 : List Nat).map zet)]) (fun b => b.1) (zbG, 0, 0) h rfl (zab rfl (zab rfl (zab rfl (zab rfl (zab rfl (zab rfl (zab rfl (zab rfl (zab rfl (zay)))))))))) (zam [0, 1, 2, 3, 4, 5] kr rfl) ?_
        rintro ⟨n1, from3, x4⟩ h
        cases n1 with
        | zero => exact zdy h
        | succ n1 =>
         obtain ⟨ag2, hag2⟩ : ∃ ag, ag = za2 (fun _ _ => none) (zdz p1 wv1 j2) n1 := ⟨_, rfl⟩
         have h : zdz p1 wv1 j2 ag2 from3 x4 = some r := by rw [hag2]; exact h
         unfold zdz at h
         show TC _ _ _ _ _ (zda ds1) _ _ [(4, zP b1), (6, zP b2), (7, zP b3), (8, zP b4), (9, zP b5), (14, zI from3), (101, wv1_h0.v), (102, zI (wv1.Stanzas.length : Int)), (103, zI x4)] [cells b1 [zP bp1] 23, cells b2 [.string wv1.Title, wv1_h0.v] 56, cells b3 [vl1] 57, cells b4 [.bool false] 4, cells b5 [zI i1] 3, zd7 ((ds1 : List Nat).map zet)]
         refine zak (zae (zau rfl dc rfl rfl zbA (zaj (zah (zak ?_)))))
         refine zaI rfl (fun hb11 => ?_) (fun hb11 => ?_)
         ·
          have h := zaT hb11 h
          refine zaK (zah (zak (zaS (zak (zae (zaf rfl dc rfl ?_))))))
          obtain ⟨x5, hq11, h⟩ := zbN h
          obtain ⟨eh1, eq1⟩ := zd3 hzwv10 hq11
          have hrd : Rd _ _ [cells bp1 [.string p1.told_title, p1_h0.v, p1_h1.v, .string p1.source] 93, vec zar 36 6 p1_h0.v p1.told_lines, vec zaq 34 2 p1_h1.v p1.told_stanzas, roRow encN_T_string 1 vvwv10 kwv10 Zwv10, rdOwn nestR_T_string Zwv10, roRow zar 6 vvl1 kl1 Ll1, zfp encS 1 eh1 x5] := hrd.openEl (i := 4) (z := (x5, eh1)) rfl (Vw.get hwwv10 eq1)
          obtain ⟨vv1, k1, L1, hV1, hrd⟩ := hrd.openSl (i := 6) rfl
          replace hrd : Rd _ _ [cells bp1 [.string p1.told_title, p1_h0.v, p1_h1.v, .string p1.source] 93, vec zar 36 6 p1_h0.v p1.told_lines, vec zaq 34 2 p1_h1.v p1.told_stanzas, roRow encN_T_string 1 vvwv10 kwv10 Zwv10, rdOwn nestR_T_string Zwv10, roRow zar 6 vvl1 kl1 Ll1, zfp encS 1 eh1 x5, roRow encS 1 vv1 k1 L1] := hrd
          refine zbd hwwv10 eq1 Tryd.underlying54 zez rfl dc rfl rfl rfl (zbm (n := kwv10 + (x4 : Int).toNat) (j := 0) (i := 3) (q := (x5, eh1)) hrd rfl (by omega) ze8 rfl dc rfl (Vw.get hwwv10 eq1) rfl rfl (zai rfl dc rfl (zai rfl dc rfl (zaj (zah (zak (zae (zaM (k := 0) zef rfl dc rfl rfl rfl (zaf rfl dc rfl ?_)))))))))
          obtain ⟨r9, hq12, h⟩ := zbN h
          refine zbe (v := .tuple #[.agg #[zI r9.1.From, zI r9.1.To], zI r9.2]) (vs := [zP bp1, zI x4]) hrd rfl dc rfl rfl rfl zoA (zeU (bp1 := bp1) (p1 := p1) (p1_h0 := p1_h0) (p1_h1 := p1_h1) hq12) (.ro 0 rfl (.ro 1 rfl (.ro 2 rfl .nil))) (zaf rfl dc rfl (zaZ rfl dc rfl rfl (zaZ rfl dc rfl rfl ?_)))
          refine zbv zkb rfl dc (fun b10 => ?_)
          refine za4 (k := 6) (vs := [zI r9.1.From, zI r9.1.To]) (l' := [zI r9.1.From, zI r9.1.To]) zf4 rfl rfl rfl rfl rfl (show _ ≤ _ by simp) rfl rfl ?_
          show TO _ _ _ _ _ _ _ _ _ _ [cells b1 [zP bp1] 23, cells b2 [.string wv1.Title, wv1_h0.v] 56, cells b3 [vl1] 57, cells b4 [.bool false] 4, cells b5 [zI i1] 3, zd7 ((ds1 : List Nat).map zet), cells b10 [zI r9.1.From, zI r9.1.To] 34]
          refine zai rfl dc rfl (zaj (zah (zak (zak (zae (zaf rfl dc rfl (zau rfl dc rfl rfl zbu (zaf rfl dc rfl ?_))))))))
          refine za3 (s := 116) rfl (fun hb12 => ?_) (fun hb12 => ?_)
          ·
           have h := zaT hb12 h
           refine zal rfl dc (zal rfl dc (zal rfl dc (zal rfl dc (zal rfl dc (zal rfl dc (zal rfl dc (zal rfl dc (zaA (b := true) rfl dc rfl rfl (zaj (zah (zbn rfl (zak (zae ?_)))))))))))))
           refine zbh (k := 3) (l' := [.bool false]) zjl rfl rfl rfl rfl rfl (fun _ _ => rfl) rfl ?_
           refine zaj (zah (zaQ (zas (zaw (zas (zas (zaw (zas ?_))))))))
           cases h
           exact zdY (rs := [.cell 8 4]) ds1 () (.inl rfl) (zbS (k := 5) rfl) Tryd.results31 (.cons (.cell zkT (k := 3) rfl rfl) .nil) rfl Splits.nil
          ·
           have h := zaU hb12 h
           refine zcj (k := 6) (cs := [zI r9.1.From, zI r9.1.To]) zgP rfl dc rfl rfl rfl rfl (zaf rfl dc rfl (zaf rfl dc rfl (zaf rfl dc rfl (zbt hV1 rfl dc rfl Tryd.underlying48 ?_))))
           obtain ⟨hg2, h⟩ := zbW h
           refine zau rfl dc rfl rfl (za5 (r := from3 + (x5.length : Int)) (IntWalk.i64_in _ hg2)) ?_
           refine zbi (v := .agg #[zI from3, zI (from3 + (x5.length : Int))]) (ps := [(0, .tmp 118), (1, .tmp 122)]) rfl dc rfl (fun _ => by kernel_rfl) ?_
           refine zau rfl dc rfl rfl (ziF r9.1 (⟨from3, from3 + (x5.length : Int)⟩ : Gapi_Span)) (zaA (b := false) rfl dc rfl rfl (zaj (zah ?_)))
           refine zaI rfl (fun hb13 => ?_) (fun hb13 => ?_)
           ·
            have h := zaT hb13 h
            refine zak (zae ?_)
            refine zbh (k := 3) (l' := [.bool false]) zjl rfl rfl rfl rfl rfl (fun _ _ => rfl) rfl ?_
            refine zaj (zah (zaQ (zas (zaw (zas (zas (zaw (zas ?_))))))))
            cases h
            exact zdY (rs := [.cell 8 4]) ds1 () (.inl rfl) (zbS (k := 5) rfl) Tryd.results31 (.cons (.cell zkT (k := 3) rfl rfl) .nil) rfl Splits.nil
           ·
            have h := zaU hb13 h
            refine zaK (zah (zae (zaf rfl dc rfl (zaf rfl dc rfl (zbt hV1 rfl dc rfl Tryd.underlying48 ?_)))))
            obtain ⟨hg3, h⟩ := zbW h
            refine zau rfl dc rfl rfl (za5 (r := from3 + (x5.length : Int)) (IntWalk.i64_in _ hg3)) (zai rfl dc rfl (zaj (zav (zah (zae ?_)))))
            obtain ⟨hg4, h⟩ := zbW h
            refine zau rfl dc rfl rfl (za5 (r := x4 + 1) (IntWalk.i64_in _ hg4)) (zaf rfl dc rfl (zaj ?_))
            subst hag2
            exact za6 (n1, from3 + (x5.length : Int), x4 + 1) h (Nat.lt_succ_self _) rfl (zab rfl (zab rfl (zab rfl (zab rfl (zab rfl (zab rfl (zab rfl (zab rfl (zab rfl (zay)))))))))) (zam [0, 1, 2, 3, 4, 5] kr rfl)
         ·
          have h := zaU hb11 h
          refine zbl (zaC (zaC (zaN ?_)))
          exact zaJ () h rfl (zab rfl (zab rfl (zab rfl (zab rfl (zab rfl (zay)))))) (zam [0, 1, 2, 3, 4, 5] kr rfl)
       ·
        rintro _ h
        rw [hj2] at h
        show TC _ _ _ _ _ (zda ds1) _ _ [(4, zP b1), (6, zP b2), (7, zP b3), (8, zP b4), (9, zP b5)] [cells b1 [zP bp1] 23, cells b2 [.string wv1.Title, wv1_h0.v] 56, cells b3 [vl1] 57, cells b4 [.bool false] 4, cells b5 [zI i1] 3, zd7 ((ds1 : List Nat).map zet)]
        obtain ⟨j3, hj3, h⟩ := zcc h
        refine zbf (β := Unit) 0 rfl (fun b => j3 = some r) (fun b => zda ds1) (fun b => [(4, zP b1), (6, zP b2), (7, zP b3), (8, zP b4), (9, zP b5)]) (fun b => [cells b1 [zP bp1] 23, cells b2 [.string wv1.Title, wv1_h0.v] 56, cells b3 [vl1] 57, cells b4 [.bool false] 4, cells b5 [zI i1] 3, zd7 ((ds1 : List Nat).map zet)]) (fun cut => ?_) ?_
        ·
         refine cut (zak (zae (zaM (k := 2) zex rfl dc rfl rfl rfl (zbt hwl1 rfl dc rfl Tryd.underlying57 ?_))))
         refine zbb (cs := [zI (-1), zI (l1.length : Int)]) (te := 3) (ps := [(0, .const (zI (-1))), (1, .tmp 132)]) rfl dc rfl (fun _ => by kernel_rfl) (fun b11 => ?_)
         refine zjg ([(-1), (l1.length : Int)] : List Int) (k := 6) rfl zhp rfl (show 2 ≤ maxLen by decide) ?_
         show TO _ _ _ _ _ _ _ _ _ _ [cells b1 [zP bp1] 23, cells b2 [.string wv1.Title, wv1_h0.v] 56, cells b3 [vl1] 57, cells b4 [.bool false] 4, cells b5 [zI i1] 3, zd7 ((ds1 : List Nat).map zet), vec (zm3 (.i64)) 3 1 (.slice (some ⟨b11, 0, none⟩) 2 2) ([(-1), (l1.length : Int)] : List Int)]
         refine zc3 (k := 6) rfl dc rfl rfl Tryd.underlying29 (zaf rfl dc rfl (zaj (zah (zaS ?_))))
         refine zbx (β := Nat × Int) (fun b => za2 (fun _ => none) (zcO p1 l1 j3) b.1 b.2 = some r) (fun b => zda ds1) (fun b => [(4, zP b1), (6, zP b2), (7, zP b3), (8, zP b4), (9, zP b5), (133, (.slice (some ⟨b11, 0, none⟩) 2 2)), (134, zI (([(-1), (l1.length : Int)] : List Int).length : Int)), (135, zI b.2)]) (fun b => [cells b1 [zP bp1] 23, cells b2 [.string wv1.Title, wv1_h0.v] 56, cells b3 [vl1] 57, cells b4 [.bool false] 4, cells b5 [zI i1] 3, vec (zm3 (.i64)) 3 1 (.slice (some ⟨b11, 0, none⟩) 2 2) ([(-1), (l1.length : Int)] : List Int), zd7 ((ds1 : List Nat).map zet)]) (fun b => b.1) (zbG, 0) h rfl (zab rfl (zab rfl (zab rfl (zab rfl (zab rfl (zab rfl (zab rfl (zab rfl (zay))))))))) (zam [0, 1, 2, 3, 4, 6, 5] kr rfl) ?_
         rintro ⟨n2, x8⟩ h
         cases n2 with
         | zero => exact zdy h
         | succ n2 =>
          obtain ⟨ag3, hag3⟩ : ∃ ag, ag = za2 (fun _ => none) (zcO p1 l1 j3) n2 := ⟨_, rfl⟩
          have h : zcO p1 l1 j3 ag3 x8 = some r := by rw [hag3]; exact h
          unfold zcO at h
          show TC _ _ _ _ _ (zda ds1) _ _ [(4, zP b1), (6, zP b2), (7, zP b3), (8, zP b4), (9, zP b5), (133, (.slice (some ⟨b11, 0, none⟩) 2 2)), (134, zI (([(-1), (l1.length : Int)] : List Int).length : Int)), (135, zI x8)] [cells b1 [zP bp1] 23, cells b2 [.string wv1.Title, wv1_h0.v] 56, cells b3 [vl1] 57, cells b4 [.bool false] 4, cells b5 [zI i1] 3, vec (zm3 (.i64)) 3 1 (.slice (some ⟨b11, 0, none⟩) 2 2) ([(-1), (l1.length : Int)] : List Int), zd7 ((ds1 : List Nat).map zet)]
          refine zak (zae (zau rfl dc rfl rfl zbA (zaj (zah (zak ?_)))))
          refine zaI rfl (fun hb14 => ?_) (fun hb14 => ?_)
          ·
           have h := zaT hb14 h
           refine zaK (zah (zak (zaS (zak (zae ?_)))))
           obtain ⟨q2, hq13, h⟩ := zbN h
           refine zbK (k := 5) hq13 Tryd.underlying29 ziP rfl dc rfl rfl rfl rfl (zcV (i := (x8 : Int).toNat) (j := 0) (k := 5) (q := q2) zeL zhp rfl dc rfl rfl (zbz hq13) rfl dc rfl (zai rfl dc rfl (zaj (zah (zak (zae (zaM (k := 0) zef rfl dc rfl rfl rfl (zaf rfl dc rfl ?_))))))))
           obtain ⟨r10, hq14, h⟩ := zbN h
           refine zbe (v := .tuple #[.agg #[.string r10.1.Text, zI r10.1.Indent, zI r10.1.Stanza, zI r10.1.In, zI r10.1.Span_From, zI r10.1.Span_To], zI r10.2]) (vs := [zP bp1, zI q2]) hrd rfl dc rfl rfl rfl zoD (zff (bp1 := bp1) (p1 := p1) (p1_h0 := p1_h0) (p1_h1 := p1_h1) hq14) (.ro 0 rfl (.ro 1 rfl (.ro 2 rfl .nil))) (zaf rfl dc rfl (zaZ rfl dc rfl rfl (zaZ rfl dc rfl rfl ?_)))
           refine zbv zia rfl dc (fun b12 => ?_)
           refine za4 (k := 7) (vs := [.string r10.1.Text, zI r10.1.Indent, zI r10.1.Stanza, zI r10.1.In, zI r10.1.Span_From, zI r10.1.Span_To]) (l' := [.string r10.1.Text, zI r10.1.Indent, zI r10.1.Stanza, zI r10.1.In, zI r10.1.Span_From, zI r10.1.Span_To]) zfF rfl rfl rfl rfl rfl (show _ ≤ _ by simp) rfl rfl ?_
           show TO _ _ _ _ _ _ _ _ _ _ [cells b1 [zP bp1] 23, cells b2 [.string wv1.Title, wv1_h0.v] 56, cells b3 [vl1] 57, cells b4 [.bool false] 4, cells b5 [zI i1] 3, vec (zm3 (.i64)) 3 1 (.slice (some ⟨b11, 0, none⟩) 2 2) ([(-1), (l1.length : Int)] : List Int), zd7 ((ds1 : List Nat).map zet), cells b12 [.string r10.1.Text, zI r10.1.Indent, zI r10.1.Stanza, zI r10.1.In, zI r10.1.Span_From, zI r10.1.Span_To] 36]
           refine zai rfl dc rfl (zaj (zah (zak (zae (zcj (k := 7) (cs := [.string r10.1.Text, zI r10.1.Indent, zI r10.1.Stanza, zI r10.1.In, zI r10.1.Span_From, zI r10.1.Span_To]) zgd rfl dc rfl rfl rfl rfl ?_)))))
           refine zbi (v := .agg #[.string ByteArray.empty, zI 0, zI 0, zI 0, zI 0, zI 0]) (ps := []) rfl dc rfl (fun _ => by kernel_rfl) ?_
           refine zau rfl dc rfl rfl (zgZ r10.1 (⟨ByteArray.empty, 0, 0, 0, 0, 0⟩ : Gapi_Verse)) (zaf rfl dc rfl ?_)
           refine za3 (s := 148) rfl (fun hb15 => ?_) (fun hb15 => ?_)
           ·
            have h := zaT hb15 h
            refine zal rfl dc (zal rfl dc (zaA (b := true) rfl dc rfl rfl (zaj (zah (zbn rfl (zak (zae ?_)))))))
            refine zbh (k := 3) (l' := [.bool false]) zjl rfl rfl rfl rfl rfl (fun _ _ => rfl) rfl ?_
            refine zaj (zah (zaQ (zaw (zas (zas (zaw (zas ?_)))))))
            cases h
            exact zdY (rs := [.cell 8 4]) ds1 () (.inl rfl) (zbS (k := 6) rfl) Tryd.results31 (.cons (.cell zkT (k := 3) rfl rfl) .nil) rfl Splits.nil
           ·
            have h := zaU hb15 h
            refine zaf rfl dc rfl (zau rfl dc rfl rfl zbu (zaA (b := false) rfl dc rfl rfl (zaj (zah ?_))))
            refine zaI rfl (fun hb16 => ?_) (fun hb16 => ?_)
            ·
             have h := zaT hb16 h
             refine zak (zae ?_)
             refine zbh (k := 3) (l' := [.bool false]) zjl rfl rfl rfl rfl rfl (fun _ _ => rfl) rfl ?_
             refine zaj (zah (zaQ (zaw (zas (zas (zaw (zas ?_)))))))
             cases h
             exact zdY (rs := [.cell 8 4]) ds1 () (.inl rfl) (zbS (k := 6) rfl) Tryd.results31 (.cons (.cell zkT (k := 3) rfl rfl) .nil) rfl Splits.nil
            ·
             have h := zaU hb16 h
             refine zaK (zav (zah (zae ?_)))
             obtain ⟨hg5, h⟩ := zbW h
             refine zau rfl dc rfl rfl (za5 (r := x8 + 1) (IntWalk.i64_in _ hg5)) (zaf rfl dc rfl (zaj ?_))
             subst hag3
             exact za6 (n2, x8 + 1) h (Nat.lt_succ_self _) rfl (zab rfl (zab rfl (zab rfl (zab rfl (zab rfl (zab rfl (zab rfl (zab rfl (zay))))))))) (zam [0, 1, 2, 3, 4, 5, 6] kr rfl)
          ·
           have h := zaU hb14 h
           refine zbl (zaC (zaC (zaN ?_)))
           exact zaJ () h rfl (zab rfl (zab rfl (zab rfl (zab rfl (zab rfl (zay)))))) (zam [0, 1, 2, 3, 4, 6] kr rfl)
        ·
         rintro _ h
         rw [hj3] at h
         show TC _ _ _ _ _ (zda ds1) _ _ [(4, zP b1), (6, zP b2), (7, zP b3), (8, zP b4), (9, zP b5)] [cells b1 [zP bp1] 23, cells b2 [.string wv1.Title, wv1_h0.v] 56, cells b3 [vl1] 57, cells b4 [.bool false] 4, cells b5 [zI i1] 3, zd7 ((ds1 : List Nat).map zet)]
         obtain ⟨j4, hj4, h⟩ := zcc h
         refine zbf (β := Unit) 0 rfl (fun b => j4 = some r) (fun b => zda ds1) (fun b => [(7, zP b3), (8, zP b4), (9, zP b5)]) (fun b => [cells b3 [vl1] 57, cells b4 [.bool false] 4, cells b5 [zI i1] 3, zd7 ((ds1 : List Nat).map zet)]) (fun cut => ?_) ?_
         ·
          refine cut (zak (zae (zan zdD rfl dc rfl (show _ = 1 from rfl) (zaM (k := 1) ze1 rfl dc rfl rfl rfl (zdm hzwv10 hwwv10 rfl dc rfl Tryd.underlying54 ?_)))))
          refine zbb (cs := [zI (-1), zI (wv1.Stanzas.length : Int)]) (te := 3) (ps := [(0, .const (zI (-1))), (1, .tmp 155)]) rfl dc rfl (fun _ => by kernel_rfl) (fun b13 => ?_)
          refine zjg ([(-1), (wv1.Stanzas.length : Int)] : List Int) (k := 6) rfl zhp rfl (show 2 ≤ maxLen by decide) ?_
          show TO _ _ _ _ _ _ _ _ _ _ [cells b1 [zP bp1] 23, cells b2 [.string wv1.Title, wv1_h0.v] 56, cells b3 [vl1] 57, cells b4 [.bool false] 4, cells b5 [zI i1] 3, zd7 ((ds1 : List Nat).map zet), vec (zm3 (.i64)) 3 1 (.slice (some ⟨b13, 0, none⟩) 2 2) ([(-1), (wv1.Stanzas.length : Int)] : List Int)]
          refine zc3 (k := 6) rfl dc rfl rfl Tryd.underlying29 (zaf rfl dc rfl (zaj (zah (zaS ?_))))
          refine zbx (β := Nat × Int) (fun b => za2 (fun _ => none) (zcN p1 wv1 j4) b.1 b.2 = some r) (fun b => zda ds1) (fun b => [(4, zP b1), (7, zP b3), (8, zP b4), (9, zP b5), (156, (.slice (some ⟨b13, 0, none⟩) 2 2)), (157, zI (([(-1), (wv1.Stanzas.length : Int)] : List Int).length : Int)), (158, zI b.2)]) (fun b => [cells b1 [zP bp1] 23, cells b3 [vl1] 57, cells b4 [.bool false] 4, cells b5 [zI i1] 3, vec (zm3 (.i64)) 3 1 (.slice (some ⟨b13, 0, none⟩) 2 2) ([(-1), (wv1.Stanzas.length : Int)] : List Int), zd7 ((ds1 : List Nat).map zet)]) (fun b => b.1) (zbG, 0) h rfl (zab rfl (zab rfl (zab rfl (zab rfl (zab rfl (zab rfl (zab rfl (zay)))))))) (zam [0, 2, 3, 4, 6, 5] kr rfl) ?_
          rintro ⟨n3, x11⟩ h
          cases n3 with
          | zero => exact zdy h
          | succ n3 =>
           obtain ⟨ag4, hag4⟩ : ∃ ag, ag = za2 (fun _ => none) (zcN p1 wv1 j4) n3 := ⟨_, rfl⟩
           have h : zcN p1 wv1 j4 ag4 x11 = some r := by rw [hag4]; exact h
           unfold zcN at h
           show TC _ _ _ _ _ (zda ds1) _ _ [(4, zP b1), (7, zP b3), (8, zP b4), (9, zP b5), (156, (.slice (some ⟨b13, 0, none⟩) 2 2)), (157, zI (([(-1), (wv1.Stanzas.length : Int)] : List Int).length : Int)), (158, zI x11)] [cells b1 [zP bp1] 23, cells b3 [vl1] 57, cells b4 [.bool false] 4, cells b5 [zI i1] 3, vec (zm3 (.i64)) 3 1 (.slice (some ⟨b13, 0, none⟩) 2 2) ([(-1), (wv1.Stanzas.length : Int)] : List Int), zd7 ((ds1 : List Nat).map zet)]
           refine zak (zae (zau rfl dc rfl rfl zbA (zaj (zah (zak ?_)))))
           refine zaI rfl (fun hb17 => ?_) (fun hb17 => ?_)
           ·
            have h := zaT hb17 h
            refine zaK (zah (zak (zaS (zak (zae ?_)))))
            obtain ⟨q3, hq15, h⟩ := zbN h
            refine zbK (k := 4) hq15 Tryd.underlying29 ziP rfl dc rfl rfl rfl rfl (zcV (i := (x11 : Int).toNat) (j := 0) (k := 4) (q := q3) zeL zhp rfl dc rfl rfl (zbz hq15) rfl dc rfl (zai rfl dc rfl (zaj (zah (zak (zae (zaM (k := 0) zef rfl dc rfl rfl rfl (zaf rfl dc rfl ?_))))))))
            obtain ⟨r11, hq16, h⟩ := zbN h
            refine zbe (v := .tuple #[.agg #[zI r11.1.From, zI r11.1.To], zI r11.2]) (vs := [zP bp1, zI q3]) hrd rfl dc rfl rfl rfl zoA (zeU (bp1 := bp1) (p1 := p1) (p1_h0 := p1_h0) (p1_h1 := p1_h1) hq16) (.ro 0 rfl (.ro 1 rfl (.ro 2 rfl .nil))) (zaf rfl dc rfl (zaZ rfl dc rfl rfl (zaZ rfl dc rfl rfl ?_)))
            refine zbv zkb rfl dc (fun b14 => ?_)
            refine za4 (k := 6) (vs := [zI r11.1.From, zI r11.1.To]) (l' := [zI r11.1.From, zI r11.1.To]) zf4 rfl rfl rfl rfl rfl (show _ ≤ _ by simp) rfl rfl ?_
            show TO _ _ _ _ _ _ _ _ _ _ [cells b1 [zP bp1] 23, cells b3 [vl1] 57, cells b4 [.bool false] 4, cells b5 [zI i1] 3, vec (zm3 (.i64)) 3 1 (.slice (some ⟨b13, 0, none⟩) 2 2) ([(-1), (wv1.Stanzas.length : Int)] : List Int), zd7 ((ds1 : List Nat).map zet), cells b14 [zI r11.1.From, zI r11.1.To] 34]
            refine zai rfl dc rfl (zaj (zah (zak (zae (zcj (k := 6) (cs := [zI r11.1.From, zI r11.1.To]) zgP rfl dc rfl rfl rfl rfl ?_)))))
            refine zbi (v := .agg #[zI 0, zI 0]) (ps := []) rfl dc rfl (fun _ => by kernel_rfl) ?_
            refine zau rfl dc rfl rfl (ziF r11.1 (⟨0, 0⟩ : Gapi_Span)) (zaf rfl dc rfl ?_)
            refine za3 (s := 171) rfl (fun hb18 => ?_) (fun hb18 => ?_)
            ·
             have h := zaT hb18 h
             refine zal rfl dc (zal rfl dc (zaA (b := true) rfl dc rfl rfl (zaj (zah (zbn rfl (zak (zae ?_)))))))
             refine zbh (k := 2) (l' := [.bool false]) zjl rfl rfl rfl rfl rfl (fun _ _ => rfl) rfl ?_
             refine zaj (zah (zaQ (zaw (zas (zas (zaw (zas ?_)))))))
             cases h
             exact zdY (rs := [.cell 8 4]) ds1 () (.inl rfl) (zbS (k := 5) rfl) Tryd.results31 (.cons (.cell zkT (k := 2) rfl rfl) .nil) rfl Splits.nil
            ·
             have h := zaU hb18 h
             refine zaf rfl dc rfl (zau rfl dc rfl rfl zbu (zaA (b := false) rfl dc rfl rfl (zaj (zah ?_))))
             refine zaI rfl (fun hb19 => ?_) (fun hb19 => ?_)
             ·
              have h := zaT hb19 h
              refine zak (zae ?_)
              refine zbh (k := 2) (l' := [.bool false]) zjl rfl rfl rfl rfl rfl (fun _ _ => rfl) rfl ?_
              refine zaj (zah (zaQ (zaw (zas (zas (zaw (zas ?_)))))))
              cases h
              exact zdY (rs := [.cell 8 4]) ds1 () (.inl rfl) (zbS (k := 5) rfl) Tryd.results31 (.cons (.cell zkT (k := 2) rfl rfl) .nil) rfl Splits.nil
             ·
              have h := zaU hb19 h
              refine zaK (zav (zah (zae ?_)))
              obtain ⟨hg6, h⟩ := zbW h
              refine zau rfl dc rfl rfl (za5 (r := x11 + 1) (IntWalk.i64_in _ hg6)) (zaf rfl dc rfl (zaj ?_))
              subst hag4
              exact za6 (n3, x11 + 1) h (Nat.lt_succ_self _) rfl (zab rfl (zab rfl (zab rfl (zab rfl (zab rfl (zab rfl (zab rfl (zay)))))))) (zam [0, 1, 2, 3, 4, 5] kr rfl)
           ·
            have h := zaU hb17 h
            refine zbl (zaC (zaC (zaN ?_)))
            exact zaJ () h rfl (zab rfl (zab rfl (zab rfl (zay)))) (zam [1, 2, 3, 5] kr rfl)
         ·
          rintro _ h
          rw [hj4] at h
          show TC _ _ _ _ _ (zda ds1) _ _ [(7, zP b3), (8, zP b4), (9, zP b5)] [cells b3 [vl1] 57, cells b4 [.bool false] 4, cells b5 [zI i1] 3, zd7 ((ds1 : List Nat).map zet)]
          refine zak (zae (zaM (k := 2) zeL rfl dc rfl rfl rfl (zaM (k := 0) zex rfl dc rfl rfl rfl (zbt hwl1 rfl dc rfl Tryd.underlying57 (zau rfl dc rfl rfl zbF ?_)))))
          refine zbh (k := 1) (l' := [.bool ((i1 : Int) == (l1.length : Int))]) zjl rfl rfl rfl rfl rfl (fun _ _ => rfl) rfl ?_
          refine zaj (zah (zaQ ?_))
          cases h
          exact zdY (rs := [.cell 8 4]) ds1 () (.inl rfl) (zbS (k := 3) rfl) Tryd.results31 (.cons (.cell zkT (k := 1) rfl rfl) .nil) rfl Splits.nil
def zdi (e1 : Int) (wv1 : Gref17_Poem) (no1 : Int) : Option Bool :=
zaO ((no1 : Int) != 0) (
some ((e1 : Int) == no1)
) (
zaE (zcC wv1) fun (r1 : ByteArray) =>
zaE (zdo r1) fun (r2 : (Gref17_Poem × (List Gapi_Verse) × Gapi_Spot)) =>
zaO ((e1 : Int) == 0) (
zaE (ze9 r1 wv1 r2.2.1) fun (r3 : Bool) =>
some false
) (
some false
)
)
theorem zgv {e1 : Int} {wv1 : Gref17_Poem} {wv1_h0 : Hd} {vvwv10 : Value} {kwv10 : Nat} {Zwv10 zwv10 : List ((List ByteArray) × Hd)} (hwwv10 : Vw vvwv10 Zwv10 1 kwv10 wv1_h0.v zwv10) (hzwv10 : zwv10.map Prod.fst = wv1.Stanzas) {no1 : Int} {r : Bool} (h : zdi e1 wv1 no1 = some r) : FnR Tryd.prog 37 [.pointer none, zI e1, .agg #[.string wv1.Title, wv1_h0.v], zI no1] [roRow encN_T_string 1 vvwv10 kwv10 Zwv10, rdOwn nestR_T_string Zwv10] [] (fun _ : Unit => (.bool r)) (fun _ => []) := by
 unfold zdi at h
 refine FnR.intro Tryd.func37 rfl Tryd.ntmps37 (by simp) ?_
 intro w0 K hrd
 refine zak (zae ?_)
 refine zfo rfl dc rfl (fun b1 => ?_)
 refine zai rfl dc rfl (zaj (zah (zak (zak (zae (zaf rfl dc rfl (zau rfl dc rfl rfl zbu (zaj (zah ?_)))))))))
 refine zaI rfl (fun hb1 => ?_) (fun hb1 => ?_)
 ·
  have h := zaT hb1 h
  refine zak (zae (zaf rfl dc rfl (zau rfl dc rfl rfl (ziE (m := (none : Option Unit)) Tryd.underlying23 (.inl ⟨rfl, rfl⟩)) (zaf rfl dc rfl (zaf rfl dc rfl (zaf rfl dc rfl (zau rfl dc rfl rfl zbF (zaA (b := true) rfl dc rfl rfl (zai rfl dc rfl (zaj (zah (zaQ (zas ?_)))))))))))))
  cases h
  exact zaW (rs := [.tmp 8]) () (.inl rfl) Tryd.results37 (.cons (.tmp rfl) .nil) rfl Splits.nil
 ·
  have h := zaU hb1 h
  refine zaK (zah (zak (zae (zcj (k := 0) (cs := [.string wv1.Title, wv1_h0.v]) zgO rfl dc rfl rfl rfl rfl ?_))))
  obtain ⟨r1, hq1, h⟩ := zbN h
  refine zbe (v := .string r1) (vs := [.agg #[.string wv1.Title, wv1_h0.v]]) hrd rfl dc rfl rfl rfl zm4 (zes (p1_h0 := wv1_h0) (p1 := wv1) hwwv10 hzwv10 hq1) (.ro 0 rfl (.ro 1 rfl .nil)) (zai rfl dc rfl (zaj (zah (zak (zae (zaf rfl dc rfl ?_))))))
  obtain ⟨r2, hq2, h⟩ := zbN h
  refine zeq (vs := [.string r1]) rfl dc rfl rfl rfl zoC (zgq hq2) Splits.nil ?_
  rintro ⟨hd1, v1⟩
  show TO _ _ _ _ _ _ _ _ _ _ [cells b1 [.string wv1.Title, wv1_h0.v] 56, zcU encN_T_string zao 48 1 hd1.v r2.1.Stanzas, vec zar 36 6 v1 r2.2.1]
  refine zb3 (L' := [cells b1 [.string wv1.Title, wv1_h0.v] 56, zcU encN_T_string zao 48 1 hd1.v r2.1.Stanzas, vec zar 36 6 v1 r2.2.1]) (zam [0, 1, 2] kr rfl) ?_
  refine zco (k := 2) rfl (fun hd2 he1 => ?_)
  subst he1
  refine zaf rfl dc rfl (zaZ rfl dc rfl rfl (zaZ rfl dc rfl rfl (zaZ rfl dc rfl rfl ?_)))
  refine zbv zlJ rfl dc (fun b2 => ?_)
  refine zbv zk5 rfl dc (fun b3 => ?_)
  show TO _ _ _ _ _ _ _ _ _ _ [cells b1 [.string wv1.Title, wv1_h0.v] 56, zcU encN_T_string zao 48 1 hd1.v r2.1.Stanzas, vec zar 36 6 hd2.v r2.2.1, cells b2 [.string ByteArray.empty, .slice none 0 0] 56, cells b3 [zI 0, zI 0] 26]
  refine za4 (k := 3) (vs := [.string r2.1.Title, hd1.v]) (l' := [.string r2.1.Title, hd1.v]) zke rfl rfl rfl rfl rfl (show _ ≤ _ by simp) rfl rfl (zai rfl dc rfl (za4 (k := 4) (vs := [zI r2.2.2.Err, zI r2.2.2.At]) (l' := [zI r2.2.2.Err, zI r2.2.2.At]) zgM rfl rfl rfl rfl rfl (show _ ≤ _ by simp) rfl rfl ?_))
  show TO _ _ _ _ _ _ _ _ _ _ [cells b1 [.string wv1.Title, wv1_h0.v] 56, zcU encN_T_string zao 48 1 hd1.v r2.1.Stanzas, vec zar 36 6 hd2.v r2.2.1, cells b2 [.string r2.1.Title, hd1.v] 56, cells b3 [zI r2.2.2.Err, zI r2.2.2.At] 26]
  refine zaj (zah (zak (zae (zaf rfl dc rfl (zau rfl dc rfl rfl zbF (zaf rfl dc rfl ?_))))))
  refine za3 (s := 32) rfl (fun hb2 => ?_) (fun hb2 => ?_)
  ·
   have h := zaT hb2 h
   refine zaf rfl dc rfl (zaf rfl dc rfl (zcj (k := 0) (cs := [.string wv1.Title, wv1_h0.v]) zgO rfl dc rfl rfl rfl rfl (zaf rfl dc rfl ?_)))
   refine zgG (k := 2) rfl (fun hw1 => ?_)
   obtain ⟨r3, hq3, h⟩ := zbN h
   obtain rfl : false = r3 := Option.some.inj (show some false = some r3 from hq3)
   refine zbe (v := .bool false) (vs := [.pointer none, .string r1, .agg #[.string wv1.Title, wv1_h0.v], hd2.v]) hrd rfl dc rfl rfl rfl zoB (zhL (wv1_h0 := wv1_h0) (wv1 := wv1) hwwv10 hzwv10 hw1 hq3) (.ro 0 rfl (.ro 1 rfl (.own (As := [vec zar 36 6 hd2.v r2.2.1]) (zam [2] (by kernel_rfl) rfl) (fun _ _ h => zeR zbM (sepL.one1.1 h)) .nil))) ?_
   refine zaA (b := true) rfl dc rfl rfl (zai rfl dc rfl (zaj (zah (zaQ ?_))))
   cases h
   exact zaW (rs := [.tmp 8]) () (.inl rfl) Tryd.results37 (.cons (.tmp rfl) .nil) rfl Splits.nil
  ·
   have h := zaU hb2 h
   refine zal rfl dc (zal rfl dc (zal rfl dc (zal rfl dc (zal rfl dc (zaA (b := false) rfl dc rfl rfl (zai rfl dc rfl (zaj (zah (zaQ ?_)))))))))
   cases h
   exact zaW (rs := [.tmp 8]) () (.inl rfl) Tryd.results37 (.cons (.tmp rfl) .nil) rfl Splits.nil
def zec (p1 : Gpoem_Poem) (e1 : Int) (wv1 : Gref17_Poem) (no1 : Int) : Option Bool :=
zaO ((no1 : Int) != 0) (
some false
) (
zaE (zcC wv1) fun (r1 : ByteArray) =>
zaE (zdo r1) fun (r2 : (Gref17_Poem × (List Gapi_Verse) × Gapi_Spot)) =>
zaO ((e1 : Int) == 0) (
zaE (zfh p1 r1 wv1 r2.2.1) fun (r3 : Bool) =>
some r3
) (
some false
)
)
theorem zil {bp1 : Nat} {p1 : Gpoem_Poem} {p1_h0 p1_h1 : Hd} {e1 : Int} {wv1 : Gref17_Poem} {wv1_h0 : Hd} {vvwv10 : Value} {kwv10 : Nat} {Zwv10 zwv10 : List ((List ByteArray) × Hd)} (hwwv10 : Vw vvwv10 Zwv10 1 kwv10 wv1_h0.v zwv10) (hzwv10 : zwv10.map Prod.fst = wv1.Stanzas) {no1 : Int} {r : Bool} (h : zec p1 e1 wv1 no1 = some r) : FnR Tryd.prog 37 [zP bp1, zI e1, .agg #[.string wv1.Title, wv1_h0.v], zI no1] [cells bp1 [.string p1.told_title, p1_h0.v, p1_h1.v, .string p1.source] 93, vec zar 36 6 p1_h0.v p1.told_lines, vec zaq 34 2 p1_h1.v p1.told_stanzas, roRow encN_T_string 1 vvwv10 kwv10 Zwv10, rdOwn nestR_T_string Zwv10] [] (fun _ : Unit => (.bool r)) (fun _ => []) := by
 unfold zec at h
 refine FnR.intro Tryd.func37 rfl Tryd.ntmps37 (by simp) ?_
 intro w0 K hrd
 refine zak (zae ?_)
 refine zfo rfl dc rfl (fun b1 => ?_)
 refine zai rfl dc rfl (zaj (zah (zak (zak (zae (zaf rfl dc rfl (zau rfl dc rfl rfl zbu (zaj (zah ?_)))))))))
 refine zaI rfl (fun hb1 => ?_) (fun hb1 => ?_)
 ·
  have h := zaT hb1 h
  refine zak (zae (zaf rfl dc rfl (zau rfl dc rfl rfl (za8 Tryd.underlying23) (zaf rfl dc rfl (zal rfl dc (zal rfl dc (zal rfl dc (zaA (b := false) rfl dc rfl rfl (zai rfl dc rfl (zaj (zah (zaQ (zas ?_)))))))))))))
  cases h
  exact zaW (rs := [.tmp 8]) () (.inl rfl) Tryd.results37 (.cons (.tmp rfl) .nil) rfl Splits.nil
 ·
  have h := zaU hb1 h
  refine zaK (zah (zak (zae (zcj (k := 0) (cs := [.string wv1.Title, wv1_h0.v]) zgO rfl dc rfl rfl rfl rfl ?_))))
  obtain ⟨r1, hq1, h⟩ := zbN h
  refine zbe (v := .string r1) (vs := [.agg #[.string wv1.Title, wv1_h0.v]]) hrd rfl dc rfl rfl rfl zm4 (zes (p1_h0 := wv1_h0) (p1 := wv1) hwwv10 hzwv10 hq1) (.ro 3 rfl (.ro 4 rfl .nil)) (zai rfl dc rfl (zaj (zah (zak (zae (zaf rfl dc rfl ?_))))))
  obtain ⟨r2, hq2, h⟩ := zbN h
  refine zeq (vs := [.string r1]) rfl dc rfl rfl rfl zoC (zgq hq2) Splits.nil ?_
  rintro ⟨hd1, v1⟩
  show TO _ _ _ _ _ _ _ _ _ _ [cells b1 [.string wv1.Title, wv1_h0.v] 56, zcU encN_T_string zao 48 1 hd1.v r2.1.Stanzas, vec zar 36 6 v1 r2.2.1]
  refine zb3 (L' := [cells b1 [.string wv1.Title, wv1_h0.v] 56, zcU encN_T_string zao 48 1 hd1.v r2.1.Stanzas, vec zar 36 6 v1 r2.2.1]) (zam [0, 1, 2] kr rfl) ?_
  refine zco (k := 2) rfl (fun hd2 he1 => ?_)
  subst he1
  refine zaf rfl dc rfl (zaZ rfl dc rfl rfl (zaZ rfl dc rfl rfl (zaZ rfl dc rfl rfl ?_)))
  refine zbv zlJ rfl dc (fun b2 => ?_)
  refine zbv zk5 rfl dc (fun b3 => ?_)
  show TO _ _ _ _ _ _ _ _ _ _ [cells b1 [.string wv1.Title, wv1_h0.v] 56, zcU encN_T_string zao 48 1 hd1.v r2.1.Stanzas, vec zar 36 6 hd2.v r2.2.1, cells b2 [.string ByteArray.empty, .slice none 0 0] 56, cells b3 [zI 0, zI 0] 26]
  refine za4 (k := 3) (vs := [.string r2.1.Title, hd1.v]) (l' := [.string r2.1.Title, hd1.v]) zke rfl rfl rfl rfl rfl (show _ ≤ _ by simp) rfl rfl (zai rfl dc rfl (za4 (k := 4) (vs := [zI r2.2.2.Err, zI r2.2.2.At]) (l' := [zI r2.2.2.Err, zI r2.2.2.At]) zgM rfl rfl rfl rfl rfl (show _ ≤ _ by simp) rfl rfl ?_))
  show TO _ _ _ _ _ _ _ _ _ _ [cells b1 [.string wv1.Title, wv1_h0.v] 56, zcU encN_T_string zao 48 1 hd1.v r2.1.Stanzas, vec zar 36 6 hd2.v r2.2.1, cells b2 [.string r2.1.Title, hd1.v] 56, cells b3 [zI r2.2.2.Err, zI r2.2.2.At] 26]
  refine zaj (zah (zak (zae (zaf rfl dc rfl (zau rfl dc rfl rfl zbF (zaf rfl dc rfl ?_))))))
  refine za3 (s := 32) rfl (fun hb2 => ?_) (fun hb2 => ?_)
  ·
   have h := zaT hb2 h
   refine zaf rfl dc rfl (zaf rfl dc rfl (zcj (k := 0) (cs := [.string wv1.Title, wv1_h0.v]) zgO rfl dc rfl rfl rfl rfl (zaf rfl dc rfl ?_)))
   refine zgG (k := 2) rfl (fun hw1 => ?_)
   obtain ⟨r3, hq3, h⟩ := zbN h
   refine zbe (v := .bool r3) (vs := [zP bp1, .string r1, .agg #[.string wv1.Title, wv1_h0.v], hd2.v]) hrd rfl dc rfl rfl rfl zoB (zkp (bp1 := bp1) (p1 := p1) (p1_h0 := p1_h0) (p1_h1 := p1_h1) (wv1_h0 := wv1_h0) (wv1 := wv1) hwwv10 hzwv10 hw1 hq3) (.ro 0 rfl (.ro 1 rfl (.ro 2 rfl (.ro 3 rfl (.ro 4 rfl (.own (As := [vec zar 36 6 hd2.v r2.2.1]) (zam [2] (by kernel_rfl) rfl) (fun _ _ h => zeR zbM (sepL.one1.1 h)) .nil)))))) ?_
   refine zaA (b := true) rfl dc rfl rfl (zai rfl dc rfl (zaj (zah (zaQ ?_))))
   cases h
   exact zaW (rs := [.tmp 8]) () (.inl rfl) Tryd.results37 (.cons (.tmp rfl) .nil) rfl Splits.nil
  ·
   have h := zaU hb2 h
   refine zal rfl dc (zal rfl dc (zal rfl dc (zal rfl dc (zal rfl dc (zaA (b := false) rfl dc rfl rfl (zai rfl dc rfl (zaj (zah (zaQ ?_)))))))))
   cases h
   exact zaW (rs := [.tmp 8]) () (.inl rfl) Tryd.results37 (.cons (.tmp rfl) .nil) rfl Splits.nil
def zdh (m : Option Gpoem_Poem) (e1 : Int) (wv1 : Gref17_Poem) (no1 : Int) : Option Bool := if m.isNone then zdi e1 wv1 no1 else m.bind fun p1 => zec p1 e1 wv1 no1
theorem zhc {v : Value} {m : Option Gpoem_Poem} {e1 : Int} {wv1 : Gref17_Poem} {wv1_h0 : Hd} {vvwv10 : Value} {kwv10 : Nat} {Zwv10 zwv10 : List ((List ByteArray) × Hd)} (hwwv10 : Vw vvwv10 Zwv10 1 kwv10 wv1_h0.v zwv10) (hzwv10 : zwv10.map Prod.fst = wv1.Stanzas) {no1 : Int} {r : Bool} (h : zdh m e1 wv1 no1 = some r) : FnR Tryd.prog 37 [v, zI e1, .agg #[.string wv1.Title, wv1_h0.v], zI no1] [zd5 zaB zaz 93 v m, roRow encN_T_string 1 vvwv10 kwv10 Zwv10, rdOwn nestR_T_string Zwv10] [] (fun _ : Unit => .bool r) (fun _ => []) := by
  intro w C hR
  obtain ⟨D, h1, hk⟩ := hR _ (List.mem_of_getElem? (i := 0) rfl)
  have hR2 : Rd w C [roRow encN_T_string 1 vvwv10 kwv10 Zwv10, rdOwn nestR_T_string Zwv10] := fun A hA => hR A (List.mem_cons_of_mem _ hA)
  cases m with
  | none =>
    rcases zln h1 with ⟨_, h2⟩ | ⟨x, b, h3, _⟩
    · subst h2
      exact (zgv hwwv10 hzwv10 h) w C hR2
    · cases h3
  | some p1 =>
    obtain ⟨bp1, ⟨p1_h0, p1_h1⟩, h2, h3⟩ := pobj_some.1 h1
    subst h2
    have hR3 : Rd w C (cells bp1 [.string p1.told_title, p1_h0.v, p1_h1.v, .string p1.source] 93 :: zaz (p1, (p1_h0, p1_h1))) := fun A hA => by
      obtain ⟨E, h4, h5⟩ := zhz h3 A hA
      exact ⟨E, h4, fun k h => hk k (h5 k h)⟩
    exact (zil (bp1 := bp1) (p1 := p1) (p1_h0 := p1_h0) (p1_h1 := p1_h1) hwwv10 hzwv10 h) w C (hR3.append hR2)

end Go.Proofs.YtgfkogafkhbgnaaDoor
namespace Go.Proofs.YtgfkogafkhbgnaaDoor
open Go.RowKit Go.Lib
set_option linter.unusedVariables false
set_option linter.unusedSimpArgs false
theorem zkh (n : Nat) : Lib.repeatL [32] n = List.replicate n 32 := by
  induction n with
  | zero => rfl
  | succ n ih => rw [Lib.repeatL, ih, List.replicate_succ]; rfl
theorem zjJ : ∀ x : List UInt8, List.replicate (ind x) 32 ++ x.drop (ind x) = x
  | [] => rfl
  | b :: x => by
    rw [zhm]
    by_cases h : b = 32
    · rw [if_pos h, List.replicate_succ, List.drop_succ_cons, List.cons_append, zjJ x, h]
    · rw [if_neg h]; rfl
theorem znp (x : List UInt8) : zcm (ind x : Int) ++ mkB (x.drop (ind x)) = mkB x := by
  unfold zcm
  rw [Int.toNat_natCast, zkh]
  have : (⟨(List.replicate (ind x) (32 : UInt8)).toArray⟩ : ByteArray) = mkB (List.replicate (ind x) 32) := rfl
  rw [this, zeA, zjJ]
def zin : Nat → List Gapi_Verse → List (Int × Gapi_Verse)
  | _, [] => []
  | i, v :: vs => ((i : Int), v) :: zin (i + 1) vs
theorem zl3 (p : Gpoem_Poem) (h : p.told_lines.length ≤ 4611686018427387904) : zcz p = some (zin 0 p.told_lines) := by
  unfold zcz
  have key : ∀ (n i : Nat), i ≤ p.told_lines.length → p.told_lines.length - i < n → za2 (fun _ => none) (zbQ p) n (i : Int) = some (zin i (p.told_lines.drop i)) := by
    intro n
    induction n with
    | zero => intro i h1 h2; omega
    | succ n ih =>
      intro i hi hn
      rw [zbq]
      obtain ⟨ag, hag⟩ : ∃ ag, ag = za2 (fun _ => none) (zbQ p) n := ⟨_, rfl⟩
      rw [← hag] at ih ⊢
      unfold zbQ
      rcases Nat.lt_or_ge i p.told_lines.length with hl | hl
      · have hd := List.drop_eq_getElem_cons hl
        refine zaY (decide_eq_true (by omega)) (za7 (zcb (List.getElem?_eq_getElem hl)) ?_)
        have h1 : (grd (I64 ((i : Int) + 1)) <| ag ((i : Int) + 1)) = some (zin (i + 1) (p.told_lines.drop (i + 1))) := zcq ⟨by omega, by omega⟩ (by rw [show (i : Int) + 1 = ((i + 1 : Nat) : Int) by omega]; exact ih (i + 1) (by omega) (by omega))
        rw [h1, hd]; rfl
      · rw [List.drop_eq_nil_of_le hl]
        exact zaP (decide_eq_false (by omega)) rfl
  have := key zbG 0 (Nat.zero_le _) (by unfold zbG; omega)
  rw [List.drop_zero] at this
  exact this
/-! ### Rows -/
abbrev LnE := Nat × Nat × List UInt8
def ze2 (from_ to_ : Nat) : Nat → List LnE → List Row × Int → List Row × Int
  | _, [], a => a
  | i, p :: L, a =>
    if i < from_ ∨ to_ ≤ i then ze2 from_ to_ (i + 1) L a
    else if (p.1 : Int) ≠ a.2 then ze2 from_ to_ (i + 1) L (a.1 ++ [[p.2.2]], (p.1 : Int))
    else ze2 from_ to_ (i + 1) L (a.1.dropLast ++ [zeB a.1 ++ [p.2.2]], a.2)
theorem zlU (from_ to_ : Nat) (d : (List (List ByteArray)) → Int → Option (List (List ByteArray))) : ∀ (L : List LnE) (vs : List Gapi_Verse) (i : Nat) (out : List Row) (s : Int), vs.map zoW = L.map zoX → (∀ p ∈ L, p.2.2.length ≤ 1024) → i + L.length ≤ 1000000 →
    out.length ≤ i → (∀ r ∈ out, r.length ≤ i) → (s ≠ -1 → out ≠ []) → zeT d (zca from_ to_) (zin i vs) (mkZ out) s = d (mkZ (ze2 from_ to_ i L (out, s)).1) (ze2 from_ to_ i L (out, s)).2
  | [], vs, i, out, s, hk, hx, hi, ho, hr, hs => by
    have : vs = [] := by cases vs with | nil => rfl | cons v vs => cases hk
    subst this; rfl
  | p :: L, vs, i, out, s, hk, hx, hi, ho, hr, hs => by
    cases vs with
    | nil => cases hk
    | cons v vs =>
      rw [List.map_cons, List.map_cons] at hk
      obtain ⟨hv, hk⟩ := List.cons.inj hk
      rw [List.length_cons] at hi
      have hv1 : v.Text = mkB (p.2.2.drop (ind p.2.2)) := congrArg (fun q => q.1) hv
      have hv2 : v.Indent = (ind p.2.2 : Int) := congrArg (fun q => q.2.1) hv
      have hv3 : v.Stanza = (p.1 : Int) := congrArg (fun q => q.2.2.1) hv
      have hxl := hx p (by simp)
      have hil := zme p.2.2
      show zeT d _ (((i : Int), v) :: zin (i + 1) vs) _ _ = _
      rw [zhF]
      have ih := fun out s h1 h2 h3 => zlU from_ to_ d L vs (i + 1) out s hk (fun q hq => hx q (by simp [hq])) (by omega) h1 h2 h3
      obtain ⟨ag, hag⟩ : ∃ ag, ag = zeT d (zca from_ to_) (zin (i + 1) vs) := ⟨_, rfl⟩
      rw [← hag] at ih ⊢
      unfold zca ze2
      by_cases h1 : i < from_
      · rw [if_pos (.inl h1)]
        exact zaY (decide_eq_true (by show (i : Int) < _; omega)) (ih out s (by omega) (fun r h => by have := hr r h; omega) hs)
      · refine zaP (decide_eq_false (by show ¬ (i : Int) < _; omega)) ?_
        by_cases h2 : to_ ≤ i
        · rw [if_pos (.inr h2)]
          exact zaY (decide_eq_true (by show _ ≤ (i : Int); omega)) (ih out s (by omega) (fun r h => by have := hr r h; omega) hs)
        · rw [if_neg (by omega)]
          refine zaP (decide_eq_false (by show ¬ _ ≤ (i : Int); omega)) (zcx ?_)
          have tail : ∀ (z : List Row) (s' : Int), z ≠ [] → z.length ≤ i + 1 → (∀ r ∈ z, r.length ≤ i) → s' ≠ -1 → (grd (I64 (((mkZ z).length : Int) - 1)) <|
              zaE (zdk (mkZ z) (((mkZ z).length : Int) - 1)) fun (x2 : List ByteArray) =>
              grd (0 ≤ v.Indent ∧ v.Indent ≤ 140737488355328) <|
              grd ((zcm v.Indent).size + v.Text.size ≤ 9223372036854775807) <|
              grd (x2.length + 1 ≤ 2147483648) <|
              ag ((mkZ z).set (((mkZ z).length : Int) - 1 : Int).toNat (x2 ++ [(zcm v.Indent) ++ v.Text])) s') = d (mkZ (ze2 from_ to_ (i + 1) L (z.dropLast ++ [zeB z ++ [p.2.2]], s')).1) (ze2 from_ to_ (i + 1) L (z.dropLast ++ [zeB z ++ [p.2.2]], s')).2 := fun z s' hz hzl hzr hs' => by
            obtain ⟨w, r, rfl⟩ : ∃ w r, z = w ++ [r] := ⟨_, _, zhN hz⟩
            have hl9 : zeB (w ++ [r]) = r := by unfold zeB; rw [List.getLastD_concat]
            rw [List.dropLast_concat, hl9]
            rw [List.length_append, List.length_singleton] at hzl
            have hlen : (mkZ (w ++ [r])).length = w.length + 1 := by rw [zcg, List.length_append, List.length_singleton]
            have hg : zdk (mkZ (w ++ [r])) (((mkZ (w ++ [r])).length : Int) - 1) = some (r.map mkB) := by
              refine zkr (n := w.length) (by rw [hlen]; omega) ?_
              rw [zfO, List.getElem?_append_right (by rw [zcg]; exact Nat.le_refl _), zcg, Nat.sub_self]; rfl
            have hll : r.length ≤ i := hzr _ (by simp)
            refine zcq ⟨by omega, by rw [hlen]; omega⟩ (za7 hg (zcq ⟨by rw [hv2]; omega, by rw [hv2]; omega⟩ ?_))
            rw [hv1, hv2, znp]
            have hsz : (zcm (ind p.2.2 : Int)).size + (mkB (p.2.2.drop (ind p.2.2))).size ≤ 9223372036854775807 := by
              have : (zcm (ind p.2.2 : Int) ++ mkB (p.2.2.drop (ind p.2.2))).size = (mkB p.2.2).size := by rw [znp]
              rw [ByteArray.size_append, za0 p.2.2] at this
              omega
            refine zcq hsz (zcq (by rw [List.length_map]; omega) ?_)
            have es : (mkZ (w ++ [r])).set (((mkZ (w ++ [r])).length : Int) - 1 : Int).toNat (r.map mkB ++ [mkB p.2.2]) = mkZ (w ++ [r ++ [p.2.2]]) := by
              rw [show (((mkZ (w ++ [r])).length : Int) - 1 : Int).toNat = (mkZ w).length by rw [hlen, zcg]; omega, zfO]
              show ((mkZ w ++ [r.map mkB]).set _ _) = _
              rw [zhx, zfO]
              show _ = _ ++ [(r ++ [p.2.2]).map mkB]
              rw [List.map_append]; rfl
            rw [es]
            refine ih _ s' (by rw [List.length_append, List.length_singleton]; omega) (fun r' h => ?_) (fun _ => by simp)
            rcases List.mem_append.1 h with h | h
            · have := hzr r' (by simp [h]); omega
            · rw [List.mem_singleton] at h; subst h; rw [List.length_append, List.length_singleton]; omega
          by_cases h3 : (p.1 : Int) = s
          · rw [if_neg (by simpa using h3)]
            refine zaP (by rw [hv3, h3]; exact bne_self_eq_false _) ?_
            refine tail out s (hs (by omega)) (by omega) (fun r h => by have := hr r h; omega) (by omega)
          · rw [if_pos h3]
            refine zaY (by rw [hv3]; exact bne_iff_ne.2 h3) (zcq (by rw [zcg]; omega) ?_)
            have h5 := tail (out ++ [[]]) (p.1 : Int) (by simp) (by rw [List.length_append, List.length_singleton]; omega) (fun r h => by
              rcases List.mem_append.1 h with h | h
              · exact hr r h
              · rw [List.mem_singleton] at h; subst h; exact Nat.zero_le _) (by omega)
            have h6 : zeB (out ++ [[]]) = [] := by unfold zeB; rw [List.getLastD_concat]
            rw [List.dropLast_concat, h6, zfO] at h5
            refine Eq.trans ?_ h5
            rw [hv3]; rfl
/-! ### What is cut out -/
def zka (from_ to_ : Nat) : Nat → Row → Row
  | _, [] => []
  | at_, x :: r => if from_ ≤ at_ ∧ at_ < to_ then x :: zka from_ to_ (at_ + 1) r else zka from_ to_ (at_ + 1) r
def zmH (from_ to_ : Nat) : Nat → List Row → List Row
  | _, [] => []
  | at_, r :: z => (if zka from_ to_ at_ r = [] then [] else [zka from_ to_ at_ r]) ++ zmH from_ to_ (at_ + r.length) z
theorem zjR : ∀ (r : Row) (j : Nat), (zfW j r).length = r.length
  | [], j => rfl
  | x :: r, j => by show (zfW (j + 1) r).length + 1 = _; rw [zjR r]; rfl
theorem zhS : ∀ (z : List Row) (k : Nat), (zfv k z).length = tot z
  | [], k => rfl
  | r :: z, k => by
    show ((zfW 0 r).map _ ++ zfv (k + 1) z).length = _
    rw [List.length_append, List.length_map, zjR, zhS z, zdJ]
theorem ziU (from_ to_ k : Nat) (out : List Row) : ∀ (r : Row) (j at_ : Nat) (acc : Row) (L : List LnE), ze2 from_ to_ at_ ((zfW j r).map (fun p => (k, p)) ++ L) (out ++ [acc], (k : Int)) = ze2 from_ to_ (at_ + r.length) L (out ++ [acc ++ zka from_ to_ at_ r], (k : Int))
  | [], j, at_, acc, L => by
    show ze2 from_ to_ at_ L _ = ze2 from_ to_ at_ L (out ++ [acc ++ []], _)
    rw [List.append_nil]
  | x :: r, j, at_, acc, L => by
    show ze2 from_ to_ at_ ((k, j, x) :: ((zfW (j + 1) r).map (fun p => (k, p)) ++ L)) _ = _
    rw [ze2, zka, List.length_cons, show at_ + (r.length + 1) = at_ + 1 + r.length by omega]
    by_cases h : from_ ≤ at_ ∧ at_ < to_
    · rw [if_neg (by omega), if_neg (by simp), if_pos h]
      show ze2 from_ to_ (at_ + 1) _ ((out ++ [acc]).dropLast ++ [zeB (out ++ [acc]) ++ [x]], (k : Int)) = _
      have h6 : zeB (out ++ [acc]) = acc := by unfold zeB; rw [List.getLastD_concat]
      rw [List.dropLast_concat, h6, ziU from_ to_ k out r (j + 1) (at_ + 1) (acc ++ [x]) L, List.append_assoc]; rfl
    · rw [if_pos (by omega), if_neg h, ziU from_ to_ k out r (j + 1) (at_ + 1) acc L]
theorem zjt (from_ to_ k : Nat) (out : List Row) (s : Int) (hs : s ≠ (k : Int)) : ∀ (r : Row) (j at_ : Nat) (L : List LnE), ze2 from_ to_ at_ ((zfW j r).map (fun p => (k, p)) ++ L) (out, s) =
    if zka from_ to_ at_ r = [] then ze2 from_ to_ (at_ + r.length) L (out, s) else ze2 from_ to_ (at_ + r.length) L (out ++ [zka from_ to_ at_ r], (k : Int))
  | [], j, at_, L => by rw [show zka from_ to_ at_ [] = [] from rfl, if_pos rfl]; rfl
  | x :: r, j, at_, L => by
    show ze2 from_ to_ at_ ((k, j, x) :: ((zfW (j + 1) r).map (fun p => (k, p)) ++ L)) _ = _
    rw [ze2, zka, List.length_cons, show at_ + (r.length + 1) = at_ + 1 + r.length by omega]
    by_cases h : from_ ≤ at_ ∧ at_ < to_
    · rw [if_neg (by omega), if_pos (by show (k : Int) ≠ s; omega), if_pos h, if_neg (by simp)]
      exact ziU from_ to_ k out r (j + 1) (at_ + 1) [x] L
    · rw [if_pos (by omega), if_neg h, zjt from_ to_ k out s hs r (j + 1) (at_ + 1) L]
theorem zhB (from_ to_ : Nat) : ∀ (z : List Row) (k at_ : Nat) (out : List Row) (s : Int), s < (k : Int) → (ze2 from_ to_ at_ (zfv k z) (out, s)).1 = out ++ zmH from_ to_ at_ z
  | [], k, at_, out, s, hs => (List.append_nil _).symm
  | r :: z, k, at_, out, s, hs => by
    show (ze2 from_ to_ at_ ((zfW 0 r).map (fun p => (k, p)) ++ zfv (k + 1) z) (out, s)).1 = _
    rw [zjt from_ to_ k out s (by omega), zmH]
    split
    · rw [zhB from_ to_ z (k + 1) _ out s (by omega)]; rfl
    · rw [zhB from_ to_ z (k + 1) _ _ (k : Int) (by omega), List.append_assoc]
theorem zjX (to_ : Nat) : ∀ (r : Row) (at_ : Nat), at_ + r.length ≤ to_ → zka 0 to_ at_ r = r
  | [], at_, h => rfl
  | x :: r, at_, h => by
    rw [List.length_cons] at h
    rw [zka, if_pos ⟨Nat.zero_le _, by omega⟩, zjX to_ r (at_ + 1) (by omega)]
theorem zjW (to_ : Nat) : ∀ (z : List Row) (at_ : Nat), (∀ r ∈ z, r ≠ []) → at_ + tot z ≤ to_ → zmH 0 to_ at_ z = z
  | [], at_, hne, h => rfl
  | r :: z, at_, hne, h => by
    rw [zdJ] at h
    rw [zmH, zjX to_ r at_ (by omega), if_neg (hne r (by simp)), zjW to_ z (at_ + r.length) (fun y hy => hne y (by simp [hy])) (by omega)]
    rfl
/-! ### A poem -/
structure OkP (p : Gpoem_Poem) (t : List UInt8) (z : List Row) : Prop extends GoodP t z where
  title : p.told_title = mkB t
  vok : VOk p.told_lines z
  sp : p.told_stanzas = zgI 0 z
  most : tot z ≤ 512
theorem OkP.len {p : Gpoem_Poem} {t : List UInt8} {z : List Row} (h : OkP p t z) : p.told_lines.length = tot z := by
  have := congrArg List.length h.vok
  rw [List.length_map, List.length_map, zhS] at this
  exact this
theorem PInv.ok {st : RS} (h : PInv st) (src : ByteArray) : OkP (⟨mkB st.t, st.vs, zgI 0 st.stz, src⟩ : Gpoem_Poem) st.t st.stz := ⟨h.good, rfl, h.vok, rfl, by have := h.tot; have := h.most; omega⟩
theorem zjF : ∀ (r : Row) (j : Nat) (p : Nat × List UInt8), p ∈ zfW j r → p.2 ∈ r
  | [], j, p, h => by cases h
  | x :: r, j, p, h => by
    rcases List.mem_cons.1 h with rfl | h
    · simp
    · exact List.mem_cons_of_mem _ (zjF r _ p h)
theorem zjE : ∀ (z : List Row) (k : Nat) (p : LnE), p ∈ zfv k z → ∃ r ∈ z, p.2.2 ∈ r
  | [], k, p, h => by cases h
  | r :: z, k, p, h => by
    rcases List.mem_append.1 (show p ∈ (zfW 0 r).map (fun p => (k, p)) ++ zfv (k + 1) z from h) with h | h
    · obtain ⟨q, hq, rfl⟩ := List.mem_map.1 h
      exact ⟨r, by simp, zjF r 0 q hq⟩
    · obtain ⟨r', h1, h2⟩ := zjE z _ p h
      exact ⟨r', by simp [h1], h2⟩
theorem zoi {p : Gpoem_Poem} {t : List UInt8} {z : List Row} (h : OkP p t z) (from_ to_ : Nat) : zcA p (from_ : Int) (to_ : Int) = some (mkZ (zmH from_ to_ 0 z)) := by
  unfold zcA
  have hm := h.most
  refine zcx (za7 rfl (za7 (zl3 p (by rw [h.len]; omega)) (zcx ?_)))
  have := zlU from_ to_ (fun (out4 : List (List ByteArray)) (stanza3 : Int) => some out4) (zfv 0 z) p.told_lines 0 [] (-1) h.vok (fun q hq => by
    obtain ⟨r, h1, h2⟩ := zjE z 0 q hq
    exact (h.ln r h1 _ h2).le) (by rw [zhS]; omega) (Nat.zero_le _) (fun r h => by cases h) (fun h => absurd rfl h)
  refine this.trans ?_
  rw [zhB from_ to_ z 0 0 [] (-1) (by omega)]
  rfl
theorem znj : ∀ (r : Row), (∀ x ∈ r, x.length ≤ 1024) → wtR r ≤ r.length * 1025
  | [], h => Nat.zero_le _
  | x :: r, h => by
    have h1 := znj r fun y hy => h y (by simp [hy])
    have h2 := h x (by simp)
    rw [zfq, List.length_cons]; omega
theorem zkI : ∀ (z : List Row), (∀ r ∈ z, ∀ x ∈ r, x.length ≤ 1024) → wtZ z ≤ z.length + tot z * 1025
  | [], h => Nat.zero_le _
  | r :: z, h => by
    have h1 := zkI z fun y hy => h y (by simp [hy])
    have h2 := znj r (h r (by simp))
    rw [wtZ_cons, zdJ, List.length_cons]; omega
theorem OkP.wt {p : Gpoem_Poem} {t : List UInt8} {z : List Row} (h : OkP p t z) : t.length + 3 + wtZ z ≤ 1000000 := by
  have h1 := zkI z fun r hr x hx => (h.ln r hr x hx).le
  have h2 := zhv z h.ne
  have h3 := h.most
  have h4 := h.tL
  omega
theorem OkP.full {p : Gpoem_Poem} {t : List UInt8} {z : List Row} (h : OkP p t z) : zcA p 0 (p.told_lines.length : Int) = some (mkZ z) := by
  have := zoi h 0 p.told_lines.length
  rw [zjW _ z 0 h.ne (by rw [h.len]; omega)] at this
  exact this
theorem OkP.print {p : Gpoem_Poem} {t : List UInt8} {z : List Row} (h : OkP p t z) : zcK p = some (mkB (prT t z)) := by
  unfold zcK
  have := h.wt
  refine za7 h.full (za7 ?_ rfl)
  rw [h.title]
  exact zjy t z h.ne (by omega)
end Go.Proofs.YtgfkogafkhbgnaaDoor
namespace Go.Proofs.YtgfkogafkhbgnaaDoor
open Go.RowKit Go.Lib
set_option linter.unusedVariables false
set_option linter.unusedSimpArgs false
theorem zlK : zeb = some true := by decide +kernel
instance {a b : List (ByteArray × Int × Int)} : Decidable (a = b) := inferInstance
end Go.Proofs.YtgfkogafkhbgnaaDoor
namespace Go.Proofs.YtgfkogafkhbgnaaDoor
open Go.RowKit Go.Lib
set_option linter.unusedVariables false
set_option linter.unusedSimpArgs false
theorem eqV (v : Gapi_Verse) : zcu v v = true := (zfk v v).2 rfl
theorem eqS (v : Gapi_Span) : zdt v v = true := (zfD v v).2 rfl
theorem znF {p : Gpoem_Poem} {i : Nat} {v : Gapi_Verse} (h : p.told_lines[i]? = some v) : zbT p (i : Int) = some (v, 0) := by
  have hl := (List.getElem?_eq_some_iff.1 h).1
  unfold zbT
  exact zaP (decide_eq_false (by omega)) (zaP (decide_eq_false (by omega)) (za7 (zcb h) rfl))
theorem zmd (p : Gpoem_Poem) (hb : p.told_lines.length ≤ 1000) (e d : Int → Option Bool) : ∀ (n i : Nat), i + n = p.told_lines.length → zeT d (zdH p p.told_lines e) (zin i (p.told_lines.drop i)) (i : Int) = d (p.told_lines.length : Int)
  | 0, i, h => by
    rw [List.drop_eq_nil_of_le (by omega)]
    show d (i : Int) = _
    rw [show i = p.told_lines.length by omega]
  | n + 1, i, h => by
    have hl : i < p.told_lines.length := by omega
    have hd := List.drop_eq_getElem_cons hl
    have hg : p.told_lines[i]? = some p.told_lines[i] := List.getElem?_eq_getElem hl
    rw [hd]
    show zeT d _ (((i : Int), p.told_lines[i]) :: zin (i + 1) (p.told_lines.drop (i + 1))) _ = _
    rw [zhF]
    have ih := zmd p hb e d n (i + 1) (by omega)
    obtain ⟨ag, hag⟩ : ∃ ag, ag = zeT d (zdH p p.told_lines e) (zin (i + 1) (p.told_lines.drop (i + 1))) := ⟨_, rfl⟩
    rw [← hag] at ih ⊢
    unfold zdH
    refine zaP (decide_eq_false (by omega)) (zaP (bne_self_eq_false _) (za7 (zcb hg) (zaP (by rw [eqV]; rfl) (za7 (znF hg) (zaP rfl (zaP (by show (!(zcu p.told_lines[i] p.told_lines[i])) = false; rw [eqV]; rfl) (zcq ⟨by omega, by omega⟩ ?_)))))))
    rw [show (i : Int) + 1 = ((i + 1 : Nat) : Int) by omega]
    exact ih
theorem zlN : ∀ (z : List Row) (n i : Nat) (r : Row), z[i]? = some r → (zgI n z)[i]? = some ⟨((n + tot (z.take i) : Nat) : Int), ((n + tot (z.take i) + r.length : Nat) : Int)⟩
  | [], n, i, r, h => by simp at h
  | y :: z, n, 0, r, h => by
    have : y = r := by simpa using h
    subst this; rfl
  | y :: z, n, i + 1, r, h => by
    show (zgI (n + y.length) z)[i]? = _
    rw [zlN z (n + y.length) i r (by simpa using h), List.take_succ_cons, zdJ, show n + y.length + tot (z.take i) = n + (y.length + tot (z.take i)) by omega]
theorem zon {p : Gpoem_Poem} {t : List UInt8} {z : List Row} (h : OkP p t z) (J : Option Bool) : ∀ (n i : Nat), i ≤ z.length → z.length - i < n → za2 (fun _ _ => none) (zdz p (⟨mkB t, mkZ z⟩ : Gref17_Poem) J) n (tot (z.take i) : Int) (i : Int) = J := by
  intro n
  induction n with
  | zero => intro i h1 h2; omega
  | succ n ih =>
    intro i hi hn
    rw [zbq]
    obtain ⟨ag, hag⟩ : ∃ ag, ag = za2 (fun _ _ => none) (zdz p (⟨mkB t, mkZ z⟩ : Gref17_Poem) J) n := ⟨_, rfl⟩
    rw [← hag] at ih ⊢
    unfold zdz
    have hm := h.most
    have hzl := zhv z h.ne
    rcases Nat.lt_or_ge i z.length with hl | hl
    · have hz : z[i]? = some z[i] := List.getElem?_eq_getElem hl
      have hg : zdk (mkZ z) (i : Int) = some (z[i].map mkB) := zcb (by unfold mkZ; rw [List.getElem?_map, hz]; rfl)
      have h1 := ziO z i z[i] hz
      have h2 := zgc z (i + 1)
      have hst : zbB p (i : Int) = some ((⟨(tot (z.take i) : Int), (tot (z.take i) : Int) + ((z[i].map mkB).length : Int)⟩ : Gapi_Span), 0) := by
        unfold zbB
        refine zaP (decide_eq_false (by omega)) (zaP (decide_eq_false (by rw [h.sp, zeH]; omega)) (za7 (zcb (by rw [h.sp]; exact zlN z 0 i z[i] hz)) ?_))
        rw [Nat.zero_add, List.length_map]; rfl
      refine zaY (decide_eq_true (by show (i : Int) < ((mkZ z).length : Int); rw [zcg]; omega)) (za7 hg (za7 hst (zaP rfl (zcq (by rw [List.length_map]; exact ⟨by omega, by omega⟩) (zaP (by rw [eqS]; rfl) (zcq (by rw [List.length_map]; exact ⟨by omega, by omega⟩) (zcq ⟨by omega, by omega⟩ ?_)))))))
      rw [List.length_map, show (tot (z.take i) : Int) + (z[i].length : Int) = (tot (z.take (i + 1)) : Int) by omega, show (i : Int) + 1 = ((i + 1 : Nat) : Int) by omega]
      exact ih (i + 1) (by omega) (by omega)
    · exact zaP (decide_eq_false (by show ¬ (i : Int) < ((mkZ z).length : Int); rw [zcg]; omega)) rfl
theorem zkM {R : Type} {F : (Int → Option R) → Int → Option R} {bot : Int → Option R} {J : Option R} (h0 : ∀ ag, F ag 0 = ag 1) (h1 : ∀ ag, F ag 1 = ag 2) (h2 : ∀ ag, F ag 2 = J) : za2 bot F zbG 0 = J := by
  obtain ⟨n, hn, _⟩ := zks 3 (by decide)
  rw [hn, show n + 3 = n + 2 + 1 from rfl, zbq, h0, show n + 2 = n + 1 + 1 from rfl, zbq, h1, zbq, h2]
/-- All that is told of a poem. -/
theorem zpV {p : Gpoem_Poem} {t : List UInt8} {z : List Row} (h : OkP p t z) : zfh p p.source (⟨mkB t, mkZ z⟩ : Gref17_Poem) p.told_lines = some true := by
  unfold zfh
  have hm := h.most
  have hl := h.len
  have hw := h.wt
  have hzl := zhv z h.ne
  refine za7 rfl ?_
  refine zaP (by simp) ?_
  refine za7 rfl ?_
  refine zaP (by rw [h.title]; simp) ?_
  refine za7 rfl ?_
  refine zaP (bne_self_eq_false _) ?_
  refine za7 rfl ?_
  refine zaP ?_ ?_
  · show (((p.told_stanzas.length : Int) : Int) != ((mkZ z).length : Int)) = false
    rw [h.sp, zeH, zcg]; exact bne_self_eq_false _
  refine za7 h.print ?_
  refine za7 (zgQ t z h.ne (by omega)) ?_
  refine zaP (by simp) ?_
  refine zcx ?_
  refine za7 rfl ?_
  refine za7 (zl3 p (by omega)) ?_
  refine zcx (zcx ?_)
  · have := zmd p (by omega) (fun (i5 : Int) => some false) (fun (i4 : Int) => (zbE (fun (j2 : Option Bool) => za2 (fun _ _ => none) (zdz p (⟨mkB t, mkZ z⟩ : Gref17_Poem) j2) zbG 0 0) (zbE (fun (j3 : Option Bool) => za2 (fun _ => none) (zcO p p.told_lines j3) zbG 0) (zbE (fun (j4 : Option Bool) => za2 (fun _ => none) (zcN p (⟨mkB t, mkZ z⟩ : Gref17_Poem) j4) zbG 0) (some ((i4 : Int) == (p.told_lines.length : Int))))))) p.told_lines.length 0 (Nat.zero_add _)
    rw [List.drop_zero] at this
    refine this.trans ?_
    have h2 := zon h (zbE (fun (j3 : Option Bool) => za2 (fun _ => none) (zcO p p.told_lines j3) zbG 0) (zbE (fun (j4 : Option Bool) => za2 (fun _ => none) (zcN p (⟨mkB t, mkZ z⟩ : Gref17_Poem) j4) zbG 0) (some (((p.told_lines.length : Int) : Int) == (p.told_lines.length : Int))))) zbG 0 (Nat.zero_le _) (by unfold zbG; omega)
    refine zcx (h2.trans (zcx ?_))
    have no1 : zbT p (-1) = some ((⟨ByteArray.empty, 0, 0, 0, 0, 0⟩ : Gapi_Verse), 5) := by
      unfold zbT; exact zaY rfl rfl
    have no2 : zbT p (p.told_lines.length : Int) = some ((⟨ByteArray.empty, 0, 0, 0, 0, 0⟩ : Gapi_Verse), 5) := by
      unfold zbT; exact zaP (decide_eq_false (by omega)) (zaY (decide_eq_true (by omega)) rfl)
    have no3 : zbB p (-1) = some ((⟨0, 0⟩ : Gapi_Span), 5) := by
      unfold zbB; exact zaY rfl rfl
    have no4 : zbB p ((mkZ z).length : Int) = some ((⟨0, 0⟩ : Gapi_Span), 5) := by
      unfold zbB; exact zaP (decide_eq_false (by omega)) (zaY (decide_eq_true (by rw [h.sp, zeH, zcg]; omega)) rfl)
    have l3 : ∀ J : Option Bool, za2 (fun _ => none) (zcO p p.told_lines J) zbG 0 = J := fun J => by
      refine zkM (fun ag => ?_) (fun ag => ?_) (fun ag => ?_)
      · unfold zcO
        exact zaY (by simp) (za7 rfl (za7 no1 (zaP (by rw [eqV]; rfl) (zaP rfl (zcq ⟨by decide, by decide⟩ rfl)))))
      · unfold zcO
        exact zaY (by simp) (za7 rfl (za7 no2 (zaP (by rw [eqV]; rfl) (zaP rfl (zcq ⟨by decide, by decide⟩ rfl)))))
      · unfold zcO
        exact zaP (by simp) rfl
    have l4 : ∀ J : Option Bool, za2 (fun _ => none) (zcN p (⟨mkB t, mkZ z⟩ : Gref17_Poem) J) zbG 0 = J := fun J => by
      refine zkM (fun ag => ?_) (fun ag => ?_) (fun ag => ?_)
      · unfold zcN
        exact zaY (by simp) (za7 rfl (za7 no3 (zaP (by rw [eqS]; rfl) (zaP rfl (zcq ⟨by decide, by decide⟩ rfl)))))
      · unfold zcN
        exact zaY (by simp) (za7 rfl (za7 no4 (zaP (by rw [eqS]; rfl) (zaP rfl (zcq ⟨by decide, by decide⟩ rfl)))))
      · unfold zcN
        exact zaP (by simp) rfl
    refine (l3 _).trans (zcx ((l4 _).trans ?_))
    exact congrArg some (beq_self_eq_true _)
/-- A poem that is made. -/
theorem zjH {t : List UInt8} {z : List Row} (h : GoodP t z) (hn : tot z ≤ 512) (hl : (prT t z).length ≤ 65536) : ∃ p, zc7 (mkB t) (mkZ z) = some (some p, 0) ∧ OkP p t z ∧ p.source = mkB (prT t z) ∧
    zc8 (mkB (prT t z)) = some (some p, (⟨0, 0⟩ : Gapi_Spot)) ∧ zdo (mkB (prT t z)) = some ((⟨mkB t, mkZ z⟩ : Gref17_Poem), p.told_lines, (⟨0, 0⟩ : Gapi_Spot)) := by
  obtain ⟨st, h1, h2, h3⟩ := zmP h hn hl
  obtain ⟨hI, _⟩ := zpb h1
  have hwt := zkI z fun r hr x hx => (h.ln r hr x hx).le
  have h4 := zhv z h.ne
  have h5 := h.tL
  have hr := zoj (prT t z)
  have hrr := zlV (prT t z)
  rw [h1] at hr hrr
  have hok := hI.ok (mkB (prT t z))
  rw [h2, h3] at hok
  refine ⟨(⟨mkB st.t, st.vs, zgI 0 st.stz, mkB (prT t z)⟩ : Gpoem_Poem), ?_, by rw [h2, h3]; exact hok, rfl, hr, ?_⟩
  · rw [zl9 t z h.ne (by omega), if_neg (by omega), hr]; rfl
  · rw [hrr]
    show some ((⟨mkB st.t, mkZ st.stz⟩ : Gref17_Poem), st.vs, _) = _
    rw [h2, h3]
theorem ziB {p : Gpoem_Poem} {t : List UInt8} {z : List Row} (h : OkP p t z) (hs : p.source = mkB (prT t z)) (hr : zdo (mkB (prT t z)) = some ((⟨mkB t, mkZ z⟩ : Gref17_Poem), p.told_lines, (⟨0, 0⟩ : Gapi_Spot))) :
    zdh (some p) 0 (⟨mkB t, mkZ z⟩ : Gref17_Poem) 0 = some true := by
  show zec p 0 (⟨mkB t, mkZ z⟩ : Gref17_Poem) 0 = some true
  unfold zec
  have hw := h.wt
  refine zaP rfl (za7 (zgQ t z h.ne (by omega)) (za7 hr (zaY rfl (za7 ?_ rfl))))
  rw [← hs]
  exact zpV h
theorem zfX (e : Int) (he : e ≠ 0) (w : Gref17_Poem) : zdh none e w e = some true := by
  show zdi e w e = some true
  unfold zdi
  exact zaY (bne_iff_ne.2 he) (congrArg some (beq_self_eq_true _))
/-- Program and reference agree on what comes of a poem. -/
def Agree (x : Option (Option Gpoem_Poem × Int)) (y : Option (Gref17_Poem × Int)) : Prop := ∃ m e w, x = some (m, e) ∧ y = some (w, e) ∧ zdh m e w e = some true
def noP : Gref17_Poem := ⟨ByteArray.empty, ([] : List (List ByteArray))⟩
theorem zmE (e : Int) (he : e ≠ 0) : Agree (some (none, e)) (some (noP, e)) := ⟨none, e, noP, rfl, rfl, zfX e he _⟩
theorem zlF {t : List UInt8} {z : List Row} (h : GoodP t z) (hn : tot z ≤ 512) : Agree (zc7 (mkB t) (mkZ z)) (if 65536 < (prT t z).length then some (noP, 3) else some ((⟨mkB t, mkZ z⟩ : Gref17_Poem), 0)) := by
  have hwt := zkI z fun r hr x hx => (h.ln r hr x hx).le
  have h4 := zhv z h.ne
  have h5 := h.tL
  by_cases hl : 65536 < (prT t z).length
  · rw [if_pos hl, zl9 t z h.ne (by omega), if_pos (.inr hl)]
    exact zmE 3 (by decide)
  · rw [if_neg hl]
    obtain ⟨p, h1, h2, h3, h6, h7⟩ := zjH h hn (by omega)
    exact ⟨some p, 0, _, h1, rfl, ziB h2 h3 h7⟩
end Go.Proofs.YtgfkogafkhbgnaaDoor
namespace Go.Proofs.YtgfkogafkhbgnaaDoor
open Go.RowKit Go.Lib
set_option linter.unusedVariables false
set_option linter.unusedSimpArgs false
/-! ### Cutting -/
theorem zja (a b : Nat) : ∀ (r : Row) (i : Nat), ∀ x ∈ zka a b i r, x ∈ r
  | [], i, x, h => by cases h
  | y :: r, i, x, h => by
    rw [zka] at h
    split at h
    · rcases List.mem_cons.1 h with rfl | h
      · simp
      · exact List.mem_cons_of_mem _ (zja a b r _ x h)
    · exact List.mem_cons_of_mem _ (zja a b r _ x h)
theorem zk0 (a b : Nat) : ∀ (r : Row) (i : Nat), (zka a b i r).length ≤ r.length
  | [], i => Nat.le_refl _
  | y :: r, i => by
    rw [zka, List.length_cons]
    have := zk0 a b r (i + 1)
    split
    · rw [List.length_cons]; omega
    · omega
theorem zi9 (a b : Nat) : ∀ (z : List Row) (i : Nat), (∀ r ∈ zmH a b i z, r ≠ [] ∧ ∃ r' ∈ z, ∀ x ∈ r, x ∈ r') ∧ tot (zmH a b i z) ≤ tot z
  | [], i => ⟨(fun r h => by cases h), Nat.le_refl _⟩
  | y :: z, i => by
    obtain ⟨h1, h2⟩ := zi9 a b z (i + y.length)
    have hl := zk0 a b y i
    rw [zmH, zgL, zdJ]
    constructor
    · intro r hr
      rcases List.mem_append.1 hr with hr | hr
      · split at hr
        · cases hr
        · rename_i hne
          rw [List.mem_singleton] at hr
          subst hr
          exact ⟨hne, y, by simp, zja a b y i⟩
      · obtain ⟨h3, r', h4, h5⟩ := h1 r hr
        exact ⟨h3, r', by simp [h4], h5⟩
    · split
      · show 0 + _ ≤ _; omega
      · rw [zgK]; omega
theorem GoodP.cut {t : List UInt8} {z : List Row} (h : GoodP t z) (a b : Nat) : GoodP t (zmH a b 0 z) :=
  ⟨h.tE, h.tL, fun r hr => ((zi9 a b z 0).1 r hr).1, fun r hr x hx => by
    obtain ⟨_, r', h1, h2⟩ := (zi9 a b z 0).1 r hr
    exact h.ln r' h1 x (h2 x hx)⟩
theorem GoodP.app {t : List UInt8} {z z' : List Row} (h : GoodP t z) {t' : List UInt8} (h' : GoodP t' z') : GoodP t (z ++ z') :=
  ⟨h.tE, h.tL, (fun r hr => (List.mem_append.1 hr).elim (h.ne r) (h'.ne r)), (fun r hr => (List.mem_append.1 hr).elim (h.ln r) (h'.ln r))⟩
end Go.Proofs.YtgfkogafkhbgnaaDoor
namespace Go.Proofs.YtgfkogafkhbgnaaDoor
open Go.RowKit Go.Lib
set_option linter.unusedVariables false
set_option linter.unusedSimpArgs false
def zlG (l : List UInt8) : Bool := !(l.any isE) && (decide (l.length ≤ 1024) && !zgj l)
theorem zmO (l : List UInt8) (h : l.length ≤ 140737488355328) : zeS (mkB l) = some (zlG l) := by
  unfold zeS
  refine zcx ?_
  refine (zhX l (fun b => if isE b then some (some false) else none) (zaO (decide (((mkB l).size : Int) ≤ 1024)) (zaE (zcX (mkB l)) fun (r1 : Bool) => some (!r1)) (some false)) (fun ag i b t hd => ?_) (fun ag => ?_) zbG 0 (Nat.zero_le _) (by unfold zbG; omega)).trans ?_
  · unfold zdG
    obtain ⟨hb, hlt⟩ := zel (s := mkB l) hd
    refine zaY (decide_eq_true (by omega)) (za7 hb ?_)
    rw [za0] at hlt
    unfold isE
    by_cases h10 : b = 10
    · subst h10; exact zaY rfl rfl
    · refine zaP (by rw [n10]; exact decide_eq_false h10) ?_
      by_cases h13 : b = 13
      · subst h13; exact zaY rfl rfl
      · refine zaP (by rw [n13]; exact decide_eq_false h13) (zcq ⟨by omega, by omega⟩ ?_)
        rw [beq_eq_false_iff_ne.2 h10, beq_eq_false_iff_ne.2 h13, show (i : Int) + 1 = ((i + 1 : Nat) : Int) by omega]
        rfl
  · unfold zdG
    exact zaP (decide_eq_false (by rw [za0]; omega)) rfl
  · rw [List.drop_zero]
    have key : ∀ (l : List UInt8) (X : Option Bool), (l.findSome? (fun b => if isE b then some (some false) else none)).getD X = if l.any isE then some false else X := by
      intro l X
      induction l with
      | nil => rfl
      | cons b l ih =>
        rw [List.findSome?_cons, List.any_cons]
        cases hb : isE b with
        | true => rfl
        | false => simpa using ih
    rw [key]
    unfold zlG
    cases ha : l.any isE with
    | true => rfl
    | false =>
      by_cases hl : l.length ≤ 1024
      · rw [decide_eq_true hl]
        exact zaY (decide_eq_true (by rw [za0]; omega)) (za7 (zix l (by omega)) (by simp))
      · rw [decide_eq_false hl]
        exact zaP (decide_eq_false (by rw [za0]; omega)) rfl
theorem zkm (l : List UInt8) (n : Nat) : zjG (mkB l) (n : Int) = (decide (l.length ≤ n) && !(l.any isE)) := by
  unfold zjG ziG
  rw [zfZ, za0]
  congr 1
  exact decide_eq_decide.2 (by omega)
theorem zna {l : List UInt8} (h : zlG l = true) : GLn l := by
  unfold zlG at h
  rw [Bool.and_eq_true, Bool.and_eq_true] at h
  refine ⟨by simpa using h.2.2, by simpa using h.2.1, fun b hb => ?_⟩
  have h1 : l.any isE = false := by simpa using h.1
  rw [List.any_eq_false] at h1
  simpa using h1 b hb
theorem GoodP.set {t : List UInt8} {z : List Row} (h : GoodP t z) {k i : Nat} {r : Row} {x l : List UInt8} (hk : z[k]? = some r) (hi : r[i]? = some x) (hl : GLn l) : GoodP t (z.set k (r.set i l)) := by
  refine ⟨h.tE, h.tL, fun y hy => ?_, fun y hy w hw => ?_⟩
  · rcases List.mem_or_eq_of_mem_set hy with hy | rfl
    · exact h.ne y hy
    · intro e
      have : (r.set i l).length = 0 := by rw [e]; rfl
      rw [List.length_set] at this
      have h2 := (List.getElem?_eq_some_iff.1 hi).1
      omega
  · rcases List.mem_or_eq_of_mem_set hy with hy | rfl
    · exact h.ln y hy w hw
    · rcases List.mem_or_eq_of_mem_set hw with hw | rfl
      · exact h.ln r (List.mem_of_getElem? hk) w hw
      · exact hl
end Go.Proofs.YtgfkogafkhbgnaaDoor
namespace Go.Proofs.YtgfkogafkhbgnaaDoor
open Go.RowKit Go.Lib
set_option linter.unusedVariables false
set_option linter.unusedSimpArgs false
end Go.Proofs.YtgfkogafkhbgnaaDoor
namespace Go.Proofs.YtgfkogafkhbgnaaDoor
open Go.RowKit Go.Lib
set_option linter.unusedVariables false
set_option linter.unusedSimpArgs false
theorem zhr {R α : Type} {F : (Int → Option R) → Int → Option R} (r : List α) (f : α → Bool) (E J : Option R) (hs : ∀ ag (i : Nat) x, r[i]? = some x → F ag (i : Int) = if f x = true then ag ((i + 1 : Nat) : Int) else E) (he : ∀ ag, F ag (r.length : Int) = J) :
    ∀ n i, i ≤ r.length → r.length - i < n → za2 (fun _ => none) F n (i : Int) = if (r.drop i).all f = true then J else E := by
  intro n
  induction n with
  | zero => intro i h1 h2; omega
  | succ n ih =>
    intro i hi hn
    rw [zbq]
    rcases Nat.lt_or_ge i r.length with h | h
    · rw [hs _ i _ (List.getElem?_eq_getElem h), ih (i + 1) (by omega) (by omega), List.drop_eq_getElem_cons h, List.all_cons]
      cases f r[i] <;> simp
    · obtain rfl : i = r.length := by omega
      rw [he, List.drop_length]; rfl
def zhC (r : Row) : Bool := !r.isEmpty && r.all zlG
theorem zol (t : List UInt8) (z : List Row) (hz : z.length ≤ 140737488355328) (hr : ∀ r ∈ z, r.length ≤ 140737488355328 ∧ ∀ x ∈ r, x.length ≤ 140737488355328) : zej (mkB t) (mkZ z) = if zjG (mkB t) 1022 = true then (if z.all zhC = true then zc7 (mkB t) (mkZ z) else some (none, 170)) else some (none, 170) := by
  unfold zej
  cases ht : zjG (mkB t) 1022 with
  | false => exact zaY rfl rfl
  | true =>
    rw [if_pos rfl]
    refine zaP rfl (zcx ?_)
    have key : ∀ J : Option ((Option Gpoem_Poem) × Int), za2 (fun _ => none) (zc0 (mkZ z) J) zbG 0 = if z.all zhC = true then J else some (none, 170) := fun J => by
      have := zhr (F := zc0 (mkZ z) J) z zhC (some (none, 170)) J (fun ag i r hi => ?_) (fun ag => ?_) zbG 0 (Nat.zero_le _) (by unfold zbG; omega)
      · rw [List.drop_zero] at this; exact this
      · unfold zc0
        have hil := (List.getElem?_eq_some_iff.1 hi).1
        have hg : zdk (mkZ z) (i : Int) = some (r.map mkB) := zcb (by unfold mkZ; rw [List.getElem?_map, hi]; rfl)
        obtain ⟨hrl, hrx⟩ := hr r (List.mem_of_getElem? hi)
        refine zaY (decide_eq_true (by show (i : Int) < ((mkZ z).length : Int); rw [zcg]; omega)) (zcx (za7 hg ?_))
        have go : (grd (I64 ((i : Int) + 1)) <| ag ((i : Int) + 1)) = ag ((i + 1 : Nat) : Int) := zcq ⟨by omega, by omega⟩ (by rw [show (i : Int) + 1 = ((i + 1 : Nat) : Int) by omega])
        rw [go]
        cases r with
        | nil => exact zaY rfl rfl
        | cons y r =>
          refine zaP (by rw [List.length_map]; exact beq_eq_false_iff_ne.2 (by rw [List.length_cons]; omega)) ?_
          have hin := zhr (F := zdr (ag ((i + 1 : Nat) : Int)) ((y :: r).map mkB)) (y :: r) zlG (some (none, 170)) (ag ((i + 1 : Nat) : Int)) (fun ag2 k x hk => ?_) (fun ag2 => ?_) zbG 0 (Nat.zero_le _) (by unfold zbG; omega)
          · rw [List.drop_zero] at hin
            refine hin.trans ?_
            unfold zhC
            simp
          · unfold zdr
            have hkl := (List.getElem?_eq_some_iff.1 hk).1
            have hgk : zdk ((y :: r).map mkB) (k : Int) = some (mkB x) := zcb (by rw [List.getElem?_map, hk]; rfl)
            have hxl := hrx x (List.mem_of_getElem? hk)
            refine zaY (decide_eq_true (by rw [List.length_map]; omega)) (za7 hgk ?_)
            have hmay := zkm x 1024
            rw [show ((1024 : Nat) : Int) = 1024 from rfl] at hmay
            cases hm : zjG (mkB x) 1024 with
            | false =>
              have : zlG x = false := by
                unfold zlG
                rw [hmay] at hm
                cases h1 : decide (x.length ≤ 1024) <;> cases h2 : x.any isE <;> simp_all
              rw [this]; exact zaY rfl rfl
            | true =>
              refine zaP rfl (za7 (zmq x (by omega)) ?_)
              have : zlG x = !zgj x := by
                unfold zlG
                rw [hmay, Bool.and_eq_true] at hm
                rw [hm.1, hm.2]; simp
              rw [this]
              cases zgj x with
              | true => exact zaY rfl rfl
              | false => exact zaP rfl (zcq ⟨by omega, by omega⟩ (by rw [show (k : Int) + 1 = ((k + 1 : Nat) : Int) by omega]; rfl))
          · unfold zdr
            exact zaP (decide_eq_false (by rw [List.length_map]; omega)) rfl
      · unfold zc0
        exact zaP (decide_eq_false (by show ¬ (z.length : Int) < ((mkZ z).length : Int); rw [zcg]; omega)) rfl
    rw [key]
    generalize zc7 (mkB t) (mkZ z) = o
    cases o <;> rfl
theorem zle (l : List UInt8) (h : l.length ≤ 140737488355328) : zd8 (mkB l) = some (zjG (mkB l) 1022) := by
  unfold zd8
  refine zcx ?_
  refine (zhX l (fun b => if isE b then some (some false) else none) (some (decide (((mkB l).size : Int) ≤ 1022))) (fun ag i b t hd => ?_) (fun ag => ?_) zbG 0 (Nat.zero_le _) (by unfold zbG; omega)).trans ?_
  · unfold zc4
    obtain ⟨hb, hlt⟩ := zel (s := mkB l) hd
    refine zaY (decide_eq_true (by omega)) (za7 hb ?_)
    rw [za0] at hlt
    unfold isE
    by_cases h10 : b = 10
    · subst h10; exact zaY rfl rfl
    · refine zaP (by rw [n10]; exact decide_eq_false h10) ?_
      by_cases h13 : b = 13
      · subst h13; exact zaY rfl rfl
      · refine zaP (by rw [n13]; exact decide_eq_false h13) (zcq ⟨by omega, by omega⟩ ?_)
        rw [beq_eq_false_iff_ne.2 h10, beq_eq_false_iff_ne.2 h13, show (i : Int) + 1 = ((i + 1 : Nat) : Int) by omega]
        rfl
  · unfold zc4
    exact zaP (decide_eq_false (by rw [za0]; omega)) rfl
  · rw [List.drop_zero]
    have key : ∀ (l : List UInt8) (X : Option Bool), (l.findSome? (fun b => if isE b then some (some false) else none)).getD X = if l.any isE then some false else X := by
      intro l X
      induction l with
      | nil => rfl
      | cons b l ih =>
        rw [List.findSome?_cons, List.any_cons]
        cases hb : isE b with
        | true => rfl
        | false => simpa using ih
    rw [key]
    have hmay := zkm l 1022
    rw [show ((1022 : Nat) : Int) = 1022 from rfl] at hmay
    rw [hmay, za0]
    cases l.any isE with
    | true => simp
    | false =>
      rw [if_neg (by decide)]
      congr 1
      simp
      omega
theorem zlW (t : List UInt8) (z : List Row) (hz : z.length ≤ 140737488355328) (ht : t.length ≤ 140737488355328) (hr : ∀ r ∈ z, r.length ≤ 140737488355328 ∧ ∀ x ∈ r, x.length ≤ 140737488355328) (A : Option Int) (hA : (zaE (zdv (⟨mkB t, mkZ z⟩ : Gref17_Poem)) fun (r3 : Int) => zaO (decide ((512 : Int) < r3)) (some 3) (zaE (zcC (⟨mkB t, mkZ z⟩ : Gref17_Poem)) fun (r4 : ByteArray) => zaO (decide ((65536 : Int) < (r4.size : Int))) (some 3) (some 0))) = A) :
    zd0 (mkB t) (mkZ z) = if zjG (mkB t) 1022 = true then (if z.all zhC = true then A else some 170) else some 170 := by
  unfold zd0
  refine za7 (zle t ht) ?_
  cases htt : zjG (mkB t) 1022 with
  | false => exact zaY rfl rfl
  | true =>
    rw [if_pos rfl]
    refine zaP rfl (zcx ?_)
    rw [hA]
    have key : ∀ J : Option Int, za2 (fun _ => none) (zcD (mkZ z) J) zbG 0 = if z.all zhC = true then J else some 170 := fun J => by
      have := zhr (F := zcD (mkZ z) J) z zhC (some 170) J (fun ag i r hi => ?_) (fun ag => ?_) zbG 0 (Nat.zero_le _) (by unfold zbG; omega)
      · rw [List.drop_zero] at this; exact this
      · unfold zcD
        have hil := (List.getElem?_eq_some_iff.1 hi).1
        have hg : zdk (mkZ z) (i : Int) = some (r.map mkB) := zcb (by unfold mkZ; rw [List.getElem?_map, hi]; rfl)
        obtain ⟨hrl, hrx⟩ := hr r (List.mem_of_getElem? hi)
        refine zaY (decide_eq_true (by show (i : Int) < ((mkZ z).length : Int); rw [zcg]; omega)) (zcx (za7 hg ?_))
        have go : (grd (I64 ((i : Int) + 1)) <| ag ((i : Int) + 1)) = ag ((i + 1 : Nat) : Int) := zcq ⟨by omega, by omega⟩ (by rw [show (i : Int) + 1 = ((i + 1 : Nat) : Int) by omega])
        rw [go]
        cases r with
        | nil => exact zaY rfl rfl
        | cons y r =>
          refine zaP (by rw [List.length_map]; exact beq_eq_false_iff_ne.2 (by rw [List.length_cons]; omega)) ?_
          have hin := zhr (F := zcW (mkZ z) (i : Int) (ag ((i + 1 : Nat) : Int))) (y :: r) zlG (some 170) (ag ((i + 1 : Nat) : Int)) (fun ag2 k x hk => ?_) (fun ag2 => ?_) zbG 0 (Nat.zero_le _) (by unfold zbG; omega)
          · rw [List.drop_zero] at hin
            refine hin.trans ?_
            unfold zhC
            simp
          · unfold zcW
            have hkl := (List.getElem?_eq_some_iff.1 hk).1
            have hgk : zdk ((y :: r).map mkB) (k : Int) = some (mkB x) := zcb (by rw [List.getElem?_map, hk]; rfl)
            have hxl := hrx x (List.mem_of_getElem? hk)
            refine za7 hg (zaY (decide_eq_true (by rw [List.length_map]; omega)) (za7 hg (za7 hgk (za7 (zmO x (by omega)) ?_))))
            cases zlG x with
            | false => exact zaY rfl rfl
            | true => exact zaP rfl (zcq ⟨by omega, by omega⟩ (by rw [show (k : Int) + 1 = ((k + 1 : Nat) : Int) by omega]; rfl))
          · unfold zcW
            exact za7 hg (zaP (decide_eq_false (by rw [List.length_map]; omega)) rfl)
      · unfold zcD
        exact zaP (decide_eq_false (by show ¬ (z.length : Int) < ((mkZ z).length : Int); rw [zcg]; omega)) rfl
    exact key A
end Go.Proofs.YtgfkogafkhbgnaaDoor
namespace Go.Proofs.YtgfkogafkhbgnaaDoor
open Go.RowKit Go.Lib
set_option linter.unusedVariables false
set_option linter.unusedSimpArgs false
def za9 (s1x1 : List ByteArray) (s2x1 : List ByteArray) (j1 : Option Bool) (ag1 : Int → Option Bool) (x3 : Int) : Option Bool :=
zaO (decide ((x3 : Int) < (s1x1.length : Int))) (
zaE (zdk s1x1 x3) fun (q1 : ByteArray) =>
zaE (zdk s2x1 x3) fun (q2 : ByteArray) =>
zaO (!decide (q1 = q2)) (
some false
) (
grd (I64 (x3 + 1)) <|
ag1 (x3 + 1)
)
) (
j1
)
def zbD (s1x1 : List ByteArray) (s2x1 : List ByteArray) : Option Bool :=
zaO (((s1x1.length : Int) : Int) != (s2x1.length : Int)) (
some false
) (
zbE (fun (j1 : Option Bool) =>
za2 (fun _ => none) (za9 s1x1 s2x1 j1) zbG 0
) (
some true
)
)
theorem zeh {vvs1x1 vs1x1 : Value} {Ls1x1 : List ByteArray} {ks1x1 : Nat} {s1x1 : List ByteArray} (hws1x1 : Vw vvs1x1 Ls1x1 1 ks1x1 vs1x1 s1x1) {vvs2x1 vs2x1 : Value} {Ls2x1 : List ByteArray} {ks2x1 : Nat} {s2x1 : List ByteArray} (hws2x1 : Vw vvs2x1 Ls2x1 1 ks2x1 vs2x1 s2x1) {r : Bool} (h : zbD s1x1 s2x1 = some r) : FnR Tryd.prog 26 [vs1x1, vs2x1] [roRow encS 1 vvs1x1 ks1x1 Ls1x1, roRow encS 1 vvs2x1 ks2x1 Ls2x1] [] (fun _ : Unit => (.bool r)) (fun _ => []) := by
 unfold zbD at h
 refine FnR.intro Tryd.func26 rfl Tryd.ntmps26 (by simp) ?_
 intro w0 K hrd
 refine zak (zae (zai rfl dc rfl (zaj (zah (zak (zak (zae (zaf rfl dc rfl (zbt hws1x1 rfl dc rfl Tryd.underlying48 (zaf rfl dc rfl (zbt hws2x1 rfl dc rfl Tryd.underlying48 (zau rfl dc rfl rfl zbu (zaj ?_)))))))))))))
 refine zah ?_
 refine zaI rfl (fun hb1 => ?_) (fun hb1 => ?_)
 ·
  have h := zaT hb1 h
  refine zak (zae (zai rfl dc rfl (zaj (zah (zaQ (zas ?_))))))
  cases h
  exact zaW (rs := [.tmp 4]) () (.inl rfl) Tryd.results26 (.cons (.tmp rfl) .nil) rfl Splits.nil
 ·
  have h := zaU hb1 h
  refine zaK (zah ?_)
  obtain ⟨j1, hj1, h⟩ := zcc h
  refine zbf (β := Unit) 0 rfl (fun b => j1 = some r) (fun b => []) (fun b => []) (fun b => []) (fun cut => ?_) ?_
  ·
   refine cut (zak (zae (zaf rfl dc rfl (zbt hws1x1 rfl dc rfl Tryd.underlying48 (zaf rfl dc rfl (zaj (zah (zaS ?_))))))))
   refine zbx (β := Nat × Int) (fun b => za2 (fun _ => none) (za9 s1x1 s2x1 j1) b.1 b.2 = some r) (fun b => []) (fun b => [(0, vs1x1), (1, vs2x1), (12, zI (s1x1.length : Int)), (13, zI b.2)]) (fun b => []) (fun b => b.1) (zbG, 0) h rfl (zab rfl (zab rfl (zab rfl (zab rfl (zay))))) Splits.nil ?_
   rintro ⟨n1, x3⟩ h
   cases n1 with
   | zero => exact zdy h
   | succ n1 =>
    obtain ⟨ag1, hag1⟩ : ∃ ag, ag = za2 (fun _ => none) (za9 s1x1 s2x1 j1) n1 := ⟨_, rfl⟩
    have h : za9 s1x1 s2x1 j1 ag1 x3 = some r := by rw [hag1]; exact h
    unfold za9 at h
    show TC _ _ _ _ _ ([]) _ _ [(0, vs1x1), (1, vs2x1), (12, zI (s1x1.length : Int)), (13, zI x3)] []
    refine zak (zae (zau rfl dc rfl rfl zbA (zaj (zah (zak ?_)))))
    refine zaI rfl (fun hb2 => ?_) (fun hb2 => ?_)
    ·
     have h := zaT hb2 h
     refine zaK (zah (zak (zaS (zak (zae (zaf rfl dc rfl (zai rfl dc rfl (zaj (zah (zak ?_))))))))))
     obtain ⟨q1, hq1, h⟩ := zbN h
     obtain ⟨q2, hq2, h⟩ := zbN h
     refine zb0 8 [(0, 16, vs1x1), (1, 17, zI x3), (2, 18, .pointer (some ⟨zeD vvs1x1, (ks1x1 + (x3 : Int).toNat) * 1, none⟩)), (3, 19, .string q1), (4, 20, vs2x1), (5, 21, zI x3), (6, 22, .pointer (some ⟨zeD vvs2x1, (ks2x1 + (x3 : Int).toNat) * 1, none⟩)), (7, 23, .string q2)] mixed kr kr dc (by rfl) kr kr (zad ?_ (zad ?_ (zad ?_ (zad ?_ (zad ?_ (zad ?_ (zad ?_ (zad ?_ DrawPre.nil)))))))) ?_
     ·
      intro D hn hd hcl hu hi
      refine zaf rfl dc (zaL (by rfl) rfl) ?_
      exact zag 0 hu hi rfl
     ·
      intro D hn hd hcl hu hi
      refine zaf rfl dc (zaL (by rfl) rfl) ?_
      exact zag 1 hu hi rfl
     ·
      intro D hn hd hcl hu hi
      refine zbd hws1x1 hq1 Tryd.underlying48 zk9 rfl dc (zac (m := 0) hu rfl (hd 0 dc)) (zac (m := 1) hu rfl (hd 1 dc)) rfl ?_
      exact zag 2 hu hi rfl
     ·
      intro D hn hd hcl hu hi
      refine zbm (n := ks1x1 + (x3 : Int).toNat) (j := 0) (i := 0) (q := q1) hrd rfl (by omega) zgN rfl dc (zac (m := 2) hu rfl (hd 2 dc)) (Vw.get hws1x1 hq1) rfl rfl ?_
      exact zag 3 hu hi rfl
     ·
      intro D hn hd hcl hu hi
      refine zaf rfl dc (zaL (by rfl) rfl) ?_
      exact zag 4 hu hi rfl
     ·
      intro D hn hd hcl hu hi
      refine zaf rfl dc (zaL (by rfl) rfl) ?_
      exact zag 5 hu hi rfl
     ·
      intro D hn hd hcl hu hi
      refine zbd hws2x1 hq2 Tryd.underlying48 zk9 rfl dc (zac (m := 4) hu rfl (hd 4 dc)) (zac (m := 5) hu rfl (hd 5 dc)) rfl ?_
      exact zag 6 hu hi rfl
     ·
      intro D hn hd hcl hu hi
      refine zbm (n := ks2x1 + (x3 : Int).toNat) (j := 0) (i := 1) (q := q2) hrd rfl (by omega) zgN rfl dc (zac (m := 6) hu rfl (hd 6 dc)) (Vw.get hws2x1 hq2) rfl rfl ?_
      exact zag 7 hu hi rfl
     refine zau rfl dc rfl rfl zcS (zaj (zah ?_))
     refine zaI rfl (fun hb3 => ?_) (fun hb3 => ?_)
     ·
      have h := zaT hb3 h
      refine zak (zae (zai rfl dc rfl (zaj (zah (zaQ (zaw (zas (zas (zaw (zas ?_))))))))))
      cases h
      exact zaW (rs := [.tmp 4]) () (.inl rfl) Tryd.results26 (.cons (.tmp rfl) .nil) rfl Splits.nil
     ·
      have h := zaU hb3 h
      refine zaK (zav (zah (zae ?_)))
      obtain ⟨hg1, h⟩ := zbW h
      refine zau rfl dc rfl rfl (za5 (r := x3 + 1) (IntWalk.i64_in _ hg1)) (zaf rfl dc rfl (zaj ?_))
      subst hag1
      exact za6 (n1, x3 + 1) h (Nat.lt_succ_self _) rfl (zab rfl (zab rfl (zab rfl (zab rfl (zay))))) Splits.nil
    ·
     have h := zaU hb2 h
     refine zbl (zaC (zaC (zaN ?_)))
     exact zaJ () h rfl (zay) Splits.nil
  ·
   rintro _ h
   rw [hj1] at h
   show TC _ _ _ _ _ ([]) _ _ [] []
   refine zak (zae (zai rfl dc rfl (zaj (zah (zaQ ?_)))))
   cases h
   exact zaW (rs := [.tmp 4]) () (.inl rfl) Tryd.results26 (.cons (.tmp rfl) .nil) rfl Splits.nil
end Go.Proofs.YtgfkogafkhbgnaaDoor
namespace Go.Proofs.YtgfkogafkhbgnaaDoor
open Go.RowKit Go.Lib
set_option linter.unusedVariables false
set_option linter.unusedSimpArgs false
theorem zeQ {α : Type} {enc : α → List Value} {size : Nat} {P : Program} (w : World) (t ty e : TypeId) (i : TypeInfo) (z : Value) (ht : P.underlying t = some (.slice e)) (hi : P.info? e = some i) (hz : i.zero = some z)
    (hsize : i.size = size) (hzs : z.cells.size = size) (hsz : 0 < size) (hlen : ∀ x, (enc x).length = size) (h1 : ∀ x, ∀ u ∈ enc x, u.oneCell' = true)
    (v : Value) (L : List α) (C : Nat → Prop) (hown : Vec enc e size v L C w) (ys : List α) (a : Addr) (c : Nat)
    (hnews : ∀ j u, (ys.flatMap enc)[j]? = some u → w.cell? (a.add j) = some u) (hn : L.length + ys.length ≤ maxLen) (hbb : (L.length + ys.length) * i.bytes ≤ 140737488355328) :
    ∃ v' w', (Builtin.append_ #[t, t] ty #[v, .slice (some a) ys.length c]).run P w = .ok v' w' ∧ ∃ C', Vec enc e size v' (L ++ ys) C' w' ∧ Ext C C' w w' := by
  obtain ⟨hown, rfl⟩ := hown
  have hl : (ys.flatMap enc).length = ys.length * size := zdU hlen ys
  have h1' : ∀ u ∈ ys.flatMap enc, u.oneCell' = true := by
    intro u hu
    obtain ⟨x, hx, hu⟩ := List.mem_flatMap.1 hu
    exact h1 x u hu
  obtain ⟨v', w', hr, r1, r2, _⟩ := run_append_own (P := P) w 0 t ty e i z size i.bytes ht hi hz hsize rfl hzs hsz v L.length (L.flatMap enc) hown a ys.length c (ys.flatMap enc) hl hnews h1' hn hbb (Nat.zero_le _)
  have hbl := zg8 (P := P) w 0 t ty e i z size i.bytes ht hi hz hsize rfl v L.length (L.flatMap enc) hown a ys.length c (ys.flatMap enc) hl hnews h1' hn hbb hr
  have hR : Rw enc w' 0 e size v' (L ++ ys) := by
    unfold Rw; rw [List.length_append, List.flatMap_append]; exact r1
  exact ⟨v', w', hr, _, ⟨hR, rfl⟩, zfT r2 hbl (fun g hg => (World.ownsRow.lt hR g hg).2)⟩
section
variable {F : Fence} {P : Program} {w0 : World} {K : Nat → Prop} {N : Nat} {dfs : List Deferred} {ops : Array Oper} {Q : Exit → Act → World → Prop} {rest : List Oper} {σ : List (Nat × Value)} {L RD : List Asn}
  {d : Nat} {ty : TypeId} {pos : String} {aft : Array Edge} {g : Option (Nat × Bool)} {s x : Operand} {t e e2 : TypeId} {k k2 j size : Nat} {vv v2 v : Value} {α : Type} {enc : α → List Value} {xs ys Ls : List α}
theorem zlD {C : Nat → Prop} {w : World} (hlen : ∀ x, (enc x).length = size) (hs : 0 < size) (h : (roRow enc size v2 j Ls).P C w) (hV : Vw v2 Ls size j v ys) (hne : ys ≠ []) : ∃ c, v = .slice (some ⟨zeD v2, j * size, none⟩) ys.length c ∧ ∀ n u, (ys.flatMap enc)[n]? = some u → w.cell? ((⟨zeD v2, j * size, none⟩ : Addr).add n) = some u := by
  have hgt := fun (i : Nat) (q : α) (hq : ys[i]? = some q) => hV.get (i := (i : Int)) (zcb hq)
  obtain ⟨_, _, q', c, hq', _, hp⟩ := hV
  have hp := hp hne
  subst hp
  refine ⟨c, hq', fun n u hu => ?_⟩
  have hadd : (⟨zeD v2, j * size, none⟩ : Addr).add n = ⟨zeD v2, j * size + n, none⟩ := by unfold Addr.add; split <;> simp_all
  rw [hadd]
  have hnl : n < ys.length * size := by
    have := (List.getElem?_eq_some_iff.1 hu).1; rwa [zdU hlen ys] at this
  have hi : n / size < ys.length := Nat.div_lt_of_lt_mul (by rwa [Nat.mul_comm] at hnl)
  have hr : n % size < size := Nat.mod_lt _ hs
  have hdm : n / size * size + n % size = n := Nat.div_add_mod' n size
  have hy : ys[n / size]? = some ys[n / size] := List.getElem?_eq_getElem hi
  have h2 := zgw hlen ys (n / size) (n % size) _ hy hr
  rw [hdm, hu] at h2
  have h3 := (h.2 _ _ _ _ (Nat.le_add_right _ _) (hgt _ _ hy) h2.symm).2
  have e1 : (j + ((n / size : Nat) : Int).toNat) * size + n % size = j * size + n := by
    rw [Int.toNat_natCast, Nat.add_mul]; omega
  rwa [e1] at h3
/-- append(xs, ys...), ys only read; its bound goes by bytes. -/
theorem zkF [WideF F] {i2 B : Nat} (hr : Rd w0 K RD) (hi2 : RD[i2]? = some (roRow enc size v2 j Ls)) (ht : P.underlying t = some (.slice e)) (hE : ElemOk P e size) (hB : ∀ i, P.info? e = some i → i.bytes ≤ B) (hlen : ∀ x, (enc x).length = size) (h1 : ∀ x, ∀ u ∈ enc x, u.oneCell' = true) (hV : Vw v2 Ls size j v ys) (hg : gd ops σ g = some true) (hd : d < N) (hs : ev σ s = some vv) (hx : ev σ x = some v)
    (hk : L[k]? = some (vec enc e size vv xs)) (hn : xs.length + ys.length ≤ maxLen) (hb : (xs.length + ys.length) * B ≤ 140737488355328)
    (h : ∀ v', TO F P w0 K N dfs ops Q rest ((d, v') :: σ) (L.set k (vec enc e size v' (xs ++ ys)))) :
    TO F P w0 K N dfs ops Q (⟨some d, .call { callee := .builtin .append, args := #[s, x], argTypes := #[t, t] }, ty, pos, aft, g⟩ :: rest) σ L := by
  obtain ⟨i, zv, hi, hz, hsize, hzs, hsz, hbytes⟩ := hE
  have hbb : (xs.length + ys.length) * i.bytes ≤ 140737488355328 := Nat.le_trans (Nat.mul_le_mul_left _ (hB i hi)) hb
  refine zep hg (by simp) fun a w ha hw => ?_
  obtain ⟨C2, hV2⟩ := hr.at hw hi2
  obtain ⟨C, hV1, hstep⟩ := hw.focus hk
  by_cases hne : ys = []
  · subst hne
    obtain ⟨_, _, q', c, hq', _, _⟩ := hV
    subst hq'
    rw [List.append_nil] at h
    rcases q' with _ | q'
    · obtain ⟨b, cap, hb⟩ := Vec.len hV1
      have hcap : xs.length ≤ cap := by
        rcases hV1.shape with ⟨h3, h4, _⟩ | ⟨gb, cap', h3, _, h4, _⟩
        · rw [h4]; exact Nat.zero_le _
        · rw [hb] at h3; cases h3; exact h4
      have hr := zhA (P := P) w t ty e i ht hi b xs.length cap c hcap
      refine ⟨vv, w, ?_, h vv _ _ (ha.put hd _) (hstep _ C w (Ext.refl _ _) hV1)⟩
      subst hb
      simp [execOp, resolve, invoke, builtin, ha.ev hs, ha.ev hx, hr, Sem.run_bind]
    · obtain ⟨v', w', hr, C', h2, h3⟩ := zeQ (P := P) w t ty e i zv ht hi hz hsize hzs hsz hlen h1 vv xs C hV1 [] q' c (by simp) hn hbb
      rw [List.append_nil] at h2
      refine ⟨v', w', ?_, h v' _ _ (ha.put hd _) (hstep _ C' w' h3 h2)⟩
      have hr' : (Builtin.append_ #[t, t] ty #[vv, .slice (some q') 0 c]).run P w = .ok v' w' := hr
      simp [execOp, resolve, invoke, builtin, ha.ev hs, ha.ev hx, hr', Sem.run_bind]
  · obtain ⟨c, rfl, hc⟩ := zlD hlen hsz hV2 hV hne
    obtain ⟨v', w', hr, C', h2, h3⟩ := zeQ (P := P) w t ty e i zv ht hi hz hsize hzs hsz hlen h1 vv xs C hV1 ys _ c hc hn hbb
    refine ⟨v', w', ?_, h v' _ _ (ha.put hd _) (hstep _ C' w' h3 h2)⟩
    simp [execOp, resolve, invoke, builtin, ha.ev hs, ha.ev hx, hr, Sem.run_bind]
/-- What is owned, cut: its first n records. -/
theorem Vec.cut {C : Nat → Prop} {w : World} {q : Option Addr} {c n m : Nat} (hlen : ∀ x, (enc x).length = size) (h : Vec enc e size (.slice q m c) xs C w) (hm : n ≤ m) : Vec enc e size (.slice q n c) (xs.take n) C w := by
  obtain ⟨⟨h1, h2⟩, rfl⟩ := h
  have hfl := zdU hlen xs
  have hfn := zdU hlen (xs.take n)
  rcases h2 with ⟨h2, h3⟩ | ⟨gb, cap, cur, h2, h3, h4, h5, h6, h7, h8⟩
  · cases h2
    have : xs = [] := List.length_eq_zero_iff.1 h3
    subst this
    obtain rfl : n = 0 := by omega
    exact ⟨⟨by simp, .inl ⟨rfl, by simp⟩⟩, rfl⟩
  · cases h2
    have hnl : (xs.take n).length = n := by rw [List.length_take]; omega
    refine ⟨⟨by rw [hfn], .inr ⟨gb, c, cur, by rw [hnl], h3, h4, by rw [hnl]; omega, h6, h7, ?_⟩⟩, by funext k; simp [Value.ownBlock]⟩
    rw [hnl]
    have e1 : (xs.take n).flatMap enc = (xs.flatMap enc).take (n * size) := by
      conv => rhs; rw [← List.take_append_drop n xs, List.flatMap_append]
      rw [List.take_left' (by rw [hfn, hnl])]
    rw [e1, ← h8, List.take_take, Nat.min_eq_left (Nat.mul_le_mul_right _ hm)]
theorem zla {P : Program} {t e : TypeId} {size : Nat} {q : Option Addr} {m c n : Nat} (ht : P.underlying t = some (.slice e)) (hT : SizeOk P e size) (hq : q = none ∨ ∃ gb, q = some ⟨gb, 0, none⟩) (h1 : n ≤ m) (h2 : m ≤ c) (w : World) :
    (Instr.sliceAt t (.slice q m c) none (some (.int .i64 n)) none).run P w = .ok (.slice q n c) w := by
  obtain ⟨ii, hu, hs⟩ := hT.some
  have e1 : ∀ w : World, (Instr.sliceBounds true m c none (some (.int .i64 n)) none).run P w = .ok (0, n, c) w := by
    intro w
    have h7 : n ≤ c := by omega
    have h9 : ¬ c < n := by omega
    unfold Instr.sliceBounds
    simp [Sem.run_bind, Instr.sliceBound, asIntOf, h7, h9]
  have e2 : (if c = 0 then q else q.map (·.add (0 * ii.size))) = q := by
    rcases hq with rfl | ⟨gb, rfl⟩
    · split <;> rfl
    · split
      · rfl
      · simp [Addr.add]
  simp only [Instr.sliceAt, Instr.slice, Sem.run_bind, run_underlying ht, Result.andThen_ok, e1]
  simp [sizeOf, typeInfo, hu, Sem.run_bind]
  try (rcases hq with rfl | ⟨gb, rfl⟩ <;> simp [Addr.add])
theorem zmA [WideF F] {n : Int} {hi : Operand} (ht : P.underlying t = some (.slice e)) (hT : SizeOk P e size) (hlen : ∀ x, (enc x).length = size) (hg : gd ops σ g = some true) (hd : d < N) (hs : ev σ s = some vv) (hhi : ev σ hi = some (.int .i64 n)) (hk : L[k]? = some (vec enc e size vv xs)) (hn : 0 ≤ n ∧ n ≤ (xs.length : Int))
    (h : ∀ v', TO F P w0 K N dfs ops Q rest ((d, v') :: σ) (L.set k (vec enc e size v' (xs.take n.toNat)))) :
    TO F P w0 K N dfs ops Q (⟨some d, .slice t s none (some hi) none, ty, pos, aft, g⟩ :: rest) σ L := by
  obtain ⟨m, rfl⟩ : ∃ m : Nat, n = m := ⟨n.toNat, by omega⟩
  refine zep hg (by simp) fun a w ha hw => ?_
  obtain ⟨C, hV1, hstep⟩ := hw.focus hk
  have hm : m ≤ xs.length := by omega
  have key : ∃ q c, vv = .slice q xs.length c ∧ (q = none ∨ ∃ gb, q = some ⟨gb, 0, none⟩) ∧ xs.length ≤ c := by
    rcases Vec.shape hV1 with ⟨h1, h2, _⟩ | ⟨gb, cap, h1, _, h2, _, _⟩
    · exact ⟨none, 0, by rw [h1, h2]; rfl, .inl rfl, by rw [h2]; exact Nat.le_refl _⟩
    · exact ⟨_, cap, h1, .inr ⟨gb, rfl⟩, h2⟩
  obtain ⟨q, c, rfl, hq, hc⟩ := key
  have hr := zla (P := P) ht hT hq hm hc w
  refine ⟨.slice q m c, w, ?_, h (.slice q m c) _ _ (ha.put hd _) (hstep _ C w (Ext.refl _ _) ?_)⟩
  · simp only [execOp, ha.ev hs, ha.ev hhi, Option.map_none, Option.map_some, Sem.run_bind, hr]; rfl
  · exact Vec.cut hlen hV1 hm
theorem zgH [WideF F] {b m cap B : Nat} {tt te : TypeId} {cs : List Value} (ht : P.underlying tt = some (.slice e)) (hE : ElemOk P e size) (hB : ∀ i, P.info? e = some i → i.bytes ≤ B) (hlen : ∀ x, (enc x).length = size) (h1 : ∀ x, ∀ u ∈ enc x, u.oneCell' = true) (hg : gd ops σ g = some true) (hd : d < N) (hs : ev σ s = some vv) (hx : ev σ x = some (.slice (some ⟨b, 0, none⟩) m cap))
    (hk : L[k]? = some (vec enc e size vv xs)) (hk2 : L[k2]? = some (cells b cs te)) (hm : m = ys.length) (hcs : cs = ys.flatMap enc)
    (hn : xs.length + ys.length ≤ maxLen) (hb : (xs.length + ys.length) * B ≤ 140737488355328)
    (h : ∀ v', TO F P w0 K N dfs ops Q rest ((d, v') :: σ) (L.set k (vec enc e size v' (xs ++ ys)))) :
    TO F P w0 K N dfs ops Q (⟨some d, .call { callee := .builtin .append, args := #[s, x], argTypes := #[tt, tt] }, ty, pos, aft, g⟩ :: rest) σ L := by
  subst hm; subst hcs
  obtain ⟨i, zv, hi, hz, hsize, hzs, hsz, hbytes⟩ := hE
  have hbb : (xs.length + ys.length) * i.bytes ≤ 140737488355328 := Nat.le_trans (Nat.mul_le_mul_left _ (hB i hi)) hb
  refine zep hg (by simp) fun a w ha hw => ?_
  have hbo := hw.obj hk2
  obtain ⟨C, hV, hstep⟩ := hw.focus hk
  have hnews : ∀ j u, (ys.flatMap enc)[j]? = some u → w.cell? ((⟨b, 0, none⟩ : Addr).add j) = some u := by
    intro j u hu
    have hadd : (⟨b, 0, none⟩ : Addr).add j = ⟨b, j, none⟩ := by unfold Addr.add; split <;> simp_all
    rw [hadd]
    simpa [World.cell?, hbo] using hu
  have hr := zeQ (P := P) w tt ty e i zv ht hi hz hsize hzs hsz hlen h1 vv xs C hV ys ⟨b, 0, none⟩ cap hnews hn hbb
  obtain ⟨v', w', hr, C', h2, h3⟩ := hr
  refine ⟨v', w', ?_, h v' _ _ (ha.put hd _) (hstep _ C' w' h3 h2)⟩
  simp [execOp, resolve, invoke, builtin, ha.ev hs, ha.ev hx, hr, Sem.run_bind]
end
end Go.Proofs.YtgfkogafkhbgnaaDoor
namespace Go.Proofs.YtgfkogafkhbgnaaDoor
open Go.RowKit Go.Lib
set_option linter.unusedVariables false
set_option linter.unusedSimpArgs false
theorem zj0 {P : Program} {t e : TypeId} {x : Operand} {q : Option Addr} {n c : Nat} (ht : P.underlying t = some (.slice e)) (w : World) : (do eqGuard .eql t x (.const (.slice none 0 0)) (.slice q n c) (.slice none 0 0); binOp .eql t (.slice q n c) (.slice none 0 0) : Sem Value).run P w = .ok (.bool q.isNone) w := by
  have h : ∀ d, (Op.equalIn (d + 1) t (.slice q n c) (.slice none 0 0)).run P w = .ok q.isNone w := fun d => by
    cases q <;> simp [Op.equalIn, run_underlying ht]
  have h' : (Op.equalIn Op.maxDepth t (.slice q n c) (.slice none 0 0)).run P w = .ok q.isNone w := h 9999
  simp [eqGuard, binOp, Sem.run_bind, run_underlying ht, Op.equal, h']
theorem zjZ : ∀ i, Tryd.prog.info? 9 = some i → i.bytes ≤ 16 := fun i hi => by
  have h : (Tryd.prog.info? 9).all (fun i => decide (i.bytes ≤ 16)) = true := by kernel_rfl
  rw [hi] at h
  exact of_decide_eq_true h
theorem zlB : ∀ i, Tryd.prog.info? 48 = some i → i.bytes ≤ 24 := fun i hi => by
  have h : (Tryd.prog.info? 48).all (fun i => decide (i.bytes ≤ 24)) = true := by kernel_rfl
  rw [hi] at h
  exact of_decide_eq_true h
theorem znV {vv v : Value} {Ls : List ByteArray} {k : Nat} {xs : List ByteArray} (hw : Vw vv Ls 1 k v xs) (hb : xs.length * 16 ≤ 140737488355328) : FnR Tryd.prog 39 [v] [roRow encS 1 vv k Ls] [] (fun v0 : Value => v0) (fun v0 => [vec encS 9 1 v0 xs]) := by
  refine FnR.intro Tryd.func39 rfl Tryd.ntmps39 (by simp) ?_
  intro w0 K hrd
  obtain ⟨q, c, hv, _, hq⟩ := hw.2.2
  have hw' := hw
  subst hv
  cases q with
  | none =>
    have hx : xs = [] := by
      cases xs with
      | nil => rfl
      | cons x xs => cases hq (by simp)
    subst hx
    refine zak (zae (zai rfl (by decide) rfl (zaj (zah (zak (zak (zae (zaf rfl (by decide) rfl (zau rfl (by decide) rfl rfl (zj0 Tryd.underlying48) (zaj (zah (zbn rfl ?_))))))))))))
    refine zak (zae (zh2 (enc := encS) (e := 9) (size := 1) (zai rfl (by decide) rfl (zaj (zah (zaQ (zas ?_)))))))
    exact zaW (rs := [.tmp 2]) (.slice none 0 0) (.inl rfl) Tryd.results39 (.cons (.tmp rfl) .nil) rfl (zam [0] (by as_aux_lemma => kernel_rfl) rfl)
  | some q =>
    refine zak (zae (zai rfl (by decide) rfl (zaj (zah (zak (zak (zae (zaf rfl (by decide) rfl (zau rfl (by decide) rfl rfl (zj0 Tryd.underlying48) (zaj (zah (zbj rfl (zaK ?_)))))))))))))
    refine zah (zak (zae ?_))
    refine zbb (cs := []) (te := 9) (ps := []) rfl (by decide) rfl (fun _ => by kernel_rfl) (fun b1 => ?_)
    refine zaf rfl (by decide) rfl (zjg ([] : List ByteArray) (k := 0) rfl zev rfl (show 0 ≤ maxLen by decide) ?_)
    show TO _ _ _ _ _ _ _ _ _ _ [vec encS 9 1 (.slice (some ⟨b1, 0, none⟩) 0 0) ([] : List ByteArray)]
    refine zkF (k := 0) (i2 := 0) (B := 16) hrd rfl Tryd.underlying48 zoJ zjZ zev zgE hw' rfl (by decide) rfl rfl rfl (by simp only [maxLen, List.length_nil]; omega) (by rw [List.length_nil, Nat.zero_add]; exact hb) (fun v1 => ?_)
    refine zai rfl (by decide) rfl (zaj (zah (zaQ ?_)))
    exact zaW (rs := [.tmp 2]) v1 (.inl rfl) Tryd.results39 (.cons (.tmp rfl) .nil) rfl (zam [0] (by as_aux_lemma => kernel_rfl) rfl)
def zbX (s1 : List ByteArray) : Option (List ByteArray) :=
grd (s1.length * 16 ≤ 140737488355328) <|
some s1
theorem zei {vvs1 vs1 : Value} {Ls1 : List ByteArray} {ks1 : Nat} {s1 : List ByteArray} (hws1 : Vw vvs1 Ls1 1 ks1 vs1 s1) {r : (List ByteArray)} (h : zbX s1 = some r) : FnR Tryd.prog 39 [vs1] [roRow encS 1 vvs1 ks1 Ls1] [] (fun v0 : Value => v0) (fun v0 => [vec encS 9 1 v0 r]) := by
  obtain ⟨hb, h⟩ := zbW h
  cases h
  exact znV hws1 hb
end Go.Proofs.YtgfkogafkhbgnaaDoor
namespace Go.Proofs.YtgfkogafkhbgnaaDoor
open Go.RowKit Go.Lib
set_option linter.unusedVariables false
set_option linter.unusedSimpArgs false
theorem zib {α : Type} {enc : α → List Value} {size : Nat} (hlen : ∀ x, (enc x).length = size) (hs : 0 < size) (z : α) (zs : Array Value) (hz : zs.toList = enc z) (n : Nat) : (Builtin.zeroCells zs n).toList = (List.replicate n z).flatMap enc := by
  have hsz : zs.size = size := by rw [← Array.length_toList, hz, hlen]
  apply List.ext_getElem?
  intro i
  unfold Builtin.zeroCells
  rw [Array.toList_map, List.getElem?_map, Array.toList_range, hsz]
  rcases Nat.lt_or_ge i (n * size) with h | h
  · rw [List.getElem?_range h]
    have hi : i / size < n := Nat.div_lt_of_lt_mul (by rwa [Nat.mul_comm] at h)
    have hr : i % size < size := Nat.mod_lt _ hs
    have hy : (List.replicate n z)[i / size]? = some z := by rw [List.getElem?_replicate, if_pos hi]
    have h2 := zgw hlen _ (i / size) (i % size) _ hy hr
    rw [Nat.div_add_mod'] at h2
    rw [h2, ← hz]
    have hl : i % size < zs.size := by omega
    show some (zs[i % size]!) = _
    rw [getElem!_pos zs _ hl, List.getElem?_eq_getElem (by rw [Array.length_toList]; exact hl), Array.getElem_toList]
  · rw [List.getElem?_eq_none (by rw [List.length_range]; exact h), List.getElem?_eq_none (by rw [zdU hlen, List.length_replicate]; exact h)]
    rfl
section
variable {F : Fence} {P : Program} {w0 : World} {K : Nat → Prop} {N : Nat} {dfs : List Deferred} {ops : Array Oper} {Q : Exit → Act → World → Prop} {rest : List Oper} {σ : List (Nat × Value)} {L : List Asn}
  {ty : TypeId} {pos : String} {aft : Array Edge} {g : Option (Nat × Bool)} {s : Operand} {t e : TypeId} {k size : Nat} {vv : Value} {α : Type} {enc : α → List Value} {xs : List α}
theorem zkD [WideF F] {z : α} (ht : P.underlying t = some (.slice e)) (hE : ElemOk P e size) (hZ : ZeroOk P e (enc z)) (hlen : ∀ x, (enc x).length = size) (h1 : ∀ x, ∀ u ∈ enc x, u.oneCell' = true) (hg : gd ops σ g = some true) (hs : ev σ s = some vv)
    (hk : L[k]? = some (vec enc e size vv xs)) (h : TO F P w0 K N dfs ops Q rest σ (L.set k (vec enc e size vv (List.replicate xs.length z)))) :
    TO F P w0 K N dfs ops Q (⟨none, .call { callee := .builtin .clear, args := #[s], argTypes := #[t] }, ty, pos, aft, g⟩ :: rest) σ L := by
  obtain ⟨i, zv, hi, hz0, hsize, hzs, hsz, hbytes⟩ := hE
  obtain ⟨i', z', hi', hz', hzc⟩ := hZ.some
  rw [hi] at hi'; cases hi'
  rw [hz0] at hz'; cases hz'
  refine zep hg (by simp) fun a w ha hw => ?_
  obtain ⟨C, hV1, hstep⟩ := hw.focus hk
  by_cases hx : xs = []
  · subst hx
    rcases Vec.shape hV1 with ⟨hv, _, _⟩ | ⟨gb, cap, hv, _, _, _, _⟩
    · subst hv
      refine ⟨_, w, by simp [execOp, resolve, invoke, builtin, ha.ev hs, Builtin.clear_, run_underlying ht, Sem.run_bind]; rfl, h _ _ ha (hstep _ C w (Ext.refl _ _) hV1)⟩
    · subst hv
      refine ⟨_, w, by simp [execOp, resolve, invoke, builtin, ha.ev hs, Builtin.clear_, run_underlying ht, Sem.run_bind]; rfl, h _ _ ha (hstep _ C w (Ext.refl _ _) hV1)⟩
  · obtain ⟨cap, hcap⟩ := hV1.ptr hx
    generalize zeD vv = b at hcap
    subst hcap
    obtain ⟨m, hm⟩ : ∃ m, xs.length = m + 1 := ⟨xs.length - 1, by have := List.length_pos_iff.2 hx; omega⟩
    obtain ⟨cur, hcur, hfit, hC, hover⟩ := hV1.over hlen (ys := List.replicate xs.length z) 0 (by rw [List.length_replicate]; omega)
    have hst := run_storeCells_at (P := P) b 0 e ((List.replicate xs.length z).flatMap enc) 0 cur w hcur (by omega) (fun u hu => by
      obtain ⟨y, _, hy⟩ := List.mem_flatMap.1 hu
      exact h1 y u hy)
    have hzf := zib hlen hsz z zv.cells hzc xs.length
    subst hC
    rw [← hzf] at hst hover
    have hr : (Builtin.clear_ #[t] ty #[.slice (some ⟨b, 0, none⟩) xs.length cap]).run P w = .ok (.tuple #[]) (w.setRow b (cur.toList.take (0 * size) ++ (Builtin.zeroCells zv.cells xs.length).toList ++ cur.toList.drop (0 * size + (Builtin.zeroCells zv.cells xs.length).toList.length)).toArray) := by
      rw [hm] at hst ⊢
      simp only [Nat.zero_mul, Nat.zero_add] at hst ⊢
      simp [Builtin.clear_, run_underlying ht, Sem.run_bind, zeroValue, typeInfo, hi, hz0, hst]
    rw [List.take_zero, List.nil_append, Nat.zero_add, List.length_replicate, List.drop_length, List.append_nil] at hover
    refine ⟨_, _, by simp only [execOp, resolve, invoke, builtin, List.map_toArray, List.map_cons, List.map_nil, ha.ev hs, Sem.run_bind, Sem.run_pure, Result.andThen, hr]; rfl, h _ _ ha (hstep _ _ _ (Ext.setRow _) hover)⟩
end
end Go.Proofs.YtgfkogafkhbgnaaDoor
namespace Go.Proofs.YtgfkogafkhbgnaaDoor
open Go.RowKit Go.Lib
set_option linter.unusedVariables false
set_option linter.unusedSimpArgs false
def zbZ (stanzas1 : List (List ByteArray)) (j1 : (List (List ByteArray)) → Option Bool) (ag1 : (List (List ByteArray)) → Int → Option Bool) (in4 : List (List ByteArray)) (x3 : Int) : Option Bool :=
zaO (decide ((x3 : Int) < (stanzas1.length : Int))) (
zaE (zdk stanzas1 x3) fun (x4 : List ByteArray) =>
zaE (zbX x4) fun (r2 : (List ByteArray)) =>
grd ((r2.length + 1) * 16 ≤ 140737488355328) <|
grd (0 ≤ ((x4.length : Int) : Int) ∧ ((x4.length : Int) : Int) ≤ ((r2 ++ [(⟨#[120]⟩ : ByteArray)]).length : Int)) <|
grd ((in4.length + 1) * 24 ≤ 140737488355328) <|
grd (I64 (x3 + 1)) <|
ag1 (in4 ++ [(r2 ++ [(⟨#[120]⟩ : ByteArray)]).take ((x4.length : Int) : Int).toNat]) (x3 + 1)
) (
j1 in4
)
def zbY (stanzas1 : List (List ByteArray)) (in1 : List (List ByteArray)) (j2 : (Option Gpoem_Poem) → Int → Option Bool) (r3 : ((Option Gpoem_Poem) × Int)) (ag2 : (List (List ByteArray)) → Int → Option Bool) (in7 : List (List ByteArray)) (x7 : Int) : Option Bool :=
zaO (decide ((x7 : Int) < (in1.length : Int))) (
zaE (zdk in7 x7) fun (x8 : List ByteArray) =>
zaE (zdk stanzas1 x7) fun (x9 : List ByteArray) =>
zaE (zbD x8 x9) fun (r4 : Bool) =>
zaO (!r4) (
some false
) (
zaE (zdk in7 x7) fun (x10 : List ByteArray) =>
grd (I64 (x7 + 1)) <|
ag2 (in7.set ((x7 : Int).toNat) (List.replicate x10.length ByteArray.empty)) (x7 + 1)
)
) (
j2 r3.1 r3.2
)
def zdj (title1 : ByteArray) (stanzas1 : List (List ByteArray)) : Option Bool :=
zaE (zeb) fun (r1 : Bool) =>
zaO (!r1) (
some false
) (
zbE (fun (j1 : (List (List ByteArray)) → Option Bool) =>
za2 (fun _ _ => none) (zbZ stanzas1 j1) zbG ([] : List (List ByteArray)) 0
) (fun (in1 : List (List ByteArray)) =>
zbE (fun (j2 : (Option Gpoem_Poem) → Int → Option Bool) =>
zaE (zej title1 in1) fun (r3 : ((Option Gpoem_Poem) × Int)) =>
za2 (fun _ _ => none) (zbY stanzas1 in1 j2 r3) zbG in1 0
) (fun (m1 : Option Gpoem_Poem) (e1 : Int) =>
zaE (zd0 title1 stanzas1) fun (r5 : Int) =>
zaE (zdh m1 e1 (⟨title1, stanzas1⟩ : Gref17_Poem) r5) fun (r6 : Bool) =>
zaO (r6) (
zaE (zeb) fun (r7 : Bool) =>
some r7
) (
some false
)
)
)
)
theorem law17_PoemMakes_fn {title1 : ByteArray} {vvstanzas1 : Value} {vstanzas1 : Hd} {Zstanzas1 : List ((List ByteArray) × Hd)} {kstanzas1 : Nat} {zstanzas1 : List ((List ByteArray) × Hd)} {stanzas1 : List (List ByteArray)} (hwstanzas1 : Vw vvstanzas1 Zstanzas1 1 kstanzas1 vstanzas1.v zstanzas1) (hzstanzas1 : zstanzas1.map Prod.fst = stanzas1) {r : Bool} (h : zdj title1 stanzas1 = some r) : FnR Tryd.prog 9 [.string title1, vstanzas1.v] [roRow encN_T_string 1 vvstanzas1 kstanzas1 Zstanzas1, rdOwn nestR_T_string Zstanzas1] [] (fun _ : Unit => (.bool r)) (fun _ => []) := by
 unfold zdj at h
 refine FnR.intro Tryd.func9 rfl Tryd.ntmps9 (by simp) ?_
 intro w0 K hrd
 refine zak (zae (zai rfl dc rfl (zaj (zah (zak (zak (zae ?_)))))))
 obtain ⟨r1, hq1, h⟩ := zbN h
 refine zbs (v := .bool r1) (vs := []) rfl dc rfl rfl rfl zoI (zga hq1) (zf7 rfl dc rfl zeE (zaj (zah ?_)))
 refine zaI rfl (fun hb1 => ?_) (fun hb1 => ?_)
 ·
  have h := zaT hb1 h
  refine zak (zae (zai rfl dc rfl (zaj (zah (zaQ (zas ?_))))))
  cases h
  exact zaW (rs := [.tmp 4]) () (.inl rfl) Tryd.results9 (.cons (.tmp rfl) .nil) rfl Splits.nil
 ·
  have h := zaU hb1 h
  refine zaK (zah ?_)
  obtain ⟨j1, hj1, h⟩ := zcc h
  refine zbf (β := (List (List ByteArray)) × Hd) 1 rfl (fun b => j1 b.1 = some r) (fun b => []) (fun b => [(0, .string title1), (1, vstanzas1.v), (5, b.2.v)]) (fun b => [zcU encN_T_string zao 48 1 b.2.v b.1]) (fun cut => ?_) ?_
  ·
   refine zak (zae (zai rfl dc rfl (zaj (zah (cut (zak (zae (zaf rfl dc rfl (zdm hzstanzas1 hwstanzas1 rfl dc rfl Tryd.underlying54 (zaf rfl dc rfl (zaj (zah (zaS ?_)))))))))))))
   refine zkH (enc := encN_T_string) (nest := zao) (e := 48) (size := 1) ?_
   show TC _ _ _ _ _ _ _ _ _ [zcU encN_T_string zao 48 1 (.slice none 0 0) ([] : List (List ByteArray))]
   refine zbx (β := Nat × (List (List ByteArray)) × Int × Hd) (fun b => za2 (fun _ _ => none) (zbZ stanzas1 j1) b.1 b.2.1 b.2.2.1 = some r) (fun b => []) (fun b => [(0, .string title1), (1, vstanzas1.v), (5, b.2.2.2.v), (13, vstanzas1.v), (14, zI (stanzas1.length : Int)), (15, zI b.2.2.1)]) (fun b => [zcU encN_T_string zao 48 1 b.2.2.2.v b.2.1]) (fun b => b.1) (zbG, ([] : List (List ByteArray)), 0, Hd.nil) h rfl (zab rfl (zab rfl (zab rfl (zab rfl (zab rfl (zab rfl (zay))))))) (zam [0] kr rfl) ?_
   rintro ⟨n1, in4, x3, hd4⟩ h
   cases n1 with
   | zero => exact zdy h
   | succ n1 =>
    obtain ⟨ag1, hag1⟩ : ∃ ag, ag = za2 (fun _ _ => none) (zbZ stanzas1 j1) n1 := ⟨_, rfl⟩
    have h : zbZ stanzas1 j1 ag1 in4 x3 = some r := by rw [hag1]; exact h
    unfold zbZ at h
    show TC _ _ _ _ _ ([]) _ _ [(0, .string title1), (1, vstanzas1.v), (5, hd4.v), (13, vstanzas1.v), (14, zI (stanzas1.length : Int)), (15, zI x3)] [zcU encN_T_string zao 48 1 hd4.v in4]
    refine zak (zae (zau rfl dc rfl rfl zbA (zaj (zah (zak ?_)))))
    refine zaI rfl (fun hb2 => ?_) (fun hb2 => ?_)
    ·
     have h := zaT hb2 h
     refine zaK (zah (zak (zaS (zak (zae ?_)))))
     obtain ⟨x4, hq2, h⟩ := zbN h
     obtain ⟨eh1, eq1⟩ := zd3 hzstanzas1 hq2
     have hrd : Rd _ _ [roRow encN_T_string 1 vvstanzas1 kstanzas1 Zstanzas1, rdOwn nestR_T_string Zstanzas1, zfp encS 1 eh1 x4] := hrd.openEl (i := 1) (z := (x4, eh1)) rfl (Vw.get hwstanzas1 eq1)
     obtain ⟨vv1, k1, L1, hV1, hrd⟩ := hrd.openSl (i := 2) rfl
     replace hrd : Rd _ _ [roRow encN_T_string 1 vvstanzas1 kstanzas1 Zstanzas1, rdOwn nestR_T_string Zstanzas1, zfp encS 1 eh1 x4, roRow encS 1 vv1 k1 L1] := hrd
     refine zbd hwstanzas1 eq1 Tryd.underlying54 zez rfl dc rfl rfl rfl (zbm (n := kstanzas1 + (x3 : Int).toNat) (j := 0) (i := 0) (q := (x4, eh1)) hrd rfl (by omega) ze8 rfl dc rfl (Vw.get hwstanzas1 eq1) rfl rfl (zai rfl dc rfl (zaj (zah (zae (zaf rfl dc rfl (zaf rfl dc rfl ?_)))))))
     obtain ⟨r2, hq3, h⟩ := zbN h
     refine zeK (vs := [eh1.v]) hrd rfl dc rfl rfl rfl zpw (zei hV1 hq3) Splits.nil (.ro 3 rfl .nil) ?_
     rintro v1
     show TO _ _ _ _ _ _ _ _ _ _ [zcU encN_T_string zao 48 1 hd4.v in4, vec encS 9 1 v1 r2]
     refine zb3 (L' := [zcU encN_T_string zao 48 1 hd4.v in4, vec encS 9 1 v1 r2]) (zam [0, 1] kr rfl) ?_
     refine zco (k := 1) rfl (fun hd5 he1 => ?_)
     subst he1
     refine zbb (cs := [.string (⟨#[120]⟩ : ByteArray)]) (te := 9) (ps := [(0, .const (.string (⟨#[120]⟩ : ByteArray)))]) rfl dc rfl (fun _ => by kernel_rfl) (fun b1 => ?_)
     obtain ⟨hg1, h⟩ := zbW h
     refine zgH (k := 1) (k2 := 2) (ys := [(⟨#[120]⟩ : ByteArray)]) Tryd.underlying48 zoJ zjZ zev zgE rfl dc rfl rfl rfl rfl rfl rfl (by simp only [maxLen, List.length_singleton]; omega) hg1 (fun v2 => ?_)
     refine zco (k := 1) rfl (fun hd6 he2 => ?_)
     subst he2
     show TO _ _ _ _ _ _ _ _ _ _ [zcU encN_T_string zao 48 1 hd4.v in4, vec encS 9 1 hd6.v (r2 ++ [(⟨#[120]⟩ : ByteArray)]), cells b1 [.string (⟨#[120]⟩ : ByteArray)] 9]
     refine zaf rfl dc rfl (zbt hV1 rfl dc rfl Tryd.underlying48 ?_)
     obtain ⟨hg2, h⟩ := zbW h
     refine zmA (k := 1) Tryd.underlying48 zk9 zev rfl dc rfl rfl rfl hg2 (fun v3 => ?_)
     refine zco (k := 1) rfl (fun hd7 he3 => ?_)
     subst he3
     refine zbb (cs := [hd7.v]) (te := 48) (ps := [(0, .tmp 26)]) rfl dc rfl (fun _ => by kernel_rfl) (fun b2 => ?_)
     show TO _ _ _ _ _ _ _ _ _ _ [zcU encN_T_string zao 48 1 hd4.v in4, vec encS 9 1 hd7.v ((r2 ++ [(⟨#[120]⟩ : ByteArray)]).take ((x4.length : Int) : Int).toNat), cells b1 [.string (⟨#[120]⟩ : ByteArray)] 9, cells b2 [hd7.v] 48]
     refine zf2 (k := 0) rfl zjC (fun zs1 hz1 => ?_)
     show TO _ _ _ _ _ _ _ _ _ _ [vec encN_T_string 48 1 hd4.v zs1, vec encS 9 1 hd7.v ((r2 ++ [(⟨#[120]⟩ : ByteArray)]).take ((x4.length : Int) : Int).toNat), cells b1 [.string (⟨#[120]⟩ : ByteArray)] 9, cells b2 [hd7.v] 48, own zao zs1]
     obtain ⟨hg3, h⟩ := zbW h
     refine zgH (k := 0) (k2 := 3) (ys := [((r2 ++ [(⟨#[120]⟩ : ByteArray)]).take ((x4.length : Int) : Int).toNat, hd7)]) Tryd.underlying54 znS zlB zba zem rfl dc rfl rfl rfl rfl rfl rfl (by rw [zob hz1]; simp only [maxLen, List.length_singleton]; omega) (by rw [zob hz1]; exact hg3) (fun v4 => ?_)
     show TO _ _ _ _ _ _ _ _ _ _ [vec encN_T_string 48 1 v4 (zs1 ++ [((r2 ++ [(⟨#[120]⟩ : ByteArray)]).take ((x4.length : Int) : Int).toNat, hd7)]), vec encS 9 1 hd7.v ((r2 ++ [(⟨#[120]⟩ : ByteArray)]).take ((x4.length : Int) : Int).toNat), cells b1 [.string (⟨#[120]⟩ : ByteArray)] 9, cells b2 [hd7.v] 48, own zao zs1]
     refine zco (k := 0) rfl (fun hd8 he4 => ?_)
     subst he4
     refine zew (k := 4) rfl (zam [1] kr rfl) rfl (zl6 (nest := zao) (zs := zs1) (z := ((r2 ++ [(⟨#[120]⟩ : ByteArray)]).take ((x4.length : Int) : Int).toNat, hd7))) ?_
     show TO _ _ _ _ _ _ _ _ _ _ [vec encN_T_string 48 1 hd8.v (zs1 ++ [((r2 ++ [(⟨#[120]⟩ : ByteArray)]).take ((x4.length : Int) : Int).toNat, hd7)]), emp, cells b1 [.string (⟨#[120]⟩ : ByteArray)] 9, cells b2 [hd7.v] 48, own zao (zs1 ++ [((r2 ++ [(⟨#[120]⟩ : ByteArray)]).take ((x4.length : Int) : Int).toNat, hd7)])]
     refine zew (k := 0) rfl (zam [4] kr rfl) rfl (ziC (enc := encN_T_string) (nest := zao) (zo6 hz1)) ?_
     show TO _ _ _ _ _ _ _ _ _ _ [zcU encN_T_string zao 48 1 hd8.v (in4 ++ [(r2 ++ [(⟨#[120]⟩ : ByteArray)]).take ((x4.length : Int) : Int).toNat]), emp, cells b1 [.string (⟨#[120]⟩ : ByteArray)] 9, cells b2 [hd7.v] 48, emp]
     refine zb3 (L' := [zcU encN_T_string zao 48 1 hd8.v (in4 ++ [(r2 ++ [(⟨#[120]⟩ : ByteArray)]).take ((x4.length : Int) : Int).toNat]), emp, cells b1 [.string (⟨#[120]⟩ : ByteArray)] 9, cells b2 [hd7.v] 48]) (zam [0, 1, 2, 3] kr rfl) (zai rfl dc rfl (zaj (zav (zah (zae ?_)))))
     obtain ⟨hg4, h⟩ := zbW h
     refine zau rfl dc rfl rfl (za5 (r := x3 + 1) (IntWalk.i64_in _ hg4)) (zaf rfl dc rfl (zaj ?_))
     subst hag1
     exact za6 (n1, in4 ++ [(r2 ++ [(⟨#[120]⟩ : ByteArray)]).take ((x4.length : Int) : Int).toNat], x3 + 1, hd8) h (Nat.lt_succ_self _) rfl (zab rfl (zab rfl (zab rfl (zab rfl (zab rfl (zab rfl (zay))))))) (zam [0] kr rfl)
    ·
     have h := zaU hb2 h
     refine zbl (zaC (zaC (zaN ?_)))
     exact zaJ (in4, hd4) h rfl (zab rfl (zab rfl (zab rfl (zay)))) (zam [0] kr rfl)
  ·
   rintro ⟨in1, hd1⟩ h
   rw [hj1] at h
   show TC _ _ _ _ _ ([]) _ _ [(0, .string title1), (1, vstanzas1.v), (5, hd1.v)] [zcU encN_T_string zao 48 1 hd1.v in1]
   obtain ⟨j2, hj2, h⟩ := zcc h
   refine zbf (β := (Option Gpoem_Poem) × Int × Value) 1 rfl (fun b => j2 b.1 b.2.1 = some r) (fun b => []) (fun b => [(0, .string title1), (1, vstanzas1.v), (8, b.2.2), (9, zI b.2.1)]) (fun b => [zd5 zaB zaz 93 b.2.2 b.1]) (fun cut => ?_) ?_
   ·
    refine zak (zae (zaf rfl dc rfl (zaf rfl dc rfl ?_)))
    obtain ⟨r3, hq4, h⟩ := zbN h
    refine zeK (vs := [.string title1, hd1.v]) hrd rfl dc rfl rfl rfl zpv (ziJ (nest := zao) (e := 48) (v := hd1.v) (xs := in1) (RD1 := []) (RD2 := []) zba zfa (fun zs_c0 hz_c0 hV_c0 => (zjz (vstanzas1 := hd1) hV_c0 hz_c0 hq4))) Splits.nil (.own (zam [0] (by kernel_rfl) rfl) (fun _ _ h => sepL.one1.1 h) .nil) ?_
    rintro v6
    show TO _ _ _ _ _ _ _ _ _ _ [zcU encN_T_string zao 48 1 hd1.v in1, zd5 zaB zaz 93 v6 r3.1]
    refine zb3 (L' := [zcU encN_T_string zao 48 1 hd1.v in1, zd5 zaB zaz 93 v6 r3.1]) (zam [0, 1] kr rfl) (zaf rfl dc rfl (zaZ rfl dc rfl rfl (zaZ rfl dc rfl rfl (zai rfl dc rfl (zai rfl dc rfl (zaj (zah (cut (zak (zae (zaf rfl dc rfl (zg2 (k := 0) rfl dc rfl rfl Tryd.underlying54 (zaf rfl dc rfl ?_)))))))))))))
    refine zaj (zah (zaS ?_))
    refine zbx (β := Nat × (List (List ByteArray)) × Int) (fun b => za2 (fun _ _ => none) (zbY stanzas1 in1 j2 r3) b.1 b.2.1 b.2.2 = some r) (fun b => []) (fun b => [(0, .string title1), (1, vstanzas1.v), (5, hd1.v), (8, v6), (9, zI r3.2), (37, zI (in1.length : Int)), (38, zI b.2.2)]) (fun b => [zcU encN_T_string zao 48 1 hd1.v b.2.1, zd5 zaB zaz 93 v6 r3.1]) (fun b => b.1) (zbG, in1, 0) h rfl (zab rfl (zab rfl (zab rfl (zab rfl (zab rfl (zab rfl (zab rfl (zay)))))))) (zam [0, 1] kr rfl) ?_
    rintro ⟨n2, in7, x7⟩ h
    cases n2 with
    | zero => exact zdy h
    | succ n2 =>
     obtain ⟨ag2, hag2⟩ : ∃ ag, ag = za2 (fun _ _ => none) (zbY stanzas1 in1 j2 r3) n2 := ⟨_, rfl⟩
     have h : zbY stanzas1 in1 j2 r3 ag2 in7 x7 = some r := by rw [hag2]; exact h
     unfold zbY at h
     show TC _ _ _ _ _ ([]) _ _ [(0, .string title1), (1, vstanzas1.v), (5, hd1.v), (8, v6), (9, zI r3.2), (37, zI (in1.length : Int)), (38, zI x7)] [zcU encN_T_string zao 48 1 hd1.v in7, zd5 zaB zaz 93 v6 r3.1]
     refine zak (zae (zau rfl dc rfl rfl zbA (zaj (zah (zak ?_)))))
     refine zaI rfl (fun hb3 => ?_) (fun hb3 => ?_)
     ·
      have h := zaT hb3 h
      refine zaK (zah (zak (zaS (zak (zae (zaf rfl dc rfl (zai rfl dc rfl (zaj (zah (zak (zak ?_)))))))))))
      refine zdO (k := 0) rfl zjC (fun zs2 hz2 => ?_)
      show TC _ _ _ _ _ _ _ _ _ [vec encN_T_string 48 1 hd1.v zs2, zd5 zaB zaz 93 v6 r3.1, own zao zs2]
      obtain ⟨x8, hq5, h⟩ := zbN h
      obtain ⟨eh2, eq2⟩ := zd3 hz2 hq5
      obtain ⟨x9, hq6, h⟩ := zbN h
      obtain ⟨eh3, eq3⟩ := zd3 hzstanzas1 hq6
      have hrd : Rd _ _ [roRow encN_T_string 1 vvstanzas1 kstanzas1 Zstanzas1, rdOwn nestR_T_string Zstanzas1, zfp encS 1 eh3 x9] := hrd.openEl (i := 1) (z := (x9, eh3)) rfl (Vw.get hwstanzas1 eq3)
      obtain ⟨vv2, k2, L2, hV2, hrd⟩ := hrd.openSl (i := 2) rfl
      replace hrd : Rd _ _ [roRow encN_T_string 1 vvstanzas1 kstanzas1 Zstanzas1, rdOwn nestR_T_string Zstanzas1, zfp encS 1 eh3 x9, roRow encS 1 vv2 k2 L2] := hrd
      obtain ⟨r4, hq7, h⟩ := zbN h
      refine zdO (k := 2) rfl (zli (zbz eq2)) (fun _ _ => ?_)
      show TC _ _ _ _ _ _ _ _ _ [vec encN_T_string 48 1 hd1.v zs2, zd5 zaB zaz 93 v6 r3.1, own zao (zs2.eraseIdx ((x7 : Int).toNat)), vec encS 9 1 eh2.v x8]
      refine zb0 8 [(0, 41, hd1.v), (1, 42, zI x7), (2, 43, .pointer (some ⟨zeD hd1.v, (x7 : Int).toNat * 1, none⟩)), (3, 44, eh2.v), (4, 45, vstanzas1.v), (5, 46, zI x7), (6, 47, .pointer (some ⟨zeD vvstanzas1, (kstanzas1 + (x7 : Int).toNat) * 1, none⟩)), (7, 48, eh3.v)] mixed kr kr dc (by rfl) kr kr (zad ?_ (zad ?_ (zad ?_ (zad ?_ (zad ?_ (zad ?_ (zad ?_ (zad ?_ DrawPre.nil)))))))) ?_
      ·
       intro D hn hd hcl hu hi
       refine zaf rfl dc (zaL (by rfl) rfl) ?_
       exact zag 0 hu hi rfl
      ·
       intro D hn hd hcl hu hi
       refine zaf rfl dc (zaL (by rfl) rfl) ?_
       exact zag 1 hu hi rfl
      ·
       intro D hn hd hcl hu hi
       refine zbK (k := 0) eq2 Tryd.underlying54 zez rfl dc (zac (m := 0) hu rfl (hd 0 dc)) (zac (m := 1) hu rfl (hd 1 dc)) rfl rfl ?_
       exact zag 2 hu hi rfl
      ·
       intro D hn hd hcl hu hi
       refine zcV (i := (x7 : Int).toNat) (j := 0) (k := 0) (q := (x8, eh2)) ze8 zba rfl dc (zac (m := 2) hu rfl (hd 2 dc)) rfl (zbz eq2) rfl dc rfl ?_
       exact zag 3 hu hi rfl
      ·
       intro D hn hd hcl hu hi
       refine zaf rfl dc (zaL (by rfl) rfl) ?_
       exact zag 4 hu hi rfl
      ·
       intro D hn hd hcl hu hi
       refine zaf rfl dc (zaL (by rfl) rfl) ?_
       exact zag 5 hu hi rfl
      ·
       intro D hn hd hcl hu hi
       refine zbd hwstanzas1 eq3 Tryd.underlying54 zez rfl dc (zac (m := 4) hu rfl (hd 4 dc)) (zac (m := 5) hu rfl (hd 5 dc)) rfl ?_
       exact zag 6 hu hi rfl
      ·
       intro D hn hd hcl hu hi
       refine zbm (n := kstanzas1 + (x7 : Int).toNat) (j := 0) (i := 0) (q := (x9, eh3)) hrd rfl (by omega) ze8 rfl dc (zac (m := 6) hu rfl (hd 6 dc)) (Vw.get hwstanzas1 eq3) rfl rfl ?_
       exact zag 7 hu hi rfl
      refine zgG (k := 3) rfl (fun hw1 => ?_)
      refine zbe (v := .bool r4) (vs := [eh2.v, eh3.v]) hrd rfl dc rfl rfl rfl zpz (zeh hw1 hV2 hq7) (.own (As := [vec encS 9 1 eh2.v x8]) (zam [3] (by kernel_rfl) rfl) (fun _ _ h => zeR zev (sepL.one1.1 h)) (.ro 3 rfl .nil)) ?_
      refine zf7 rfl dc rfl zeE (zaj (zah ?_))
      refine zaI rfl (fun hb4 => ?_) (fun hb4 => ?_)
      ·
       have h := zaT hb4 h
       refine zak (zae (zai rfl dc rfl (zaj (zah (zaQ (zas (zaw (zas (zas (zaw (zas (zgF (k := 2) rfl (zam [3] kr rfl) rfl (zki (nest := zao) (zbz eq2) rfl) ?_))))))))))))
       show TX _ _ _ _ _ _ _ [vec encN_T_string 48 1 hd1.v zs2, zd5 zaB zaz 93 v6 r3.1, own zao zs2, emp]
       cases h
       exact zaW (rs := [.tmp 4]) () (.inl rfl) Tryd.results9 (.cons (.tmp rfl) .nil) rfl Splits.nil
      ·
       have h := zaU hb4 h
       refine zaK (zah (zae (zaf rfl dc rfl (zaf rfl dc rfl ?_))))
       obtain ⟨x10, hq8, h⟩ := zbN h
       obtain ⟨eh4, eq4⟩ := zd3 hz2 hq8
       refine zbK (k := 0) eq4 Tryd.underlying54 zez rfl dc rfl rfl rfl rfl (zcV (i := (x7 : Int).toNat) (j := 0) (k := 0) (q := (x10, eh4)) ze8 zba rfl dc rfl rfl (zbz eq4) rfl dc rfl (zew (k := 2) rfl (zam [3] kr rfl) rfl (zki (nest := zao) (zbz eq2) rfl) ?_))
       show TO _ _ _ _ _ _ _ _ _ _ [vec encN_T_string 48 1 hd1.v zs2, zd5 zaB zaz 93 v6 r3.1, own zao zs2, emp]
       refine zf2 (k := 2) rfl (zli (zbz eq4)) (fun _ _ => ?_)
       show TO _ _ _ _ _ _ _ _ _ _ [vec encN_T_string 48 1 hd1.v zs2, zd5 zaB zaz 93 v6 r3.1, own zao (zs2.eraseIdx ((x7 : Int).toNat)), emp, vec encS 9 1 eh4.v x10]
       refine zkD (k := 4) (z := ByteArray.empty) Tryd.underlying48 zoJ zpT zev zgE rfl rfl rfl (zaj (zav (zah (zae ?_))))
       obtain ⟨hg5, h⟩ := zbW h
       refine zau rfl dc rfl rfl (za5 (r := x7 + 1) (IntWalk.i64_in _ hg5)) (zaf rfl dc rfl (zaj (zoQ (k := 0) rfl (zkK (zlI (zbz eq4)).symm (q1 := (x10, eh4)) (q2 := (List.replicate x10.length ByteArray.empty, eh4)) zba rfl) (zgF (k := 2) rfl (zam [4] kr rfl) rfl (zki (nest := zao) (zs := zs2) (z := (List.replicate x10.length ByteArray.empty, eh4)) (ziS (zbz eq4)) zgp) ?_))))
       show TX _ _ _ _ _ _ _ [vec encN_T_string 48 1 hd1.v (zs2.set ((x7 : Int).toNat) (List.replicate x10.length ByteArray.empty, eh4)), zd5 zaB zaz 93 v6 r3.1, own zao (zs2.set ((x7 : Int).toNat) (List.replicate x10.length ByteArray.empty, eh4)), emp, emp]
       refine zgF (k := 0) rfl (zam [2] kr rfl) rfl (ziC (enc := encN_T_string) (nest := zao) (zoU hz2)) ?_
       show TX _ _ _ _ _ _ _ [zcU encN_T_string zao 48 1 hd1.v (in7.set ((x7 : Int).toNat) (List.replicate x10.length ByteArray.empty)), zd5 zaB zaz 93 v6 r3.1, emp, emp, emp]
       subst hag2
       exact za6 (n2, in7.set ((x7 : Int).toNat) (List.replicate x10.length ByteArray.empty), x7 + 1) h (Nat.lt_succ_self _) rfl (zab rfl (zab rfl (zab rfl (zab rfl (zab rfl (zab rfl (zab rfl (zay)))))))) (zam [0, 1] kr rfl)
     ·
      have h := zaU hb3 h
      refine zbl (zaC (zaC (zaN ?_)))
      exact zaJ (r3.1, r3.2, v6) h rfl (zab rfl (zab rfl (zab rfl (zab rfl (zay))))) (zam [1] kr rfl)
   ·
    rintro ⟨m1, e1, v5⟩ h
    rw [hj2] at h
    show TC _ _ _ _ _ ([]) _ _ [(0, .string title1), (1, vstanzas1.v), (8, v5), (9, zI e1)] [zd5 zaB zaz 93 v5 m1]
    refine zak (zae (zaf rfl dc rfl (zaf rfl dc rfl (zaf rfl dc rfl (zaf rfl dc rfl ?_)))))
    refine zbi (v := .agg #[.string title1, vstanzas1.v]) (ps := [(0, .tmp 58), (1, .tmp 59)]) rfl dc rfl (fun _ => by kernel_rfl) ?_
    refine zaf rfl dc rfl (zaf rfl dc rfl ?_)
    obtain ⟨r5, hq9, h⟩ := zbN h
    refine zbe (v := zI r5) (vs := [.string title1, vstanzas1.v]) hrd rfl dc rfl rfl rfl zpu (ziV (vstanzas1 := vstanzas1) hwstanzas1 hzstanzas1 hq9) (.ro 0 rfl (.ro 1 rfl .nil)) ?_
    obtain ⟨r6, hq10, h⟩ := zbN h
    refine zbe (v := .bool r6) (vs := [v5, zI e1, .agg #[.string title1, vstanzas1.v], zI r5]) hrd rfl dc rfl rfl rfl zpx (zhc (v := v5) (m := m1) (wv1_h0 := vstanzas1) (wv1 := (⟨title1, stanzas1⟩ : Gref17_Poem)) hwstanzas1 hzstanzas1 hq10) (.own (zam [0] (by kernel_rfl) rfl) (fun _ _ h => sepL.one1.1 h) (.ro 0 rfl (.ro 1 rfl .nil))) ?_
    refine zaf rfl dc rfl ?_
    refine za3 (s := 65) rfl (fun hb5 => ?_) (fun hb5 => ?_)
    ·
     have h := zaT hb5 h
     obtain ⟨r7, hq11, h⟩ := zbN h
     refine zbs (v := .bool r7) (vs := []) rfl dc rfl rfl rfl zoI (zga hq11) (zaA (b := true) rfl dc rfl rfl (zai rfl dc rfl (zaj (zah (zaQ ?_)))))
     cases h
     exact zaW (rs := [.tmp 4]) () (.inl rfl) Tryd.results9 (.cons (.tmp rfl) .nil) rfl Splits.nil
    ·
     have h := zaU hb5 h
     refine zal rfl dc (zaA (b := false) rfl dc rfl rfl (zai rfl dc rfl (zaj (zah (zaQ ?_)))))
     cases h
     exact zaW (rs := [.tmp 4]) () (.inl rfl) Tryd.results9 (.cons (.tmp rfl) .nil) rfl Splits.nil
end Go.Proofs.YtgfkogafkhbgnaaDoor
namespace Go.Proofs.YtgfkogafkhbgnaaDoor
open Go.RowKit Go.Lib Go.ChangeShapes Go.WideShapes
set_option linter.unusedVariables false
set_option linter.unusedSimpArgs false
theorem FnR.p {P : Program} {f : FuncId} {vs : List Value} {RD : List Asn} {v : Value} (h : FnR P f vs RD [] (fun _ : Unit => v) (fun _ => [])) (w : World) (hr : Rd w (fun _ => False) RD) : Calls P f vs.toArray w fun e w' => e = .returned v ∧ Below w.heap.size w w' :=
  (h w (fun _ => False) hr (fun _ h => h)).mono fun e w' ⟨_, h1, C', h2, h3⟩ => ⟨h1, h3.toBelow (Nat.le_refl _) (fun _ _ h => h)⟩
theorem zmx {w : World} {b j : Nat} {v : Value} (h : w.cell? ⟨b, j, none⟩ = some v) : b < w.heap.size := by
  rcases Nat.lt_or_ge b w.heap.size with h1 | h1
  · exact h1
  · have : w.heap[b]? = none := Array.getElem?_eq_none h1
    simp [World.cell?, this] at h
/-- A slice that can be read can be read. -/
theorem znB {α : Type} {enc : α → List Value} {m : α → Value} (hm : ∀ x, enc x = [m x]) {w : World} {a : Addr} {ys : List α} {cap : Nat} (hl : ys.length ≤ cap) (hc : ∀ i y, ys[i]? = some y → w.cell? (a.add i) = some (m y)) :
    ∃ vv k L, Vw vv L 1 k (.slice (some a) ys.length cap) ys ∧ (roRow enc 1 vv k L).P (fun b => b < w.heap.size) w := by
  cases ys with
  | nil =>
    refine ⟨.slice none 0 0, 0, [], ⟨Nat.le_refl _, rfl, _, _, rfl, hl, fun h => absurd rfl h⟩, fun b hb => hb, fun i x j v hi hx => by simp at hx⟩
  | cons y ys =>
    obtain ⟨b, off, spot⟩ := a
    have hspot : spot = none := by simpa [Addr.add] using World.cell?_spot (hc 0 y rfl)
    subst hspot
    refine ⟨.slice (some ⟨b, 0, none⟩) 0 0, off, List.replicate off y ++ (y :: ys), ⟨by simp, ?_, _, _, rfl, hl, fun _ => by simp [zeD]⟩, fun b hb => hb, fun i x j v hi hx hv => ?_⟩
    · rw [List.drop_left' (by simp), List.take_length]
    · rw [List.getElem?_append_right (by simpa using hi), List.length_replicate] at hx
      have h1 := hc _ _ hx
      rw [add_plain, show off + (i - off) = i by omega] at h1
      rw [hm] at hv
      have hj : j = 0 := by
        cases j with
        | zero => rfl
        | succ j => simp at hv
      subst hj
      have hv' : m x = v := by simpa using hv
      subst hv'
      show b < w.heap.size ∧ w.cell? ⟨b, i * 1 + 0, none⟩ = some (m x)
      rw [Nat.mul_one, Nat.add_zero]
      exact ⟨zmx h1, h1⟩
section
variable {H : Type} {enc : TypeId × Value → H} {P : Program} {w : World} {base : Nat} {held : Bool} {zbG : Nat} {t e : TypeId} {cs : List Value} {x : DataW H × List MemPlace}
theorem see_strings (ht : P.underlying t = some (.slice e)) (he : P.underlying e = some .string) (hc : P.cellsOf e = 1) (h : DataW.trod enc P w base (fun _ => true) held zbG t cs = some x) :
    ∃ (hd : Hd) (zs : List ByteArray) (vv : Value) (k : Nat) (L : List ByteArray), cs = [hd.v] ∧ Vw vv L 1 k hd.v zs ∧ (roRow encS 1 vv k L).P (fun b => b < w.heap.size) w ∧ ((x.1 = .nil ∧ zs = []) ∨ ∃ B, x.1 = .slice (strs zs) B) := by
  rcases open_strings ht he hc h with ⟨rfl, rfl⟩ | ⟨a, len, cap, zs, rfl, hb, hl, hm, hz, rfl, hcell, hw⟩
  · exact ⟨Hd.nil, [], .slice none 0 0, 0, [], rfl, ⟨Nat.le_refl _, rfl, none, 0, rfl, Nat.le_refl _, fun h => absurd rfl h⟩, ⟨fun b hb => hb, fun i x j v hi hx => by simp at hx⟩, .inl ⟨rfl, rfl⟩⟩
  · rw [if_pos rfl] at hz
    have hlen : (zs.take len).length = len := by rw [List.length_take]; omega
    have hr := znB (enc := encS) (m := fun x => .string x) (fun _ => rfl) (w := w) (a := a) (ys := zs.take len) (cap := cap) (by omega) (fun i y hy => by
      rw [List.getElem?_take] at hy
      split at hy
      · have hi : i < zs.length := (List.getElem?_eq_some_iff.1 hy).1
        rw [hcell i hi, List.getD, hy]; rfl
      · cases hy)
    obtain ⟨vv, k, L, h1, h2⟩ := hr
    rw [hlen] at h1
    exact ⟨⟨some a, len, cap⟩, zs.take len, vv, k, L, rfl, h1, h2, .inr ⟨_, rfl⟩⟩
end
end Go.Proofs.YtgfkogafkhbgnaaDoor
namespace Go.Proofs.YtgfkogafkhbgnaaDoor
open Go.RowKit Go.Lib Go.ChangeShapes Go.WideShapes
set_option linter.unusedVariables false
theorem zhJ {α : Type} (R : Nat → α → Prop) : ∀ n : Nat, (∀ i, i < n → ∃ z, R i z) → ∃ zs : List α, zs.length = n ∧ ∀ i z, zs[i]? = some z → R i z
  | 0, _ => ⟨[], rfl, fun i z h => by simp at h⟩
  | n + 1, h => by
    obtain ⟨zs, h1, h2⟩ := zhJ R n fun i hi => h i (by omega)
    obtain ⟨z, hz⟩ := h n (by omega)
    refine ⟨zs ++ [z], by simp [h1], fun i y hy => ?_⟩
    rcases Nat.lt_or_ge i zs.length with hi | hi
    · rw [List.getElem?_append_left hi] at hy; exact h2 i y hy
    · rw [List.getElem?_append_right hi] at hy
      have h0 : i - zs.length = 0 := by
        rcases Nat.eq_zero_or_pos (i - zs.length) with e | e
        · exact e
        · rw [List.getElem?_eq_none (by simp; omega)] at hy; cases hy
      rw [h0] at hy
      have e : i = n := by omega
      rw [e, ← Option.some.inj hy]; exact hz
/-- A slice that can be read can be read; nothing else is named. -/
theorem zmN {α : Type} {enc : α → List Value} {m : α → Value} (hm : ∀ x, enc x = [m x]) {w : World} {a : Addr} {ys : List α} {cap : Nat} (hl : ys.length ≤ cap) (hc : ∀ i y, ys[i]? = some y → w.cell? (a.add i) = some (m y)) :
    ∃ vv k L, Vw vv L 1 k (.slice (some a) ys.length cap) ys ∧ (roRow enc 1 vv k L).P (fun b => b < w.heap.size) w ∧ ∀ z ∈ L, z ∈ ys := by
  cases ys with
  | nil =>
    refine ⟨.slice none 0 0, 0, [], ⟨Nat.le_refl _, rfl, _, _, rfl, hl, fun h => absurd rfl h⟩, ⟨fun b hb => hb, fun i x j v hi hx => by simp at hx⟩, fun z hz => hz⟩
  | cons y ys =>
    obtain ⟨b, off, spot⟩ := a
    have hspot : spot = none := by simpa [Addr.add] using World.cell?_spot (hc 0 y rfl)
    subst hspot
    refine ⟨.slice (some ⟨b, 0, none⟩) 0 0, off, List.replicate off y ++ (y :: ys), ⟨by simp, ?_, _, _, rfl, hl, fun _ => by simp [zeD]⟩, ⟨fun b hb => hb, fun i x j v hi hx hv => ?_⟩, fun z hz => ?_⟩
    · rw [List.drop_left' (by simp), List.take_length]
    · rw [List.getElem?_append_right (by simpa using hi), List.length_replicate] at hx
      have h1 := hc _ _ hx
      rw [add_plain, show off + (i - off) = i by omega] at h1
      rw [hm] at hv
      have hj : j = 0 := by
        cases j with
        | zero => rfl
        | succ j => simp at hv
      subst hj
      have hv' : m x = v := by simpa using hv
      subst hv'
      show b < w.heap.size ∧ w.cell? ⟨b, i * 1 + 0, none⟩ = some (m x)
      rw [Nat.mul_one, Nat.add_zero]
      exact ⟨zmx h1, h1⟩
    · rcases List.mem_append.1 hz with h | h
      · rw [(List.mem_replicate.1 h).2]; exact List.mem_cons_self ..
      · exact h
section
variable {H : Type} {enc : TypeId × Value → H} {P : Program} {w : World} {base : Nat} {held : Bool} {zbG : Nat} {t e : TypeId} {cs : List Value} {x : DataW H × List MemPlace}
theorem see_each {α : Type} {en : α → List Value} {m : α → Value} (hm : ∀ z, en z = [m z]) (Q : α → DataW H → Prop) (ht : P.underlying t = some (.slice e)) (hc : P.cellsOf e = 1)
    (hd : ∀ n cs y, DataW.trod enc P w base (fun _ => true) held n e cs = some y → ∃ z, cs = en z ∧ Q z y.1)
    (h : DataW.trod enc P w base (fun _ => true) held zbG t cs = some x) :
    ∃ (hd : Hd) (zs : List α) (vv : Value) (k : Nat) (L : List α), cs = [hd.v] ∧ Vw vv L 1 k hd.v zs ∧ (roRow en 1 vv k L).P (fun b => b < w.heap.size) w ∧ (∀ z ∈ L, z ∈ zs) ∧ ((x.1 = .nil ∧ zs = []) ∨ ∃ A B : List (DataW H), x.1 = .slice A B ∧ A.length = zs.length ∧ ∀ (i : Nat) (z : α), zs[i]? = some z → ∃ y, A[i]? = some y ∧ Q z y) := by
  rcases DataW.trod_slice ht h with ⟨rfl, rfl⟩ | ⟨a, len, cap, elems, rest, n, _, rfl, rfl, hb, hl, hm', hlen, hel, hsp, hns⟩
  · exact ⟨Hd.nil, [], .slice none 0 0, 0, [], rfl, ⟨Nat.le_refl _, rfl, none, 0, rfl, Nat.le_refl _, fun h => absurd rfl h⟩, ⟨fun b hb => hb, fun i x j v hi hx => by simp at hx⟩, fun z h => h, .inl ⟨rfl, rfl⟩⟩
  · obtain ⟨zs, z1, z2⟩ := zhJ (fun i z => w.cell? (a.add i) = some (m z) ∧ ∃ y, elems[i]? = some y ∧ Q z y.1) len fun i hi => by
      have h1 := hel i hi
      rw [hc, Nat.mul_one] at h1
      rw [List.getElem?_eq_getElem (by omega)] at h1
      obtain ⟨cs', hcs, hy⟩ := Option.bind_eq_some_iff.1 h1
      obtain ⟨z, rfl, hQ⟩ := hd _ _ _ hy
      rw [hm] at hcs
      exact ⟨z, cell_of_cells?_one hcs, _, List.getElem?_eq_getElem (by omega), hQ⟩
    obtain ⟨vv, k, L, h1, h2, h3⟩ := zmN (enc := en) (m := m) hm (w := w) (a := a) (ys := zs) (cap := cap) (by omega) (fun i y hy => (z2 i y hy).1)
    rw [z1] at h1
    refine ⟨⟨some a, len, cap⟩, zs, vv, k, L, rfl, h1, h2, h3, .inr ⟨_, _, rfl, by rw [List.length_map]; omega, fun i z hz => ?_⟩⟩
    obtain ⟨_, y, hy, hQ⟩ := z2 i z hz
    exact ⟨y.1, by rw [List.getElem?_map, hy]; rfl, hQ⟩
end
end Go.Proofs.YtgfkogafkhbgnaaDoor
namespace Go.Proofs.YtgfkogafkhbgnaaDoor
open Go.RowKit Go.Lib
set_option linter.unusedVariables false
set_option linter.unusedSimpArgs false
theorem zlu (l : List ByteArray) (hl : l.length ≤ 140737488355328) : zbD l l = some true := by
  unfold zbD
  refine zaP (bne_self_eq_false _) (zcx ?_)
  have key : ∀ (n i : Nat), i ≤ l.length → l.length - i < n → za2 (fun _ => none) (za9 l l (some true)) n (i : Int) = some true := by
    intro n
    induction n with
    | zero => intro i h1 h2; omega
    | succ n ih =>
      intro i hi hn
      rw [zbq]
      obtain ⟨ag, hag⟩ : ∃ ag, ag = za2 (fun _ => none) (za9 l l (some true)) n := ⟨_, rfl⟩
      rw [← hag] at ih ⊢
      unfold za9
      rcases Nat.lt_or_ge i l.length with h | h
      · have hg : zdk l (i : Int) = some l[i] := zcb (List.getElem?_eq_getElem h)
        refine zaY (decide_eq_true (by omega)) (za7 hg (za7 hg (zaP (by simp) (zcq ⟨by omega, by omega⟩ ?_))))
        rw [show (i : Int) + 1 = ((i + 1 : Nat) : Int) by omega]
        exact ih (i + 1) (by omega) (by omega)
      · exact zaP (decide_eq_false (by omega)) rfl
  exact key zbG 0 (Nat.zero_le _) (by unfold zbG; omega)
theorem zmu (Z : List (List ByteArray)) (hz : (Z.length + 1) * 24 ≤ 140737488355328) (hr : ∀ r ∈ Z, (r.length + 1) * 16 ≤ 140737488355328) (J : List (List ByteArray) → Option Bool) : ∀ (n i : Nat), i ≤ Z.length → Z.length - i < n →
    za2 (fun _ _ => none) (zbZ Z J) n (Z.take i) (i : Int) = J Z := by
  intro n
  induction n with
  | zero => intro i h1 h2; omega
  | succ n ih =>
    intro i hi hn
    rw [zbq]
    obtain ⟨ag, hag⟩ : ∃ ag, ag = za2 (fun _ _ => none) (zbZ Z J) n := ⟨_, rfl⟩
    rw [← hag] at ih ⊢
    unfold zbZ
    rcases Nat.lt_or_ge i Z.length with h | h
    · have hg : zdk Z (i : Int) = some Z[i] := zcb (List.getElem?_eq_getElem h)
      have hri := hr _ (List.getElem_mem h)
      have hc : zbX Z[i] = some Z[i] := by
        unfold zbX
        exact zcq (by omega) rfl
      have htl : (Z.take i).length = i := by rw [List.length_take]; omega
      refine zaY (decide_eq_true (by omega)) (za7 hg (za7 hc (zcq hri (zcq ⟨by omega, by rw [List.length_append]; simp; omega⟩ (zcq (by rw [htl]; omega) (zcq ⟨by omega, by omega⟩ ?_))))))
      have e : Z.take i ++ [(Z[i] ++ [(⟨#[120]⟩ : ByteArray)]).take ((Z[i].length : Int) : Int).toNat] = Z.take (i + 1) := by
        rw [Int.toNat_natCast, List.take_left' rfl, List.take_add_one, List.getElem?_eq_getElem h]; rfl
      rw [e, show (i : Int) + 1 = ((i + 1 : Nat) : Int) by omega]
      exact ih (i + 1) (by omega) (by omega)
    · rw [List.take_of_length_le h]
      exact zaP (decide_eq_false (by omega)) rfl
theorem zlz (Z : List (List ByteArray)) (hz : Z.length ≤ 140737488355328) (hr : ∀ r ∈ Z, r.length ≤ 140737488355328) (J : Option Gpoem_Poem → Int → Option Bool) (r3 : Option Gpoem_Poem × Int) : ∀ (n i : Nat) (S : List (List ByteArray)), i ≤ Z.length → Z.length - i < n → S.length = Z.length → S.drop i = Z.drop i →
    za2 (fun _ _ => none) (zbY Z Z J r3) n S (i : Int) = J r3.1 r3.2 := by
  intro n
  induction n with
  | zero => intro i S h1 h2; omega
  | succ n ih =>
    intro i S hi hn hS hd
    rw [zbq]
    obtain ⟨ag, hag⟩ : ∃ ag, ag = za2 (fun _ _ => none) (zbY Z Z J r3) n := ⟨_, rfl⟩
    rw [← hag] at ih ⊢
    unfold zbY
    rcases Nat.lt_or_ge i Z.length with h | h
    · have hg : zdk Z (i : Int) = some Z[i] := zcb (List.getElem?_eq_getElem h)
      have hSi : S[i]? = some Z[i] := by
        have := congrArg (fun l => l[0]?) hd
        simp only [List.getElem?_drop, Nat.add_zero] at this
        rw [this, List.getElem?_eq_getElem h]
      have hg2 : zdk S (i : Int) = some Z[i] := zcb hSi
      refine zaY (decide_eq_true (by omega)) (za7 hg2 (za7 hg (za7 (zlu _ (hr _ (List.getElem_mem h))) (zaP rfl (za7 hg2 (zcq ⟨by omega, by omega⟩ ?_))))))
      rw [Int.toNat_natCast, show (i : Int) + 1 = ((i + 1 : Nat) : Int) by omega]
      refine ih (i + 1) _ (by omega) (by omega) (by rw [List.length_set]; exact hS) ?_
      rw [List.drop_set_of_lt (by omega), ← List.drop_drop, hd, List.drop_drop]
    · exact zaP (decide_eq_false (by omega)) rfl
theorem poemMakes_v (t : List UInt8) (z : List Row) (hz : (z.length + 1) * 24 ≤ 140737488355328) (hr : ∀ r ∈ z, (r.length + 1) * 16 ≤ 140737488355328 ∧ ∀ x ∈ r, x.length ≤ 140737488355328) (ht : t.length ≤ 140737488355328) (hw : 1025 + wtZ z ≤ 140737488354000) : zdj (mkB t) (mkZ z) = some true := by
  have hr2 : ∀ r ∈ z, r.length ≤ 140737488355328 ∧ ∀ x ∈ r, x.length ≤ 140737488355328 := fun r h => ⟨by have := (hr r h).1; omega, (hr r h).2⟩
  have hM := zol t z (by omega) hr2
  have hR := zlW t z (by omega) ht hr2 _ rfl
  have hZl : (mkZ z).length = z.length := zcg z
  have hZr : ∀ r ∈ mkZ z, (r.length + 1) * 16 ≤ 140737488355328 := fun r h => by
    obtain ⟨y, hy, rfl⟩ := List.mem_map.1 h
    rw [List.length_map]; exact (hr y hy).1
  have fin : ∀ m e, zej (mkB t) (mkZ z) = some (m, e) → zd0 (mkB t) (mkZ z) = some e → zdh m e (⟨mkB t, mkZ z⟩ : Gref17_Poem) e = some true → zdj (mkB t) (mkZ z) = some true := fun m e h1 h2 h3 => by
    unfold zdj
    refine za7 zlK (zaP rfl (zcx ?_))
    refine (zmu (mkZ z) (by rw [hZl]; exact hz) hZr _ zbG 0 (Nat.zero_le _) (by rw [hZl]; unfold zbG; omega)).trans ?_
    refine zcx (za7 h1 ?_)
    refine (zlz (mkZ z) (by rw [hZl]; omega) (fun r h => by have := hZr r h; omega) _ (m, e) zbG 0 (mkZ z) (Nat.zero_le _) (by rw [hZl]; unfold zbG; omega) rfl rfl).trans ?_
    exact za7 h2 (za7 h3 (zaY rfl (za7 zlK rfl)))
  cases htt : zjG (mkB t) 1022 with
  | false =>
    rw [htt] at hM hR
    exact fin none 170 hM hR (zfX 170 (by decide) _)
  | true =>
    rw [htt, if_pos rfl] at hM hR
    cases hzz : z.all zhC with
    | false =>
      rw [hzz] at hM hR
      exact fin none 170 hM hR (zfX 170 (by decide) _)
    | true =>
      rw [hzz, if_pos rfl] at hM hR
      have hmay := zkm t 1022
      rw [show ((1022 : Nat) : Int) = 1022 from rfl, htt] at hmay
      have hmay := hmay.symm
      rw [Bool.and_eq_true] at hmay
      have htl : t.length ≤ 1022 := of_decide_eq_true hmay.1
      have hg : GoodP t z := by
        refine ⟨fun b hb => ?_, htl, fun r h => ?_, fun r h x hx => ?_⟩
        · have h1 : t.any isE = false := by simpa using hmay.2
          rw [List.any_eq_false] at h1
          simpa using h1 b hb
        · have := List.all_eq_true.1 hzz r h
          unfold zhC at this
          rw [Bool.and_eq_true] at this
          intro e; rw [e] at this; exact absurd this.1 (by decide)
        · have := List.all_eq_true.1 hzz r h
          unfold zhC at this
          rw [Bool.and_eq_true] at this
          exact zna (List.all_eq_true.1 this.2 x hx)
      have hA := zlF hg
      have hmv := zl9 t z hg.ne (by omega)
      have htw := zlM z
      have hzw := wtZ_len z
      have hc : zdv (⟨mkB t, mkZ z⟩ : Gref17_Poem) = some (tot z : Int) := zlg t z (by omega) (by omega)
      by_cases h5 : 512 < tot z
      · refine fin none 3 (by rw [hM, hmv, if_pos (.inl h5)]) ?_ (zfX 3 (by decide) _)
        rw [hR]; exact za7 hc (zaY (decide_eq_true (by omega)) rfl)
      · have hpv := zgQ t z hg.ne (by omega)
        by_cases h6 : 65536 < (prT t z).length
        · refine fin none 3 (by rw [hM, hmv, if_pos (.inr h6)]) ?_ (zfX 3 (by decide) _)
          rw [hR]; exact za7 hc (zaP (decide_eq_false (by omega)) (za7 hpv (zaY (decide_eq_true (by rw [za0]; omega)) rfl)))
        · obtain ⟨p, d1, d2, d3, d4, d5⟩ := zjH hg (by omega) (by omega)
          refine fin (some p) 0 (by rw [hM, d1]) ?_ (ziB d2 d3 d5)
          rw [hR]; exact za7 hc (zaP (decide_eq_false (by omega)) (za7 hpv (zaP (decide_eq_false (by rw [za0]; omega)) rfl)))
end Go.Proofs.YtgfkogafkhbgnaaDoor
