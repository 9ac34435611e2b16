/-
  Texts laid together: LqK, PlPoemJoined. Nothing is assumed.
-/
import Derived.Test.YtgfkogafkhbgnaaDoorPoemJoined5
namespace Go.Proofs.YtgfkogafkhbgnaaDoor
open Go.RowKit Go.Lib
set_option linter.unusedVariables false
set_option linter.unusedSimpArgs false
def law17_PoemJoined_v (a1 : ByteArray) (b1 : ByteArray) (c1 : ByteArray) : Option Bool :=
andThen (law17_works_v) fun (r1 : Bool) =>
bcond (!r1) (
some false
) (
andThen (poem_Read_v a1) fun (r2 : ((Option Gpoem_Poem) × Gapi_Spot)) =>
andThen (poem_Read_v b1) fun (r3 : ((Option Gpoem_Poem) × Gapi_Spot)) =>
andThen (poem_Read_v c1) fun (r4 : ((Option Gpoem_Poem) × Gapi_Spot)) =>
bcond (!(eq_Gapi_Spot r2.2 (⟨0, 0⟩ : Gapi_Spot))) (
andThen (law17_works_v) fun (r5 : Bool) =>
some r5
) (
bcond (!(eq_Gapi_Spot r3.2 (⟨0, 0⟩ : Gapi_Spot))) (
andThen (law17_works_v) fun (r6 : Bool) =>
some r6
) (
bcond (!(eq_Gapi_Spot r4.2 (⟨0, 0⟩ : Gapi_Spot))) (
andThen (law17_works_v) fun (r7 : Bool) =>
some r7
) (
andThen (r2.1) fun (p1 : Gpoem_Poem) =>
andThen (poem_Poem_Lines_v p1) fun (r8 : Int) =>
andThen (r3.1) fun (p2 : Gpoem_Poem) =>
andThen (poem_Poem_Lines_v p2) fun (r9 : Int) =>
grd (I64 (r8 + r9)) <|
andThen (r4.1) fun (p3 : Gpoem_Poem) =>
andThen (poem_Poem_Lines_v p3) fun (r10 : Int) =>
grd (I64 ((r8 + r9) + r10)) <|
bcond (decide ((512 : Int) < ((r8 + r9) + r10))) (
andThen (law17_works_v) fun (r11 : Bool) =>
some r11
) (
andThen (poem_Poem_Print_v p1) fun (r12 : ByteArray) =>
andThen (poem_Poem_Print_v p2) fun (r13 : ByteArray) =>
grd (I64 ((r12.size : Int) + (r13.size : Int))) <|
andThen (poem_Poem_Print_v p3) fun (r14 : ByteArray) =>
grd (I64 (((r12.size : Int) + (r13.size : Int)) + (r14.size : Int))) <|
grd (I64 ((((r12.size : Int) + (r13.size : Int)) + (r14.size : Int)) + 8)) <|
bcond (decide ((65536 : Int) < ((((r12.size : Int) + (r13.size : Int)) + (r14.size : Int)) + 8))) (
andThen (law17_works_v) fun (r15 : Bool) =>
some r15
) (
andThen (poem_Poem_Join_v p1 p2) fun (r16 : ((Option Gpoem_Poem) × Int)) =>
andThen (poem_Poem_Join_v p2 p3) fun (r17 : ((Option Gpoem_Poem) × Int)) =>
bcond ((r16.2 : Int) != 0) (
some false
) (
bcond ((r17.2 : Int) != 0) (
some false
) (
andThen (r16.1) fun (p4 : Gpoem_Poem) =>
andThen (poem_Poem_Join_v p4 p3) fun (r18 : ((Option Gpoem_Poem) × Int)) =>
andThen (r17.1) fun (p5 : Gpoem_Poem) =>
andThen (poem_Poem_Join_v p1 p5) fun (r19 : ((Option Gpoem_Poem) × Int)) =>
bcond ((r18.2 : Int) == 0) (
bcond ((r19.2 : Int) == 0) (
andThen (r18.1) fun (p6 : Gpoem_Poem) =>
andThen (r19.1) fun (p7 : Gpoem_Poem) =>
andThen (poem_Poem_Same_v p6 p7) fun (r20 : Bool) =>
bcond (r20) (
andThen (poem_Poem_Stanzas_v p6) fun (r21 : Int) =>
andThen (poem_Poem_Stanzas_v p1) fun (r22 : Int) =>
andThen (poem_Poem_Stanzas_v p2) fun (r23 : Int) =>
grd (I64 (r22 + r23)) <|
andThen (poem_Poem_Stanzas_v p3) fun (r24 : Int) =>
grd (I64 ((r22 + r23) + r24)) <|
bcond ((r21 : Int) == ((r22 + r23) + r24)) (
andThen (poem_Poem_Title_v p6) fun (r25 : ByteArray) =>
andThen (poem_Poem_Title_v p1) fun (r26 : ByteArray) =>
bcond (decide (r25 = r26)) (
andThen (law17_works_v) fun (r27 : Bool) =>
some r27
) (
some false
)
) (
some false
)
) (
some false
)
) (
some false
)
) (
some false
)
)
)
)
)
)
)
)
)
set_option maxRecDepth 100000 in
set_option maxHeartbeats 4000000 in
theorem law17_PoemJoined_fn {a1 : ByteArray} {b1 : ByteArray} {c1 : ByteArray} {r : Bool} (h : law17_PoemJoined_v a1 b1 c1 = some r) : FnP Tryd.prog 5 [.string a1, .string b1, .string c1] (.bool r) := by
 unfold law17_PoemJoined_v at h
 refine FnP.intro Tryd.func5 rfl Tryd.ntmps5 (by simp) ?_
 intro w0 K
 refine TC.seq (TC.region (TO.assign rfl dc rfl (TO.nil (TX.next (TC.seq (TC.seq (TC.region ?_)))))))
 obtain ⟨r1, hq1, h⟩ := andE h
 refine TO.callP (v := .bool r1) (vs := []) rfl dc rfl rfl rfl en_12 (law17_works_fn hq1) (TO.un rfl dc rfl un_not (TO.nil (TX.next ?_)))
 refine TC.condB rfl (fun hb1 => ?_) (fun hb1 => ?_)
 ·
  have h := condT hb1 h
  refine TC.seq (TC.region (TO.assign rfl dc rfl (TO.nil (TX.next (TC.ret (TX.thenRet ?_))))))
  cases h
  exact TX.fin (rs := [.tmp 6]) () (.inl rfl) Tryd.results5 (.cons (.tmp rfl) .nil) rfl Splits.nil
 ·
  have h := condF hb1 h
  refine TC.skip (TX.next (TC.seq (TC.region (TO.move rfl dc rfl ?_))))
  obtain ⟨r2, hq2, h⟩ := andE h
  refine TO.call (vs := [.string a1]) rfl dc rfl rfl rfl en_13 (poem_Read_fn hq2) Splits.nil ?_
  rintro v1
  show TO _ _ _ _ _ _ _ _ _ _ [pobj encN_Gpoem_Poem nest_Gpoem_Poem 93 v1 r2.1]
  refine TO.weakenL (L' := [pobj encN_Gpoem_Poem nest_Gpoem_Poem 93 v1 r2.1]) (Splits.of [0] kr rfl) (TO.move rfl dc rfl (TO.extract rfl dc rfl rfl (TO.extract rfl dc rfl rfl ?_)))
  refine TO.alloc zr_26 rfl dc (fun b2 => ?_)
  refine TO.assign rfl dc rfl (TO.stores (k := 1) (vs := [.int .i64 r2.2.Err, .int .i64 r2.2.At]) (l' := [.int .i64 r2.2.Err, .int .i64 r2.2.At]) sz_26 rfl rfl rfl rfl rfl (show _ ≤ _ by simp) rfl rfl ?_)
  show TO _ _ _ _ _ _ _ _ _ _ [pobj encN_Gpoem_Poem nest_Gpoem_Poem 93 v1 r2.1, cells b2 [.int .i64 r2.2.Err, .int .i64 r2.2.At] 26]
  refine TO.nil (TX.next (TC.seq (TC.region (TO.move rfl dc rfl ?_))))
  obtain ⟨r3, hq3, h⟩ := andE h
  refine TO.call (vs := [.string b1]) rfl dc rfl rfl rfl en_13 (poem_Read_fn hq3) Splits.nil ?_
  rintro v2
  show TO _ _ _ _ _ _ _ _ _ _ [pobj encN_Gpoem_Poem nest_Gpoem_Poem 93 v1 r2.1, cells b2 [.int .i64 r2.2.Err, .int .i64 r2.2.At] 26, pobj encN_Gpoem_Poem nest_Gpoem_Poem 93 v2 r3.1]
  refine TO.weakenL (L' := [pobj encN_Gpoem_Poem nest_Gpoem_Poem 93 v1 r2.1, cells b2 [.int .i64 r2.2.Err, .int .i64 r2.2.At] 26, pobj encN_Gpoem_Poem nest_Gpoem_Poem 93 v2 r3.1]) (Splits.of [0, 1, 2] kr rfl) (TO.move rfl dc rfl (TO.extract rfl dc rfl rfl (TO.extract rfl dc rfl rfl ?_)))
  refine TO.alloc zr_26 rfl dc (fun b3 => ?_)
  refine TO.assign rfl dc rfl (TO.stores (k := 3) (vs := [.int .i64 r3.2.Err, .int .i64 r3.2.At]) (l' := [.int .i64 r3.2.Err, .int .i64 r3.2.At]) sz_26 rfl rfl rfl rfl rfl (show _ ≤ _ by simp) rfl rfl ?_)
  show TO _ _ _ _ _ _ _ _ _ _ [pobj encN_Gpoem_Poem nest_Gpoem_Poem 93 v1 r2.1, cells b2 [.int .i64 r2.2.Err, .int .i64 r2.2.At] 26, pobj encN_Gpoem_Poem nest_Gpoem_Poem 93 v2 r3.1, cells b3 [.int .i64 r3.2.Err, .int .i64 r3.2.At] 26]
  refine TO.nil (TX.next (TC.seq (TC.region (TO.move rfl dc rfl ?_))))
  obtain ⟨r4, hq4, h⟩ := andE h
  refine TO.call (vs := [.string c1]) rfl dc rfl rfl rfl en_13 (poem_Read_fn hq4) Splits.nil ?_
  rintro v3
  show TO _ _ _ _ _ _ _ _ _ _ [pobj encN_Gpoem_Poem nest_Gpoem_Poem 93 v1 r2.1, cells b2 [.int .i64 r2.2.Err, .int .i64 r2.2.At] 26, pobj encN_Gpoem_Poem nest_Gpoem_Poem 93 v2 r3.1, cells b3 [.int .i64 r3.2.Err, .int .i64 r3.2.At] 26, pobj encN_Gpoem_Poem nest_Gpoem_Poem 93 v3 r4.1]
  refine TO.weakenL (L' := [pobj encN_Gpoem_Poem nest_Gpoem_Poem 93 v1 r2.1, cells b2 [.int .i64 r2.2.Err, .int .i64 r2.2.At] 26, pobj encN_Gpoem_Poem nest_Gpoem_Poem 93 v2 r3.1, cells b3 [.int .i64 r3.2.Err, .int .i64 r3.2.At] 26, pobj encN_Gpoem_Poem nest_Gpoem_Poem 93 v3 r4.1]) (Splits.of [0, 1, 2, 3, 4] kr rfl) (TO.move rfl dc rfl (TO.extract rfl dc rfl rfl (TO.extract rfl dc rfl rfl ?_)))
  refine TO.alloc zr_26 rfl dc (fun b4 => ?_)
  refine TO.assign rfl dc rfl (TO.stores (k := 5) (vs := [.int .i64 r4.2.Err, .int .i64 r4.2.At]) (l' := [.int .i64 r4.2.Err, .int .i64 r4.2.At]) sz_26 rfl rfl rfl rfl rfl (show _ ≤ _ by simp) rfl rfl ?_)
  show TO _ _ _ _ _ _ _ _ _ _ [pobj encN_Gpoem_Poem nest_Gpoem_Poem 93 v1 r2.1, cells b2 [.int .i64 r2.2.Err, .int .i64 r2.2.At] 26, pobj encN_Gpoem_Poem nest_Gpoem_Poem 93 v2 r3.1, cells b3 [.int .i64 r3.2.Err, .int .i64 r3.2.At] 26, pobj encN_Gpoem_Poem nest_Gpoem_Poem 93 v3 r4.1, cells b4 [.int .i64 r4.2.Err, .int .i64 r4.2.At] 26]
  refine TO.nil (TX.next (TC.seq (TC.seq (TC.region (TO.loads (k := 1) (cs := [.int .i64 r2.2.Err, .int .i64 r2.2.At]) rw_26 rfl dc rfl rfl rfl rfl ?_)))))
  refine TO.build (v := .agg #[.int .i64 0, .int .i64 0]) (ps := []) rfl dc rfl (fun _ => by kernel_rfl) ?_
  refine TO.bin rfl dc rfl rfl (bin_neq_26 r2.2 (⟨0, 0⟩ : Gapi_Spot)) (TO.move rfl dc rfl ?_)
  refine TO.split (s := 39) rfl (fun hb2 => ?_) (fun hb2 => ?_)
  ·
   have h := condT hb2 h
   refine TO.skip rfl dc (TO.skip rfl dc (TO.skip rfl dc (TO.pick (b := true) rfl dc rfl rfl (TO.move rfl dc rfl (TO.skip rfl dc (TO.skip rfl dc (TO.skip rfl dc (TO.pick (b := true) rfl dc rfl rfl (TO.move rfl dc rfl (TO.skip rfl dc (TO.skip rfl dc (TO.skip rfl dc (TO.skip rfl dc ?_)))))))))))))
   refine TO.skip rfl dc (TO.skip rfl dc (TO.skip rfl dc (TO.skip rfl dc (TO.skip rfl dc (TO.pick (b := true) rfl dc rfl rfl (TO.move rfl dc rfl (TO.skip rfl dc (TO.skip rfl dc (TO.skip rfl dc (TO.skip rfl dc (TO.skip rfl dc (TO.skip rfl dc (TO.skip rfl dc ?_)))))))))))))
   refine TO.skip rfl dc (TO.skip rfl dc (TO.skip rfl dc (TO.skip rfl dc (TO.skip rfl dc (TO.skip rfl dc (TO.pick (b := true) rfl dc rfl rfl (TO.nil (TX.next (TC.condT rfl (TC.seq (TC.region ?_)))))))))))
   obtain ⟨r5, hq5, h⟩ := andE h
   refine TO.callP (v := .bool r5) (vs := []) rfl dc rfl rfl rfl en_12 (law17_works_fn hq5) (TO.assign rfl dc rfl (TO.nil (TX.next (TC.ret (TX.thenRet ?_)))))
   cases h
   exact TX.fin (rs := [.tmp 6]) () (.inl rfl) Tryd.results5 (.cons (.tmp rfl) .nil) rfl Splits.nil
  ·
   have h := condF hb2 h
   refine TO.loads (k := 3) (cs := [.int .i64 r3.2.Err, .int .i64 r3.2.At]) rw_26 rfl dc rfl rfl rfl rfl ?_
   refine TO.build (v := .agg #[.int .i64 0, .int .i64 0]) (ps := []) rfl dc rfl (fun _ => by kernel_rfl) ?_
   refine TO.bin rfl dc rfl rfl (bin_neq_26 r3.2 (⟨0, 0⟩ : Gapi_Spot)) (TO.pick (b := false) rfl dc rfl rfl (TO.move rfl dc rfl ?_))
   refine TO.split (s := 44) rfl (fun hb3 => ?_) (fun hb3 => ?_)
   ·
    have h := condT hb3 h
    refine TO.skip rfl dc (TO.skip rfl dc (TO.skip rfl dc (TO.pick (b := true) rfl dc rfl rfl (TO.move rfl dc rfl (TO.skip rfl dc (TO.skip rfl dc (TO.skip rfl dc (TO.skip rfl dc (TO.skip rfl dc (TO.skip rfl dc (TO.skip rfl dc (TO.skip rfl dc (TO.skip rfl dc ?_)))))))))))))
    refine TO.pick (b := true) rfl dc rfl rfl (TO.move rfl dc rfl (TO.skip rfl dc (TO.skip rfl dc (TO.skip rfl dc (TO.skip rfl dc (TO.skip rfl dc (TO.skip rfl dc (TO.skip rfl dc (TO.skip rfl dc (TO.skip rfl dc (TO.skip rfl dc (TO.skip rfl dc (TO.skip rfl dc ?_)))))))))))))
    refine TO.skip rfl dc (TO.pick (b := true) rfl dc rfl rfl (TO.nil (TX.next (TC.condT rfl (TC.seq (TC.region ?_))))))
    obtain ⟨r6, hq6, h⟩ := andE h
    refine TO.callP (v := .bool r6) (vs := []) rfl dc rfl rfl rfl en_12 (law17_works_fn hq6) (TO.assign rfl dc rfl (TO.nil (TX.next (TC.ret (TX.thenRet ?_)))))
    cases h
    exact TX.fin (rs := [.tmp 6]) () (.inl rfl) Tryd.results5 (.cons (.tmp rfl) .nil) rfl Splits.nil
   ·
    have h := condF hb3 h
    refine TO.loads (k := 5) (cs := [.int .i64 r4.2.Err, .int .i64 r4.2.At]) rw_26 rfl dc rfl rfl rfl rfl ?_
    refine TO.build (v := .agg #[.int .i64 0, .int .i64 0]) (ps := []) rfl dc rfl (fun _ => by kernel_rfl) ?_
    refine TO.bin rfl dc rfl rfl (bin_neq_26 r4.2 (⟨0, 0⟩ : Gapi_Spot)) (TO.pick (b := false) rfl dc rfl rfl (TO.move rfl dc rfl ?_))
    refine TO.split (s := 49) rfl (fun hb4 => ?_) (fun hb4 => ?_)
    ·
     have h := condT hb4 h
     refine TO.skip rfl dc (TO.skip rfl dc (TO.skip rfl dc (TO.skip rfl dc (TO.skip rfl dc (TO.skip rfl dc (TO.skip rfl dc (TO.skip rfl dc (TO.skip rfl dc (TO.pick (b := true) rfl dc rfl rfl (TO.move rfl dc rfl (TO.skip rfl dc (TO.skip rfl dc (TO.skip rfl dc ?_)))))))))))))
     refine TO.skip rfl dc (TO.skip rfl dc (TO.skip rfl dc (TO.skip rfl dc (TO.skip rfl dc (TO.skip rfl dc (TO.skip rfl dc (TO.skip rfl dc (TO.skip rfl dc (TO.skip rfl dc (TO.pick (b := true) rfl dc rfl rfl (TO.nil (TX.next (TC.condT rfl ?_)))))))))))))
     refine TC.seq (TC.region ?_)
     obtain ⟨r7, hq7, h⟩ := andE h
     refine TO.callP (v := .bool r7) (vs := []) rfl dc rfl rfl rfl en_12 (law17_works_fn hq7) (TO.assign rfl dc rfl (TO.nil (TX.next (TC.ret (TX.thenRet ?_)))))
     cases h
     exact TX.fin (rs := [.tmp 6]) () (.inl rfl) Tryd.results5 (.cons (.tmp rfl) .nil) rfl Splits.nil
    ·
     have h := condF hb4 h
     refine TO.move rfl dc rfl ?_
     obtain ⟨p1, hq8, h⟩ := andE h
     refine TO.entl (As := [pobj encN_Gpoem_Poem nest_Gpoem_Poem 93 v1 r2.1]) (Splits.of [0] kr rfl) (Entl.objOpen hq8) ?_
     rintro ⟨b5, hd1, hd2⟩ hv1
     subst hv1
     show TO _ _ _ _ _ _ _ _ _ _ [emp, cells b2 [.int .i64 r2.2.Err, .int .i64 r2.2.At] 26, pobj encN_Gpoem_Poem nest_Gpoem_Poem 93 v2 r3.1, cells b3 [.int .i64 r3.2.Err, .int .i64 r3.2.At] 26, pobj encN_Gpoem_Poem nest_Gpoem_Poem 93 v3 r4.1, cells b4 [.int .i64 r4.2.Err, .int .i64 r4.2.At] 26, cells b5 [.string p1.told_title, hd1.v, hd2.v, .string p1.source] 93, vec enc_Gapi_Verse 36 6 hd1.v p1.told_lines, vec enc_Gapi_Span 34 2 hd2.v p1.told_stanzas]
     obtain ⟨r8, hq9, h⟩ := andE h
     refine TO.callPR (v := .int .i64 r8) (vs := [.pointer (some ⟨b5, 0, none⟩)]) (Rd.nil : Rd _ _ []) rfl dc rfl rfl rfl en_21 (poem_Poem_Lines_fn (bp1 := b5) (p1 := p1) (p1_h0 := hd1) (p1_h1 := hd2) hq9) (.own (Splits.of [6] (by kernel_rfl) rfl) (fun _ _ h => sepL.one1.1 h) (.own (Splits.of [7] (by kernel_rfl) rfl) (fun _ _ h => sepL.one1.1 h) (.own (Splits.of [8] (by kernel_rfl) rfl) (fun _ _ h => sepL.one1.1 h) .nil))) ?_
     refine TO.move rfl dc rfl ?_
     obtain ⟨p2, hq10, h⟩ := andE h
     refine TO.entl (As := [pobj encN_Gpoem_Poem nest_Gpoem_Poem 93 v2 r3.1]) (Splits.of [2] kr rfl) (Entl.objOpen hq10) ?_
     rintro ⟨b6, hd3, hd4⟩ hv2
     subst hv2
     show TO _ _ _ _ _ _ _ _ _ _ [emp, cells b2 [.int .i64 r2.2.Err, .int .i64 r2.2.At] 26, emp, cells b3 [.int .i64 r3.2.Err, .int .i64 r3.2.At] 26, pobj encN_Gpoem_Poem nest_Gpoem_Poem 93 v3 r4.1, cells b4 [.int .i64 r4.2.Err, .int .i64 r4.2.At] 26, cells b5 [.string p1.told_title, hd1.v, hd2.v, .string p1.source] 93, vec enc_Gapi_Verse 36 6 hd1.v p1.told_lines, vec enc_Gapi_Span 34 2 hd2.v p1.told_stanzas, cells b6 [.string p2.told_title, hd3.v, hd4.v, .string p2.source] 93, vec enc_Gapi_Verse 36 6 hd3.v p2.told_lines, vec enc_Gapi_Span 34 2 hd4.v p2.told_stanzas]
     obtain ⟨r9, hq11, h⟩ := andE h
     refine TO.callPR (v := .int .i64 r9) (vs := [.pointer (some ⟨b6, 0, none⟩)]) (Rd.nil : Rd _ _ []) rfl dc rfl rfl rfl en_21 (poem_Poem_Lines_fn (bp1 := b6) (p1 := p2) (p1_h0 := hd3) (p1_h1 := hd4) hq11) (.own (Splits.of [9] (by kernel_rfl) rfl) (fun _ _ h => sepL.one1.1 h) (.own (Splits.of [10] (by kernel_rfl) rfl) (fun _ _ h => sepL.one1.1 h) (.own (Splits.of [11] (by kernel_rfl) rfl) (fun _ _ h => sepL.one1.1 h) .nil))) ?_
     obtain ⟨hg1, h⟩ := grdE h
     refine TO.bin rfl dc rfl rfl (bin_add (r := r8 + r9) (IntWalk.i64_in _ hg1)) (TO.move rfl dc rfl ?_)
     obtain ⟨p3, hq12, h⟩ := andE h
     refine TO.entl (As := [pobj encN_Gpoem_Poem nest_Gpoem_Poem 93 v3 r4.1]) (Splits.of [4] kr rfl) (Entl.objOpen hq12) ?_
     rintro ⟨b7, hd5, hd6⟩ hv3
     subst hv3
     show TO _ _ _ _ _ _ _ _ _ _ [emp, cells b2 [.int .i64 r2.2.Err, .int .i64 r2.2.At] 26, emp, cells b3 [.int .i64 r3.2.Err, .int .i64 r3.2.At] 26, emp, cells b4 [.int .i64 r4.2.Err, .int .i64 r4.2.At] 26, cells b5 [.string p1.told_title, hd1.v, hd2.v, .string p1.source] 93, vec enc_Gapi_Verse 36 6 hd1.v p1.told_lines, vec enc_Gapi_Span 34 2 hd2.v p1.told_stanzas, cells b6 [.string p2.told_title, hd3.v, hd4.v, .string p2.source] 93, vec enc_Gapi_Verse 36 6 hd3.v p2.told_lines, vec enc_Gapi_Span 34 2 hd4.v p2.told_stanzas, cells b7 [.string p3.told_title, hd5.v, hd6.v, .string p3.source] 93, vec enc_Gapi_Verse 36 6 hd5.v p3.told_lines, vec enc_Gapi_Span 34 2 hd6.v p3.told_stanzas]
     obtain ⟨r10, hq13, h⟩ := andE h
     refine TO.callPR (v := .int .i64 r10) (vs := [.pointer (some ⟨b7, 0, none⟩)]) (Rd.nil : Rd _ _ []) rfl dc rfl rfl rfl en_21 (poem_Poem_Lines_fn (bp1 := b7) (p1 := p3) (p1_h0 := hd5) (p1_h1 := hd6) hq13) (.own (Splits.of [12] (by kernel_rfl) rfl) (fun _ _ h => sepL.one1.1 h) (.own (Splits.of [13] (by kernel_rfl) rfl) (fun _ _ h => sepL.one1.1 h) (.own (Splits.of [14] (by kernel_rfl) rfl) (fun _ _ h => sepL.one1.1 h) .nil))) ?_
     obtain ⟨hg2, h⟩ := grdE h
     refine TO.bin rfl dc rfl rfl (bin_add (r := (r8 + r9) + r10) (IntWalk.i64_in _ hg2)) (TO.bin rfl dc rfl rfl bin_gtr (TO.pick (b := false) rfl dc rfl rfl (TO.move rfl dc rfl ?_)))
     refine TO.split (s := 60) rfl (fun hb5 => ?_) (fun hb5 => ?_)
     ·
      have h := condT hb5 h
      refine TO.skip rfl dc (TO.skip rfl dc (TO.skip rfl dc (TO.skip rfl dc (TO.skip rfl dc (TO.skip rfl dc (TO.skip rfl dc (TO.skip rfl dc (TO.skip rfl dc (TO.skip rfl dc (TO.skip rfl dc (TO.skip rfl dc (TO.skip rfl dc (TO.pick (b := true) rfl dc rfl rfl ?_)))))))))))))
      refine TO.nil (TX.next (TC.condT rfl (TC.seq (TC.region ?_))))
      obtain ⟨r11, hq14, h⟩ := andE h
      refine TO.callP (v := .bool r11) (vs := []) rfl dc rfl rfl rfl en_12 (law17_works_fn hq14) (TO.assign rfl dc rfl (TO.nil (TX.next (TC.ret (TX.thenRet ?_)))))
      cases h
      exact TX.fin (rs := [.tmp 6]) () (.inl rfl) Tryd.results5 (.cons (.tmp rfl) .nil) rfl Splits.nil
     ·
      have h := condF hb5 h
      refine TO.move rfl dc rfl ?_
      obtain ⟨r12, hq15, h⟩ := andE h
      refine TO.callPR (v := .string r12) (vs := [.pointer (some ⟨b5, 0, none⟩)]) (Rd.nil : Rd _ _ []) rfl dc rfl rfl rfl en_18 (poem_Poem_Print_fn (bp1 := b5) (p1 := p1) (p1_h0 := hd1) (p1_h1 := hd2) hq15) (.own (Splits.of [6] (by kernel_rfl) rfl) (fun _ _ h => sepL.one1.1 h) (.own (Splits.of [7] (by kernel_rfl) rfl) (fun _ _ h => sepL.one1.1 h) (.own (Splits.of [8] (by kernel_rfl) rfl) (fun _ _ h => sepL.one1.1 h) .nil))) ?_
      refine TO.lenStr rfl dc rfl Tryd.underlying9 (TO.move rfl dc rfl ?_)
      obtain ⟨r13, hq16, h⟩ := andE h
      refine TO.callPR (v := .string r13) (vs := [.pointer (some ⟨b6, 0, none⟩)]) (Rd.nil : Rd _ _ []) rfl dc rfl rfl rfl en_18 (poem_Poem_Print_fn (bp1 := b6) (p1 := p2) (p1_h0 := hd3) (p1_h1 := hd4) hq16) (.own (Splits.of [9] (by kernel_rfl) rfl) (fun _ _ h => sepL.one1.1 h) (.own (Splits.of [10] (by kernel_rfl) rfl) (fun _ _ h => sepL.one1.1 h) (.own (Splits.of [11] (by kernel_rfl) rfl) (fun _ _ h => sepL.one1.1 h) .nil))) ?_
      refine TO.lenStr rfl dc rfl Tryd.underlying9 ?_
      obtain ⟨hg3, h⟩ := grdE h
      refine TO.bin rfl dc rfl rfl (bin_add (r := (r12.size : Int) + (r13.size : Int)) (IntWalk.i64_in _ hg3)) (TO.move rfl dc rfl ?_)
      obtain ⟨r14, hq17, h⟩ := andE h
      refine TO.callPR (v := .string r14) (vs := [.pointer (some ⟨b7, 0, none⟩)]) (Rd.nil : Rd _ _ []) rfl dc rfl rfl rfl en_18 (poem_Poem_Print_fn (bp1 := b7) (p1 := p3) (p1_h0 := hd5) (p1_h1 := hd6) hq17) (.own (Splits.of [12] (by kernel_rfl) rfl) (fun _ _ h => sepL.one1.1 h) (.own (Splits.of [13] (by kernel_rfl) rfl) (fun _ _ h => sepL.one1.1 h) (.own (Splits.of [14] (by kernel_rfl) rfl) (fun _ _ h => sepL.one1.1 h) .nil))) ?_
      refine TO.lenStr rfl dc rfl Tryd.underlying9 ?_
      obtain ⟨hg4, h⟩ := grdE h
      refine TO.bin rfl dc rfl rfl (bin_add (r := ((r12.size : Int) + (r13.size : Int)) + (r14.size : Int)) (IntWalk.i64_in _ hg4)) ?_
      obtain ⟨hg5, h⟩ := grdE h
      refine TO.bin rfl dc rfl rfl (bin_add (r := (((r12.size : Int) + (r13.size : Int)) + (r14.size : Int)) + 8) (IntWalk.i64_in _ hg5)) (TO.bin rfl dc rfl rfl bin_gtr (TO.pick (b := false) rfl dc rfl rfl (TO.nil (TX.next ?_))))
      refine TC.condB rfl (fun hb6 => ?_) (fun hb6 => ?_)
      ·
       have h := condT hb6 h
       refine TC.seq (TC.region ?_)
       obtain ⟨r15, hq18, h⟩ := andE h
       refine TO.callP (v := .bool r15) (vs := []) rfl dc rfl rfl rfl en_12 (law17_works_fn hq18) (TO.assign rfl dc rfl (TO.nil (TX.next (TC.ret (TX.thenRet ?_)))))
       cases h
       exact TX.fin (rs := [.tmp 6]) () (.inl rfl) Tryd.results5 (.cons (.tmp rfl) .nil) rfl Splits.nil
      ·
       have h := condF hb6 h
       refine TC.skip (TX.next (TC.seq (TC.region (TO.move rfl dc rfl (TO.move rfl dc rfl ?_)))))
       obtain ⟨r16, hq19, h⟩ := andE h
       refine TO.callR (vs := [.pointer (some ⟨b5, 0, none⟩), .pointer (some ⟨b6, 0, none⟩)]) (Rd.nil : Rd _ _ []) rfl dc rfl rfl rfl en_22 (poem_Poem_Join_fn (bp1 := b5) (p1 := p1) (p1_h0 := hd1) (p1_h1 := hd2) (bq1 := b6) (q1 := p2) (q1_h0 := hd3) (q1_h1 := hd4) hq19) Splits.nil (.own (Splits.of [6] (by kernel_rfl) rfl) (fun _ _ h => sepL.one1.1 h) (.own (Splits.of [7] (by kernel_rfl) rfl) (fun _ _ h => sepL.one1.1 h) (.own (Splits.of [8] (by kernel_rfl) rfl) (fun _ _ h => sepL.one1.1 h) (.own (Splits.of [9] (by kernel_rfl) rfl) (fun _ _ h => sepL.one1.1 h) (.own (Splits.of [10] (by kernel_rfl) rfl) (fun _ _ h => sepL.one1.1 h) (.own (Splits.of [11] (by kernel_rfl) rfl) (fun _ _ h => sepL.one1.1 h) .nil)))))) ?_
       rintro v4
       show TO _ _ _ _ _ _ _ _ _ _ [emp, cells b2 [.int .i64 r2.2.Err, .int .i64 r2.2.At] 26, emp, cells b3 [.int .i64 r3.2.Err, .int .i64 r3.2.At] 26, emp, cells b4 [.int .i64 r4.2.Err, .int .i64 r4.2.At] 26, cells b5 [.string p1.told_title, hd1.v, hd2.v, .string p1.source] 93, vec enc_Gapi_Verse 36 6 hd1.v p1.told_lines, vec enc_Gapi_Span 34 2 hd2.v p1.told_stanzas, cells b6 [.string p2.told_title, hd3.v, hd4.v, .string p2.source] 93, vec enc_Gapi_Verse 36 6 hd3.v p2.told_lines, vec enc_Gapi_Span 34 2 hd4.v p2.told_stanzas, cells b7 [.string p3.told_title, hd5.v, hd6.v, .string p3.source] 93, vec enc_Gapi_Verse 36 6 hd5.v p3.told_lines, vec enc_Gapi_Span 34 2 hd6.v p3.told_stanzas, pobj encN_Gpoem_Poem nest_Gpoem_Poem 93 v4 r16.1]
       refine TO.weakenL (L' := [emp, cells b2 [.int .i64 r2.2.Err, .int .i64 r2.2.At] 26, emp, cells b3 [.int .i64 r3.2.Err, .int .i64 r3.2.At] 26, emp, cells b4 [.int .i64 r4.2.Err, .int .i64 r4.2.At] 26, cells b5 [.string p1.told_title, hd1.v, hd2.v, .string p1.source] 93, vec enc_Gapi_Verse 36 6 hd1.v p1.told_lines, vec enc_Gapi_Span 34 2 hd2.v p1.told_stanzas, cells b6 [.string p2.told_title, hd3.v, hd4.v, .string p2.source] 93, vec enc_Gapi_Verse 36 6 hd3.v p2.told_lines, vec enc_Gapi_Span 34 2 hd4.v p2.told_stanzas, cells b7 [.string p3.told_title, hd5.v, hd6.v, .string p3.source] 93, vec enc_Gapi_Verse 36 6 hd5.v p3.told_lines, vec enc_Gapi_Span 34 2 hd6.v p3.told_stanzas, pobj encN_Gpoem_Poem nest_Gpoem_Poem 93 v4 r16.1]) (Splits.of [0, 1, 2, 3, 4, 5, 6, 7, 8, 9, 10, 11, 12, 13, 14, 15] kr rfl) (TO.move rfl dc rfl (TO.extract rfl dc rfl rfl (TO.extract rfl dc rfl rfl (TO.assign rfl dc rfl (TO.assign rfl dc rfl (TO.nil (TX.next (TC.seq (TC.region (TO.move rfl dc rfl (TO.move rfl dc rfl ?_)))))))))))
       obtain ⟨r17, hq20, h⟩ := andE h
       refine TO.callR (vs := [.pointer (some ⟨b6, 0, none⟩), .pointer (some ⟨b7, 0, none⟩)]) (Rd.nil : Rd _ _ []) rfl dc rfl rfl rfl en_22 (poem_Poem_Join_fn (bp1 := b6) (p1 := p2) (p1_h0 := hd3) (p1_h1 := hd4) (bq1 := b7) (q1 := p3) (q1_h0 := hd5) (q1_h1 := hd6) hq20) Splits.nil (.own (Splits.of [9] (by kernel_rfl) rfl) (fun _ _ h => sepL.one1.1 h) (.own (Splits.of [10] (by kernel_rfl) rfl) (fun _ _ h => sepL.one1.1 h) (.own (Splits.of [11] (by kernel_rfl) rfl) (fun _ _ h => sepL.one1.1 h) (.own (Splits.of [12] (by kernel_rfl) rfl) (fun _ _ h => sepL.one1.1 h) (.own (Splits.of [13] (by kernel_rfl) rfl) (fun _ _ h => sepL.one1.1 h) (.own (Splits.of [14] (by kernel_rfl) rfl) (fun _ _ h => sepL.one1.1 h) .nil)))))) ?_
       rintro v5
       show TO _ _ _ _ _ _ _ _ _ _ [emp, cells b2 [.int .i64 r2.2.Err, .int .i64 r2.2.At] 26, emp, cells b3 [.int .i64 r3.2.Err, .int .i64 r3.2.At] 26, emp, cells b4 [.int .i64 r4.2.Err, .int .i64 r4.2.At] 26, cells b5 [.string p1.told_title, hd1.v, hd2.v, .string p1.source] 93, vec enc_Gapi_Verse 36 6 hd1.v p1.told_lines, vec enc_Gapi_Span 34 2 hd2.v p1.told_stanzas, cells b6 [.string p2.told_title, hd3.v, hd4.v, .string p2.source] 93, vec enc_Gapi_Verse 36 6 hd3.v p2.told_lines, vec enc_Gapi_Span 34 2 hd4.v p2.told_stanzas, cells b7 [.string p3.told_title, hd5.v, hd6.v, .string p3.source] 93, vec enc_Gapi_Verse 36 6 hd5.v p3.told_lines, vec enc_Gapi_Span 34 2 hd6.v p3.told_stanzas, pobj encN_Gpoem_Poem nest_Gpoem_Poem 93 v4 r16.1, pobj encN_Gpoem_Poem nest_Gpoem_Poem 93 v5 r17.1]
       refine TO.weakenL (L' := [emp, cells b2 [.int .i64 r2.2.Err, .int .i64 r2.2.At] 26, emp, cells b3 [.int .i64 r3.2.Err, .int .i64 r3.2.At] 26, emp, cells b4 [.int .i64 r4.2.Err, .int .i64 r4.2.At] 26, cells b5 [.string p1.told_title, hd1.v, hd2.v, .string p1.source] 93, vec enc_Gapi_Verse 36 6 hd1.v p1.told_lines, vec enc_Gapi_Span 34 2 hd2.v p1.told_stanzas, cells b6 [.string p2.told_title, hd3.v, hd4.v, .string p2.source] 93, vec enc_Gapi_Verse 36 6 hd3.v p2.told_lines, vec enc_Gapi_Span 34 2 hd4.v p2.told_stanzas, cells b7 [.string p3.told_title, hd5.v, hd6.v, .string p3.source] 93, vec enc_Gapi_Verse 36 6 hd5.v p3.told_lines, vec enc_Gapi_Span 34 2 hd6.v p3.told_stanzas, pobj encN_Gpoem_Poem nest_Gpoem_Poem 93 v4 r16.1, pobj encN_Gpoem_Poem nest_Gpoem_Poem 93 v5 r17.1]) (Splits.of [0, 1, 2, 3, 4, 5, 6, 7, 8, 9, 10, 11, 12, 13, 14, 15, 16] kr rfl) (TO.move rfl dc rfl (TO.extract rfl dc rfl rfl (TO.extract rfl dc rfl rfl (TO.assign rfl dc rfl (TO.assign rfl dc rfl (TO.nil (TX.next (TC.seq (TC.seq (TC.region (TO.move rfl dc rfl (TO.bin rfl dc rfl rfl bin_neq (TO.move rfl dc rfl ?_)))))))))))))
       refine TO.split (s := 90) rfl (fun hb7 => ?_) (fun hb7 => ?_)
       ·
        have h := condT hb7 h
        refine TO.skip rfl dc (TO.skip rfl dc (TO.pick (b := true) rfl dc rfl rfl (TO.nil (TX.next (TC.condT rfl (TC.seq (TC.region (TO.assign rfl dc rfl (TO.nil (TX.next (TC.ret (TX.thenRet ?_))))))))))))
        cases h
        exact TX.fin (rs := [.tmp 6]) () (.inl rfl) Tryd.results5 (.cons (.tmp rfl) .nil) rfl Splits.nil
       ·
        have h := condF hb7 h
        refine TO.move rfl dc rfl (TO.bin rfl dc rfl rfl bin_neq (TO.pick (b := false) rfl dc rfl rfl (TO.nil (TX.next ?_))))
        refine TC.condB rfl (fun hb8 => ?_) (fun hb8 => ?_)
        ·
         have h := condT hb8 h
         refine TC.seq (TC.region (TO.assign rfl dc rfl (TO.nil (TX.next (TC.ret (TX.thenRet ?_))))))
         cases h
         exact TX.fin (rs := [.tmp 6]) () (.inl rfl) Tryd.results5 (.cons (.tmp rfl) .nil) rfl Splits.nil
        ·
         have h := condF hb8 h
         refine TC.skip (TX.next (TC.seq (TC.region (TO.move rfl dc rfl (TO.move rfl dc rfl ?_)))))
         obtain ⟨p4, hq21, h⟩ := andE h
         refine TO.entl (As := [pobj encN_Gpoem_Poem nest_Gpoem_Poem 93 v4 r16.1]) (Splits.of [15] kr rfl) (Entl.objOpen hq21) ?_
         rintro ⟨b8, hd7, hd8⟩ hv4
         subst hv4
         show TO _ _ _ _ _ _ _ _ _ _ [emp, cells b2 [.int .i64 r2.2.Err, .int .i64 r2.2.At] 26, emp, cells b3 [.int .i64 r3.2.Err, .int .i64 r3.2.At] 26, emp, cells b4 [.int .i64 r4.2.Err, .int .i64 r4.2.At] 26, cells b5 [.string p1.told_title, hd1.v, hd2.v, .string p1.source] 93, vec enc_Gapi_Verse 36 6 hd1.v p1.told_lines, vec enc_Gapi_Span 34 2 hd2.v p1.told_stanzas, cells b6 [.string p2.told_title, hd3.v, hd4.v, .string p2.source] 93, vec enc_Gapi_Verse 36 6 hd3.v p2.told_lines, vec enc_Gapi_Span 34 2 hd4.v p2.told_stanzas, cells b7 [.string p3.told_title, hd5.v, hd6.v, .string p3.source] 93, vec enc_Gapi_Verse 36 6 hd5.v p3.told_lines, vec enc_Gapi_Span 34 2 hd6.v p3.told_stanzas, emp, pobj encN_Gpoem_Poem nest_Gpoem_Poem 93 v5 r17.1, cells b8 [.string p4.told_title, hd7.v, hd8.v, .string p4.source] 93, vec enc_Gapi_Verse 36 6 hd7.v p4.told_lines, vec enc_Gapi_Span 34 2 hd8.v p4.told_stanzas]
         obtain ⟨r18, hq22, h⟩ := andE h
         refine TO.callR (vs := [.pointer (some ⟨b8, 0, none⟩), .pointer (some ⟨b7, 0, none⟩)]) (Rd.nil : Rd _ _ []) rfl dc rfl rfl rfl en_22 (poem_Poem_Join_fn (bp1 := b8) (p1 := p4) (p1_h0 := hd7) (p1_h1 := hd8) (bq1 := b7) (q1 := p3) (q1_h0 := hd5) (q1_h1 := hd6) hq22) Splits.nil (.own (Splits.of [17] (by kernel_rfl) rfl) (fun _ _ h => sepL.one1.1 h) (.own (Splits.of [18] (by kernel_rfl) rfl) (fun _ _ h => sepL.one1.1 h) (.own (Splits.of [19] (by kernel_rfl) rfl) (fun _ _ h => sepL.one1.1 h) (.own (Splits.of [12] (by kernel_rfl) rfl) (fun _ _ h => sepL.one1.1 h) (.own (Splits.of [13] (by kernel_rfl) rfl) (fun _ _ h => sepL.one1.1 h) (.own (Splits.of [14] (by kernel_rfl) rfl) (fun _ _ h => sepL.one1.1 h) .nil)))))) ?_
         rintro v6
         show TO _ _ _ _ _ _ _ _ _ _ [emp, cells b2 [.int .i64 r2.2.Err, .int .i64 r2.2.At] 26, emp, cells b3 [.int .i64 r3.2.Err, .int .i64 r3.2.At] 26, emp, cells b4 [.int .i64 r4.2.Err, .int .i64 r4.2.At] 26, cells b5 [.string p1.told_title, hd1.v, hd2.v, .string p1.source] 93, vec enc_Gapi_Verse 36 6 hd1.v p1.told_lines, vec enc_Gapi_Span 34 2 hd2.v p1.told_stanzas, cells b6 [.string p2.told_title, hd3.v, hd4.v, .string p2.source] 93, vec enc_Gapi_Verse 36 6 hd3.v p2.told_lines, vec enc_Gapi_Span 34 2 hd4.v p2.told_stanzas, cells b7 [.string p3.told_title, hd5.v, hd6.v, .string p3.source] 93, vec enc_Gapi_Verse 36 6 hd5.v p3.told_lines, vec enc_Gapi_Span 34 2 hd6.v p3.told_stanzas, emp, pobj encN_Gpoem_Poem nest_Gpoem_Poem 93 v5 r17.1, cells b8 [.string p4.told_title, hd7.v, hd8.v, .string p4.source] 93, vec enc_Gapi_Verse 36 6 hd7.v p4.told_lines, vec enc_Gapi_Span 34 2 hd8.v p4.told_stanzas, pobj encN_Gpoem_Poem nest_Gpoem_Poem 93 v6 r18.1]
         refine TO.weakenL (L' := [emp, cells b2 [.int .i64 r2.2.Err, .int .i64 r2.2.At] 26, emp, cells b3 [.int .i64 r3.2.Err, .int .i64 r3.2.At] 26, emp, cells b4 [.int .i64 r4.2.Err, .int .i64 r4.2.At] 26, cells b5 [.string p1.told_title, hd1.v, hd2.v, .string p1.source] 93, vec enc_Gapi_Verse 36 6 hd1.v p1.told_lines, vec enc_Gapi_Span 34 2 hd2.v p1.told_stanzas, cells b6 [.string p2.told_title, hd3.v, hd4.v, .string p2.source] 93, vec enc_Gapi_Verse 36 6 hd3.v p2.told_lines, vec enc_Gapi_Span 34 2 hd4.v p2.told_stanzas, cells b7 [.string p3.told_title, hd5.v, hd6.v, .string p3.source] 93, vec enc_Gapi_Verse 36 6 hd5.v p3.told_lines, vec enc_Gapi_Span 34 2 hd6.v p3.told_stanzas, emp, pobj encN_Gpoem_Poem nest_Gpoem_Poem 93 v5 r17.1, cells b8 [.string p4.told_title, hd7.v, hd8.v, .string p4.source] 93, vec enc_Gapi_Verse 36 6 hd7.v p4.told_lines, vec enc_Gapi_Span 34 2 hd8.v p4.told_stanzas, pobj encN_Gpoem_Poem nest_Gpoem_Poem 93 v6 r18.1]) (Splits.of [0, 1, 2, 3, 4, 5, 6, 7, 8, 9, 10, 11, 12, 13, 14, 15, 16, 17, 18, 19, 20] kr rfl) (TO.move rfl dc rfl (TO.extract rfl dc rfl rfl (TO.extract rfl dc rfl rfl (TO.assign rfl dc rfl (TO.assign rfl dc rfl (TO.nil (TX.next (TC.seq (TC.region (TO.move rfl dc rfl (TO.move rfl dc rfl ?_)))))))))))
         obtain ⟨p5, hq23, h⟩ := andE h
         refine TO.entl (As := [pobj encN_Gpoem_Poem nest_Gpoem_Poem 93 v5 r17.1]) (Splits.of [16] kr rfl) (Entl.objOpen hq23) ?_
         rintro ⟨b9, hd9, hd10⟩ hv5
         subst hv5
         show TO _ _ _ _ _ _ _ _ _ _ [emp, cells b2 [.int .i64 r2.2.Err, .int .i64 r2.2.At] 26, emp, cells b3 [.int .i64 r3.2.Err, .int .i64 r3.2.At] 26, emp, cells b4 [.int .i64 r4.2.Err, .int .i64 r4.2.At] 26, cells b5 [.string p1.told_title, hd1.v, hd2.v, .string p1.source] 93, vec enc_Gapi_Verse 36 6 hd1.v p1.told_lines, vec enc_Gapi_Span 34 2 hd2.v p1.told_stanzas, cells b6 [.string p2.told_title, hd3.v, hd4.v, .string p2.source] 93, vec enc_Gapi_Verse 36 6 hd3.v p2.told_lines, vec enc_Gapi_Span 34 2 hd4.v p2.told_stanzas, cells b7 [.string p3.told_title, hd5.v, hd6.v, .string p3.source] 93, vec enc_Gapi_Verse 36 6 hd5.v p3.told_lines, vec enc_Gapi_Span 34 2 hd6.v p3.told_stanzas, emp, emp, cells b8 [.string p4.told_title, hd7.v, hd8.v, .string p4.source] 93, vec enc_Gapi_Verse 36 6 hd7.v p4.told_lines, vec enc_Gapi_Span 34 2 hd8.v p4.told_stanzas, pobj encN_Gpoem_Poem nest_Gpoem_Poem 93 v6 r18.1, cells b9 [.string p5.told_title, hd9.v, hd10.v, .string p5.source] 93, vec enc_Gapi_Verse 36 6 hd9.v p5.told_lines, vec enc_Gapi_Span 34 2 hd10.v p5.told_stanzas]
         obtain ⟨r19, hq24, h⟩ := andE h
         refine TO.callR (vs := [.pointer (some ⟨b5, 0, none⟩), .pointer (some ⟨b9, 0, none⟩)]) (Rd.nil : Rd _ _ []) rfl dc rfl rfl rfl en_22 (poem_Poem_Join_fn (bp1 := b5) (p1 := p1) (p1_h0 := hd1) (p1_h1 := hd2) (bq1 := b9) (q1 := p5) (q1_h0 := hd9) (q1_h1 := hd10) hq24) Splits.nil (.own (Splits.of [6] (by kernel_rfl) rfl) (fun _ _ h => sepL.one1.1 h) (.own (Splits.of [7] (by kernel_rfl) rfl) (fun _ _ h => sepL.one1.1 h) (.own (Splits.of [8] (by kernel_rfl) rfl) (fun _ _ h => sepL.one1.1 h) (.own (Splits.of [21] (by kernel_rfl) rfl) (fun _ _ h => sepL.one1.1 h) (.own (Splits.of [22] (by kernel_rfl) rfl) (fun _ _ h => sepL.one1.1 h) (.own (Splits.of [23] (by kernel_rfl) rfl) (fun _ _ h => sepL.one1.1 h) .nil)))))) ?_
         rintro v7
         show TO _ _ _ _ _ _ _ _ _ _ [emp, cells b2 [.int .i64 r2.2.Err, .int .i64 r2.2.At] 26, emp, cells b3 [.int .i64 r3.2.Err, .int .i64 r3.2.At] 26, emp, cells b4 [.int .i64 r4.2.Err, .int .i64 r4.2.At] 26, cells b5 [.string p1.told_title, hd1.v, hd2.v, .string p1.source] 93, vec enc_Gapi_Verse 36 6 hd1.v p1.told_lines, vec enc_Gapi_Span 34 2 hd2.v p1.told_stanzas, cells b6 [.string p2.told_title, hd3.v, hd4.v, .string p2.source] 93, vec enc_Gapi_Verse 36 6 hd3.v p2.told_lines, vec enc_Gapi_Span 34 2 hd4.v p2.told_stanzas, cells b7 [.string p3.told_title, hd5.v, hd6.v, .string p3.source] 93, vec enc_Gapi_Verse 36 6 hd5.v p3.told_lines, vec enc_Gapi_Span 34 2 hd6.v p3.told_stanzas, emp, emp, cells b8 [.string p4.told_title, hd7.v, hd8.v, .string p4.source] 93, vec enc_Gapi_Verse 36 6 hd7.v p4.told_lines, vec enc_Gapi_Span 34 2 hd8.v p4.told_stanzas, pobj encN_Gpoem_Poem nest_Gpoem_Poem 93 v6 r18.1, cells b9 [.string p5.told_title, hd9.v, hd10.v, .string p5.source] 93, vec enc_Gapi_Verse 36 6 hd9.v p5.told_lines, vec enc_Gapi_Span 34 2 hd10.v p5.told_stanzas, pobj encN_Gpoem_Poem nest_Gpoem_Poem 93 v7 r19.1]
         refine TO.weakenL (L' := [emp, cells b2 [.int .i64 r2.2.Err, .int .i64 r2.2.At] 26, emp, cells b3 [.int .i64 r3.2.Err, .int .i64 r3.2.At] 26, emp, cells b4 [.int .i64 r4.2.Err, .int .i64 r4.2.At] 26, cells b5 [.string p1.told_title, hd1.v, hd2.v, .string p1.source] 93, vec enc_Gapi_Verse 36 6 hd1.v p1.told_lines, vec enc_Gapi_Span 34 2 hd2.v p1.told_stanzas, cells b6 [.string p2.told_title, hd3.v, hd4.v, .string p2.source] 93, vec enc_Gapi_Verse 36 6 hd3.v p2.told_lines, vec enc_Gapi_Span 34 2 hd4.v p2.told_stanzas, cells b7 [.string p3.told_title, hd5.v, hd6.v, .string p3.source] 93, vec enc_Gapi_Verse 36 6 hd5.v p3.told_lines, vec enc_Gapi_Span 34 2 hd6.v p3.told_stanzas, emp, emp, cells b8 [.string p4.told_title, hd7.v, hd8.v, .string p4.source] 93, vec enc_Gapi_Verse 36 6 hd7.v p4.told_lines, vec enc_Gapi_Span 34 2 hd8.v p4.told_stanzas, pobj encN_Gpoem_Poem nest_Gpoem_Poem 93 v6 r18.1, cells b9 [.string p5.told_title, hd9.v, hd10.v, .string p5.source] 93, vec enc_Gapi_Verse 36 6 hd9.v p5.told_lines, vec enc_Gapi_Span 34 2 hd10.v p5.told_stanzas, pobj encN_Gpoem_Poem nest_Gpoem_Poem 93 v7 r19.1]) (Splits.of [0, 1, 2, 3, 4, 5, 6, 7, 8, 9, 10, 11, 12, 13, 14, 15, 16, 17, 18, 19, 20, 21, 22, 23, 24] kr rfl) (TO.move rfl dc rfl (TO.extract rfl dc rfl rfl (TO.extract rfl dc rfl rfl (TO.assign rfl dc rfl (TO.assign rfl dc rfl (TO.nil (TX.next (TC.seq (TC.region (TO.move rfl dc rfl (TO.bin rfl dc rfl rfl bin_eql (TO.move rfl dc rfl ?_))))))))))))
         refine TO.split (s := 108) rfl (fun hb9 => ?_) (fun hb9 => ?_)
         ·
          have h := condT hb9 h
          refine TO.move rfl dc rfl (TO.bin rfl dc rfl rfl bin_eql (TO.pick (b := true) rfl dc rfl rfl (TO.move rfl dc rfl ?_)))
          refine TO.split (s := 112) rfl (fun hb10 => ?_) (fun hb10 => ?_)
          ·
           have h := condT hb10 h
           refine TO.move rfl dc rfl (TO.move rfl dc rfl ?_)
           obtain ⟨p6, hq25, h⟩ := andE h
           refine TO.entl (As := [pobj encN_Gpoem_Poem nest_Gpoem_Poem 93 v6 r18.1]) (Splits.of [20] kr rfl) (Entl.objOpen hq25) ?_
           rintro ⟨b10, hd11, hd12⟩ hv6
           subst hv6
           show TO _ _ _ _ _ _ _ _ _ _ [emp, cells b2 [.int .i64 r2.2.Err, .int .i64 r2.2.At] 26, emp, cells b3 [.int .i64 r3.2.Err, .int .i64 r3.2.At] 26, emp, cells b4 [.int .i64 r4.2.Err, .int .i64 r4.2.At] 26, cells b5 [.string p1.told_title, hd1.v, hd2.v, .string p1.source] 93, vec enc_Gapi_Verse 36 6 hd1.v p1.told_lines, vec enc_Gapi_Span 34 2 hd2.v p1.told_stanzas, cells b6 [.string p2.told_title, hd3.v, hd4.v, .string p2.source] 93, vec enc_Gapi_Verse 36 6 hd3.v p2.told_lines, vec enc_Gapi_Span 34 2 hd4.v p2.told_stanzas, cells b7 [.string p3.told_title, hd5.v, hd6.v, .string p3.source] 93, vec enc_Gapi_Verse 36 6 hd5.v p3.told_lines, vec enc_Gapi_Span 34 2 hd6.v p3.told_stanzas, emp, emp, cells b8 [.string p4.told_title, hd7.v, hd8.v, .string p4.source] 93, vec enc_Gapi_Verse 36 6 hd7.v p4.told_lines, vec enc_Gapi_Span 34 2 hd8.v p4.told_stanzas, emp, cells b9 [.string p5.told_title, hd9.v, hd10.v, .string p5.source] 93, vec enc_Gapi_Verse 36 6 hd9.v p5.told_lines, vec enc_Gapi_Span 34 2 hd10.v p5.told_stanzas, pobj encN_Gpoem_Poem nest_Gpoem_Poem 93 v7 r19.1, cells b10 [.string p6.told_title, hd11.v, hd12.v, .string p6.source] 93, vec enc_Gapi_Verse 36 6 hd11.v p6.told_lines, vec enc_Gapi_Span 34 2 hd12.v p6.told_stanzas]
           obtain ⟨p7, hq26, h⟩ := andE h
           refine TO.entl (As := [pobj encN_Gpoem_Poem nest_Gpoem_Poem 93 v7 r19.1]) (Splits.of [24] kr rfl) (Entl.objOpen hq26) ?_
           rintro ⟨b11, hd13, hd14⟩ hv7
           subst hv7
           show TO _ _ _ _ _ _ _ _ _ _ [emp, cells b2 [.int .i64 r2.2.Err, .int .i64 r2.2.At] 26, emp, cells b3 [.int .i64 r3.2.Err, .int .i64 r3.2.At] 26, emp, cells b4 [.int .i64 r4.2.Err, .int .i64 r4.2.At] 26, cells b5 [.string p1.told_title, hd1.v, hd2.v, .string p1.source] 93, vec enc_Gapi_Verse 36 6 hd1.v p1.told_lines, vec enc_Gapi_Span 34 2 hd2.v p1.told_stanzas, cells b6 [.string p2.told_title, hd3.v, hd4.v, .string p2.source] 93, vec enc_Gapi_Verse 36 6 hd3.v p2.told_lines, vec enc_Gapi_Span 34 2 hd4.v p2.told_stanzas, cells b7 [.string p3.told_title, hd5.v, hd6.v, .string p3.source] 93, vec enc_Gapi_Verse 36 6 hd5.v p3.told_lines, vec enc_Gapi_Span 34 2 hd6.v p3.told_stanzas, emp, emp, cells b8 [.string p4.told_title, hd7.v, hd8.v, .string p4.source] 93, vec enc_Gapi_Verse 36 6 hd7.v p4.told_lines, vec enc_Gapi_Span 34 2 hd8.v p4.told_stanzas, emp, cells b9 [.string p5.told_title, hd9.v, hd10.v, .string p5.source] 93, vec enc_Gapi_Verse 36 6 hd9.v p5.told_lines, vec enc_Gapi_Span 34 2 hd10.v p5.told_stanzas, emp, cells b10 [.string p6.told_title, hd11.v, hd12.v, .string p6.source] 93, vec enc_Gapi_Verse 36 6 hd11.v p6.told_lines, vec enc_Gapi_Span 34 2 hd12.v p6.told_stanzas, cells b11 [.string p7.told_title, hd13.v, hd14.v, .string p7.source] 93, vec enc_Gapi_Verse 36 6 hd13.v p7.told_lines, vec enc_Gapi_Span 34 2 hd14.v p7.told_stanzas]
           obtain ⟨r20, hq27, h⟩ := andE h
           refine TO.callPR (v := .bool r20) (vs := [.pointer (some ⟨b10, 0, none⟩), .pointer (some ⟨b11, 0, none⟩)]) (Rd.nil : Rd _ _ []) rfl dc rfl rfl rfl en_19 (poem_Poem_Same_fn (bp1 := b10) (p1 := p6) (p1_h0 := hd11) (p1_h1 := hd12) (bq1 := b11) (q1 := p7) (q1_h0 := hd13) (q1_h1 := hd14) hq27) (.own (Splits.of [25] (by kernel_rfl) rfl) (fun _ _ h => sepL.one1.1 h) (.own (Splits.of [26] (by kernel_rfl) rfl) (fun _ _ h => sepL.one1.1 h) (.own (Splits.of [27] (by kernel_rfl) rfl) (fun _ _ h => sepL.one1.1 h) (.own (Splits.of [28] (by kernel_rfl) rfl) (fun _ _ h => sepL.one1.1 h) (.own (Splits.of [29] (by kernel_rfl) rfl) (fun _ _ h => sepL.one1.1 h) (.own (Splits.of [30] (by kernel_rfl) rfl) (fun _ _ h => sepL.one1.1 h) .nil)))))) ?_
           refine TO.pick (b := true) rfl dc rfl rfl (TO.move rfl dc rfl ?_)
           refine TO.split (s := 117) rfl (fun hb11 => ?_) (fun hb11 => ?_)
           ·
            have h := condT hb11 h
            refine TO.move rfl dc rfl ?_
            obtain ⟨r21, hq28, h⟩ := andE h
            refine TO.callPR (v := .int .i64 r21) (vs := [.pointer (some ⟨b10, 0, none⟩)]) (Rd.nil : Rd _ _ []) rfl dc rfl rfl rfl en_23 (poem_Poem_Stanzas_fn (bp1 := b10) (p1 := p6) (p1_h0 := hd11) (p1_h1 := hd12) hq28) (.own (Splits.of [25] (by kernel_rfl) rfl) (fun _ _ h => sepL.one1.1 h) (.own (Splits.of [26] (by kernel_rfl) rfl) (fun _ _ h => sepL.one1.1 h) (.own (Splits.of [27] (by kernel_rfl) rfl) (fun _ _ h => sepL.one1.1 h) .nil))) ?_
            refine TO.move rfl dc rfl ?_
            obtain ⟨r22, hq29, h⟩ := andE h
            refine TO.callPR (v := .int .i64 r22) (vs := [.pointer (some ⟨b5, 0, none⟩)]) (Rd.nil : Rd _ _ []) rfl dc rfl rfl rfl en_23 (poem_Poem_Stanzas_fn (bp1 := b5) (p1 := p1) (p1_h0 := hd1) (p1_h1 := hd2) hq29) (.own (Splits.of [6] (by kernel_rfl) rfl) (fun _ _ h => sepL.one1.1 h) (.own (Splits.of [7] (by kernel_rfl) rfl) (fun _ _ h => sepL.one1.1 h) (.own (Splits.of [8] (by kernel_rfl) rfl) (fun _ _ h => sepL.one1.1 h) .nil))) ?_
            refine TO.move rfl dc rfl ?_
            obtain ⟨r23, hq30, h⟩ := andE h
            refine TO.callPR (v := .int .i64 r23) (vs := [.pointer (some ⟨b6, 0, none⟩)]) (Rd.nil : Rd _ _ []) rfl dc rfl rfl rfl en_23 (poem_Poem_Stanzas_fn (bp1 := b6) (p1 := p2) (p1_h0 := hd3) (p1_h1 := hd4) hq30) (.own (Splits.of [9] (by kernel_rfl) rfl) (fun _ _ h => sepL.one1.1 h) (.own (Splits.of [10] (by kernel_rfl) rfl) (fun _ _ h => sepL.one1.1 h) (.own (Splits.of [11] (by kernel_rfl) rfl) (fun _ _ h => sepL.one1.1 h) .nil))) ?_
            obtain ⟨hg6, h⟩ := grdE h
            refine TO.bin rfl dc rfl rfl (bin_add (r := r22 + r23) (IntWalk.i64_in _ hg6)) (TO.move rfl dc rfl ?_)
            obtain ⟨r24, hq31, h⟩ := andE h
            refine TO.callPR (v := .int .i64 r24) (vs := [.pointer (some ⟨b7, 0, none⟩)]) (Rd.nil : Rd _ _ []) rfl dc rfl rfl rfl en_23 (poem_Poem_Stanzas_fn (bp1 := b7) (p1 := p3) (p1_h0 := hd5) (p1_h1 := hd6) hq31) (.own (Splits.of [12] (by kernel_rfl) rfl) (fun _ _ h => sepL.one1.1 h) (.own (Splits.of [13] (by kernel_rfl) rfl) (fun _ _ h => sepL.one1.1 h) (.own (Splits.of [14] (by kernel_rfl) rfl) (fun _ _ h => sepL.one1.1 h) .nil))) ?_
            obtain ⟨hg7, h⟩ := grdE h
            refine TO.bin rfl dc rfl rfl (bin_add (r := (r22 + r23) + r24) (IntWalk.i64_in _ hg7)) (TO.bin rfl dc rfl rfl bin_eql (TO.pick (b := true) rfl dc rfl rfl (TO.move rfl dc rfl ?_)))
            refine TO.split (s := 130) rfl (fun hb12 => ?_) (fun hb12 => ?_)
            ·
             have h := condT hb12 h
             refine TO.move rfl dc rfl ?_
             obtain ⟨r25, hq32, h⟩ := andE h
             refine TO.callPR (v := .string r25) (vs := [.pointer (some ⟨b10, 0, none⟩)]) (Rd.nil : Rd _ _ []) rfl dc rfl rfl rfl en_24 (poem_Poem_Title_fn (bp1 := b10) (p1 := p6) (p1_h0 := hd11) (p1_h1 := hd12) hq32) (.own (Splits.of [25] (by kernel_rfl) rfl) (fun _ _ h => sepL.one1.1 h) (.own (Splits.of [26] (by kernel_rfl) rfl) (fun _ _ h => sepL.one1.1 h) (.own (Splits.of [27] (by kernel_rfl) rfl) (fun _ _ h => sepL.one1.1 h) .nil))) ?_
             refine TO.move rfl dc rfl ?_
             obtain ⟨r26, hq33, h⟩ := andE h
             refine TO.callPR (v := .string r26) (vs := [.pointer (some ⟨b5, 0, none⟩)]) (Rd.nil : Rd _ _ []) rfl dc rfl rfl rfl en_24 (poem_Poem_Title_fn (bp1 := b5) (p1 := p1) (p1_h0 := hd1) (p1_h1 := hd2) hq33) (.own (Splits.of [6] (by kernel_rfl) rfl) (fun _ _ h => sepL.one1.1 h) (.own (Splits.of [7] (by kernel_rfl) rfl) (fun _ _ h => sepL.one1.1 h) (.own (Splits.of [8] (by kernel_rfl) rfl) (fun _ _ h => sepL.one1.1 h) .nil))) ?_
             refine TO.bin rfl dc rfl rfl bin_seql (TO.pick (b := true) rfl dc rfl rfl (TO.move rfl dc rfl ?_))
             refine TO.split (s := 137) rfl (fun hb13 => ?_) (fun hb13 => ?_)
             ·
              have h := condT hb13 h
              obtain ⟨r27, hq34, h⟩ := andE h
              refine TO.callP (v := .bool r27) (vs := []) rfl dc rfl rfl rfl en_12 (law17_works_fn hq34) (TO.pick (b := true) rfl dc rfl rfl (TO.assign rfl dc rfl (TO.nil (TX.next (TC.ret ?_)))))
              cases h
              exact TX.fin (rs := [.tmp 6]) () (.inl rfl) Tryd.results5 (.cons (.tmp rfl) .nil) rfl Splits.nil
             ·
              have h := condF hb13 h
              refine TO.skip rfl dc (TO.pick (b := false) rfl dc rfl rfl (TO.assign rfl dc rfl (TO.nil (TX.next (TC.ret ?_)))))
              cases h
              exact TX.fin (rs := [.tmp 6]) () (.inl rfl) Tryd.results5 (.cons (.tmp rfl) .nil) rfl Splits.nil
            ·
             have h := condF hb12 h
             refine TO.skip rfl dc (TO.skip rfl dc (TO.skip rfl dc (TO.skip rfl dc (TO.skip rfl dc (TO.pick (b := false) rfl dc rfl rfl (TO.move rfl dc rfl (TO.skip rfl dc (TO.pick (b := false) rfl dc rfl rfl (TO.assign rfl dc rfl (TO.nil (TX.next (TC.ret ?_))))))))))))
             cases h
             exact TX.fin (rs := [.tmp 6]) () (.inl rfl) Tryd.results5 (.cons (.tmp rfl) .nil) rfl Splits.nil
           ·
            have h := condF hb11 h
            refine TO.skip rfl dc (TO.skip rfl dc (TO.skip rfl dc (TO.skip rfl dc (TO.skip rfl dc (TO.skip rfl dc (TO.skip rfl dc (TO.skip rfl dc (TO.skip rfl dc (TO.skip rfl dc (TO.skip rfl dc (TO.pick (b := false) rfl dc rfl rfl (TO.move rfl dc rfl (TO.skip rfl dc ?_)))))))))))))
            refine TO.skip rfl dc (TO.skip rfl dc (TO.skip rfl dc (TO.skip rfl dc (TO.pick (b := false) rfl dc rfl rfl (TO.move rfl dc rfl (TO.skip rfl dc (TO.pick (b := false) rfl dc rfl rfl (TO.assign rfl dc rfl (TO.nil (TX.next (TC.ret ?_)))))))))))
            cases h
            exact TX.fin (rs := [.tmp 6]) () (.inl rfl) Tryd.results5 (.cons (.tmp rfl) .nil) rfl Splits.nil
          ·
           have h := condF hb10 h
           refine TO.skip rfl dc (TO.skip rfl dc (TO.skip rfl dc (TO.pick (b := false) rfl dc rfl rfl (TO.move rfl dc rfl (TO.skip rfl dc (TO.skip rfl dc (TO.skip rfl dc (TO.skip rfl dc (TO.skip rfl dc (TO.skip rfl dc (TO.skip rfl dc (TO.skip rfl dc (TO.skip rfl dc ?_)))))))))))))
           refine TO.skip rfl dc (TO.skip rfl dc (TO.pick (b := false) rfl dc rfl rfl (TO.move rfl dc rfl (TO.skip rfl dc (TO.skip rfl dc (TO.skip rfl dc (TO.skip rfl dc (TO.skip rfl dc (TO.pick (b := false) rfl dc rfl rfl (TO.move rfl dc rfl (TO.skip rfl dc (TO.pick (b := false) rfl dc rfl rfl (TO.assign rfl dc rfl ?_)))))))))))))
           refine TO.nil (TX.next (TC.ret ?_))
           cases h
           exact TX.fin (rs := [.tmp 6]) () (.inl rfl) Tryd.results5 (.cons (.tmp rfl) .nil) rfl Splits.nil
         ·
          have h := condF hb9 h
          refine TO.skip rfl dc (TO.skip rfl dc (TO.pick (b := false) rfl dc rfl rfl (TO.move rfl dc rfl (TO.skip rfl dc (TO.skip rfl dc (TO.skip rfl dc (TO.pick (b := false) rfl dc rfl rfl (TO.move rfl dc rfl (TO.skip rfl dc (TO.skip rfl dc (TO.skip rfl dc (TO.skip rfl dc (TO.skip rfl dc ?_)))))))))))))
          refine TO.skip rfl dc (TO.skip rfl dc (TO.skip rfl dc (TO.skip rfl dc (TO.skip rfl dc (TO.skip rfl dc (TO.pick (b := false) rfl dc rfl rfl (TO.move rfl dc rfl (TO.skip rfl dc (TO.skip rfl dc (TO.skip rfl dc (TO.skip rfl dc (TO.skip rfl dc (TO.pick (b := false) rfl dc rfl rfl ?_)))))))))))))
          refine TO.move rfl dc rfl (TO.skip rfl dc (TO.pick (b := false) rfl dc rfl rfl (TO.assign rfl dc rfl (TO.nil (TX.next (TC.ret ?_))))))
          cases h
          exact TX.fin (rs := [.tmp 6]) () (.inl rfl) Tryd.results5 (.cons (.tmp rfl) .nil) rfl Splits.nil
end Go.Proofs.YtgfkogafkhbgnaaDoor
namespace Go.Proofs.YtgfkogafkhbgnaaDoor
open Go.RowKit Go.Lib
set_option linter.unusedVariables false
set_option linter.unusedSimpArgs false
theorem poemJoined_v (A B C : List UInt8) : law17_PoemJoined_v (mkB A) (mkB B) (mkB C) = some true := by
  unfold law17_PoemJoined_v
  refine thenI works_v (condFI rfl ?_)
  obtain ⟨x1, ha⟩ : ∃ x, poem_Read_v (mkB A) = some x := by
    rcases rd_cases A with ⟨e, _, h⟩ | ⟨p, t, z, _, h⟩ <;> exact ⟨_, h⟩
  obtain ⟨x2, hb⟩ : ∃ x, poem_Read_v (mkB B) = some x := by
    rcases rd_cases B with ⟨e, _, h⟩ | ⟨p, t, z, _, h⟩ <;> exact ⟨_, h⟩
  obtain ⟨x3, hc⟩ : ∃ x, poem_Read_v (mkB C) = some x := by
    rcases rd_cases C with ⟨e, _, h⟩ | ⟨p, t, z, _, h⟩ <;> exact ⟨_, h⟩
  refine thenI ha (thenI hb (thenI hc ?_))
  rcases rd_cases A with ⟨e, he, h⟩ | ⟨p, t, z, hp, h⟩
  · have := Option.some.inj (ha.symm.trans h)
    subst this
    exact condTI he (thenI works_v rfl)
  have := Option.some.inj (ha.symm.trans h)
  subst this
  refine condFI rfl ?_
  rcases rd_cases B with ⟨e, he, h⟩ | ⟨q, t', z', hq, h⟩
  · have := Option.some.inj (hb.symm.trans h)
    subst this
    exact condTI he (thenI works_v rfl)
  have := Option.some.inj (hb.symm.trans h)
  subst this
  refine condFI rfl ?_
  rcases rd_cases C with ⟨e, he, h⟩ | ⟨r, t'', z'', hr, h⟩
  · have := Option.some.inj (hc.symm.trans h)
    subst this
    exact condTI he (thenI works_v rfl)
  have := Option.some.inj (hc.symm.trans h)
  subst this
  have l1 := hp.len
  have l2 := hq.len
  have l3 := hr.len
  have m1 := hp.most
  have m2 := hq.most
  have m3 := hr.most
  have z1 := tot_ge z hp.ne
  have z2 := tot_ge z' hq.ne
  have z3 := tot_ge z'' hr.ne
  refine condFI rfl (thenI rfl (thenI rfl (thenI rfl (thenI rfl (grdI ⟨by omega, by omega⟩ (thenI rfl (thenI rfl (grdI ⟨by omega, by omega⟩ ?_))))))))
  by_cases h5 : 512 < tot z + tot z' + tot z''
  · exact condTI (decide_eq_true (by omega)) (thenI works_v rfl)
  refine condFI (decide_eq_false (by omega)) ?_
  have w1 := hp.wt
  have w2 := hq.wt
  have w3 := hr.wt
  have p1 := prT_len t z
  have p2 := prT_len t' z'
  have p3 := prT_len t'' z''
  refine thenI hp.print (thenI hq.print (grdI (by rw [mkB_size, mkB_size]; exact ⟨by omega, by omega⟩) (thenI hr.print (grdI (by rw [mkB_size, mkB_size, mkB_size]; exact ⟨by omega, by omega⟩) (grdI (by rw [mkB_size, mkB_size, mkB_size]; exact ⟨by omega, by omega⟩) ?_)))))
  rw [mkB_size, mkB_size, mkB_size]
  by_cases h6 : 65536 < (prT t z).length + (prT t' z').length + (prT t'' z'').length + 8
  · exact condTI (decide_eq_true (by omega)) (thenI works_v rfl)
  refine condFI (decide_eq_false (by omega)) ?_
  have v1 := wt_prT t z hp.ne
  have v2 := wt_prT t' z' hq.ne
  have v3 := wt_prT t'' z'' hr.ne
  have g1 := GoodP.app hp.toGoodP hq.toGoodP
  have g2 := GoodP.app hq.toGoodP hr.toGoodP
  have g3 := GoodP.app g1 hr.toGoodP
  have a1 := tot_app z z'
  have a2 := tot_app z' z''
  have a3 := tot_app (z ++ z') z''
  have b1 := wtZ_app z z'
  have b2 := wtZ_app z' z''
  have b3 := wtZ_app (z ++ z') z''
  have c1 := prT_near t (z ++ z') z hp.ne _ (Nat.le_of_eq b1)
  have c2 := prT_near t' (z' ++ z'') z' hq.ne _ (Nat.le_of_eq b2)
  have c3 := prT_near t (z ++ z' ++ z'') z hp.ne (wtZ z' + wtZ z'') (by omega)
  obtain ⟨pq, d1, e1, _, _, _⟩ := made_good g1 (by omega) (by omega)
  obtain ⟨qr, d2, e2, _, _, _⟩ := made_good g2 (by omega) (by omega)
  obtain ⟨x, d3, e3, _, _, _⟩ := made_good g3 (by omega) (by omega)
  have f1 := join_eq hp hq
  have f2 := join_eq hq hr
  have f3 := join_eq e1 hr
  have f4 := join_eq hp e2
  rw [← List.append_assoc] at f4
  have s6 : x.told_stanzas.length = z.length + z'.length + z''.length := by rw [e3.sp, stSp_len, List.length_append, List.length_append]
  have s1 : p.told_stanzas.length = z.length := by rw [hp.sp, stSp_len]
  have s2 : q.told_stanzas.length = z'.length := by rw [hq.sp, stSp_len]
  have s3 : r.told_stanzas.length = z''.length := by rw [hr.sp, stSp_len]
  refine thenI (f1.trans d1) (thenI (f2.trans d2) (condFI rfl (condFI rfl (thenI rfl (thenI (f3.trans d3) (thenI rfl (thenI (f4.trans d3) (condTI rfl (condTI rfl (thenI rfl (thenI rfl ?_)))))))))))
  refine thenI (same_v e3 e3) (condTI (by simp) (thenI rfl (thenI rfl (thenI rfl (grdI ⟨by omega, by omega⟩ (thenI rfl (grdI ⟨by omega, by omega⟩ ?_)))))))
  exact condTI (beq_iff_eq.2 (by omega)) (thenI rfl (thenI rfl (condTI (by rw [e3.title, hp.title]; simp) (thenI works_v rfl))))
theorem poemJoined_any (a b c : ByteArray) (w : World) (h1 : a.size ≤ 140737488351232) (h2 : b.size ≤ 140737488351232) (h3 : c.size ≤ 140737488351232) : Calls Tryd.prog 5 #[.string a, .string b, .string c] w fun e w' => e = .returned (.bool true) ∧ Below w.heap.size w w' :=
  law17_PoemJoined_fn (poemJoined_v a.data.toList b.data.toList c.data.toList) w
end Go.Proofs.YtgfkogafkhbgnaaDoor
