/-
  Texts laid together: LqV, PlPoemWords. Nothing is assumed.
-/
import Derived.Test.YtgfkogafkhbgnaaDoorPoemWords6
import Derived.Test.YtgfkogafkhbgnaaDoorPoemWords5
namespace Go.Proofs.YtgfkogafkhbgnaaDoor
open Go.RowKit Go.Lib
set_option linter.unusedVariables false
set_option linter.unusedSimpArgs false
def law17_PoemWords_s2 (x1 : Int × Gapi_Verse) (x2 : Nat × Nat) (ag2 : (List Int) → (List ByteArray) → Option Bool) (nums8 : List Int) (want7 : List ByteArray) : Option Bool :=
grd (nums8.length + 1 ≤ 2147483648) <|
grd (0 ≤ ((x2.1 : Int) : Int) ∧ ((x2.1 : Int) : Int) ≤ (x2.2 : Int) ∧ ((x2.2 : Int) : Int) ≤ (x1.2.Text.size : Int)) <|
grd (want7.length + 1 ≤ 2147483648) <|
ag2 (nums8 ++ [x1.1]) (want7 ++ [cutB x1.2.Text (x2.1 : Int) (x2.2 : Int)])
def law17_PoemWords_s1 (x1 : Int × Gapi_Verse) (ag1 : (List Int) → (List ByteArray) → Option Bool) (nums5 : List Int) (want4 : List ByteArray) : Option Bool :=
grd (x1.2.Text.size ≤ 4611686018427387904) <|
joinK (fun (dn2 : (List Int) → (List ByteArray) → Option Bool) =>
rangeG dn2 (law17_PoemWords_s2 x1) (wsOf x1.2.Text) nums5 want4
) (fun (nums8 : List Int) (want7 : List ByteArray) =>
ag1 nums8 want7
)
def law17_PoemWords_s3 (early1 : Int) (ek1 : Int → Option Bool) (x3 : Int × ByteArray) (ag3 : Int → Option Bool) (i4 : Int) : Option Bool :=
bcond ((i4 : Int) == early1) (
ek1 i4
) (
grd (I64 (i4 + 1)) <|
ag3 (i4 + 1)
)
def law17_PoemWords_s4 (nums1 : List Int) (want1 : List ByteArray) (ek2 : Int → Option Bool) (x4 : Int × ByteArray) (ag4 : Int → Option Bool) (i9 : Int) : Option Bool :=
bcond (decide (((want1.length : Int) : Int) ≤ i9)) (
ek2 i9
) (
andThen (getO nums1 i9) fun (q1 : Int) =>
bcond ((x4.1 : Int) != q1) (
ek2 i9
) (
andThen (getO want1 i9) fun (q2 : ByteArray) =>
bcond (!decide (x4.2 = q2)) (
ek2 i9
) (
grd (I64 (i9 + 1)) <|
ag4 (i9 + 1)
)
)
)
def law17_PoemWords_v (s1 : ByteArray) (early1 : Int) : Option Bool :=
andThen (law17_works_v) fun (r1 : Bool) =>
bcond (!r1) (
some false
) (
andThen (poem_Read_v s1) fun (r2 : ((Option Gpoem_Poem) × Gapi_Spot)) =>
bcond (!(eq_Gapi_Spot r2.2 (⟨0, 0⟩ : Gapi_Spot))) (
andThen (law17_works_v) fun (r3 : Bool) =>
some r3
) (
joinK (fun (j1 : ByteArray → (List Gapi_Verse) → (List Gapi_Span) → ByteArray → (List Int) → (List ByteArray) → Option Bool) =>
andThen (r2.1) fun (p5 : Gpoem_Poem) =>
andThen (poem_Poem_Each_v p5) fun (r4 : Unit) =>
andThen (poem_Poem_Each_1_v p5) fun (its1 : (List (Int × Gapi_Verse))) =>
joinK (fun (dn1 : (List Int) → (List ByteArray) → Option Bool) =>
rangeG dn1 (law17_PoemWords_s1) its1 ([] : List Int) ([] : List ByteArray)
) (fun (nums5 : List Int) (want4 : List ByteArray) =>
j1 p5.told_title p5.told_lines p5.told_stanzas p5.source nums5 want4
)
) (fun (p1 : ByteArray) (p2 : List Gapi_Verse) (p3 : List Gapi_Span) (p4 : ByteArray) (nums1 : List Int) (want1 : List ByteArray) =>
joinK (fun (j2 : Int → Option Bool) =>
andThen (poem_Poem_Words_v (⟨p1, p2, p3, p4⟩ : Gpoem_Poem)) fun (r5 : Unit) =>
andThen (poem_Poem_Words_1_v (⟨p1, p2, p3, p4⟩ : Gpoem_Poem)) fun (its2 : (List (Int × ByteArray))) =>
joinK (fun (ek1 : Int → Option Bool) =>
joinK (fun (dn3 : Int → Option Bool) =>
rangeG dn3 (law17_PoemWords_s3 early1 ek1) its2 0
) (fun (i4 : Int) =>
j2 i4
)
) (fun (i5 : Int) =>
j2 i5
)
) (fun (i1 : Int) =>
joinK (fun (j3 : Int → Option Bool) =>
andThen (poem_Poem_Words_1_v (⟨p1, p2, p3, p4⟩ : Gpoem_Poem)) fun (its3 : (List (Int × ByteArray))) =>
joinK (fun (ek2 : Int → Option Bool) =>
joinK (fun (dn4 : Int → Option Bool) =>
rangeG dn4 (law17_PoemWords_s4 nums1 want1 ek2) its3 0
) (fun (i9 : Int) =>
j3 i9
)
) (fun (i10 : Int) =>
some false
)
) (fun (i6 : Int) =>
bcond ((i6 : Int) == (want1.length : Int)) (
andThen (law17_works_v) fun (r6 : Bool) =>
some r6
) (
some false
)
)
)
)
)
)
set_option maxRecDepth 100000 in
set_option maxHeartbeats 4000000 in
theorem law17_PoemWords_fn {s1 : ByteArray} {early1 : Int} {r : Bool} (h : law17_PoemWords_v s1 early1 = some r) : FnP Tryd.prog 10 [.string s1, .int .i64 early1] (.bool r) := by
 unfold law17_PoemWords_v at h
 refine FnP.intro Tryd.func10 rfl Tryd.ntmps10 (by simp) ?_
 intro w0 K
 refine TC.star0 ?_
 show TC _ _ _ _ _ _ _ _ _ [star ((([] : List Nat) : List Nat).map mark)]
 refine TC.seq (TC.region ?_)
 refine TO.box rfl dc rfl (fun b1 => ?_)
 refine TO.alloc zr_4 rfl dc (fun b2 => ?_)
 show TO _ _ _ _ _ _ _ _ _ _ [star ((([] : List Nat) : List Nat).map mark), cells b1 [.int .i64 early1] 3, cells b2 [.bool false] 4]
 refine TO.nil (TX.next (TC.seq (TC.seq (TC.region ?_))))
 obtain ⟨r1, hq1, h⟩ := andE h
 refine TO.callP (v := .bool r1) (vs := []) rfl dc rfl rfl rfl en_12 (law17_works_fn hq1) (TO.un rfl dc rfl un_not (TO.nil (TX.next ?_)))
 refine TC.condB rfl (fun hb1 => ?_) (fun hb1 => ?_)
 ·
  have h := condT hb1 h
  refine TC.seq (TC.region ?_)
  refine TO.store (k := 2) (l' := [.bool false]) sz_4 rfl rfl rfl rfl rfl (fun _ _ => rfl) rfl ?_
  refine TO.nil (TX.next (TC.ret (TX.thenRet ?_)))
  cases h
  exact TX.finM (rs := [.cell 4 4]) ([] : List Nat) () (.inl rfl) (Splits.open0 (k := 0) rfl) Tryd.results10 (.cons (.cell sc_4 (k := 2) rfl rfl) .nil) rfl Splits.nil
 ·
  have h := condF hb1 h
  refine TC.skip (TX.next (TC.seq (TC.region (TO.move rfl dc rfl ?_))))
  obtain ⟨r2, hq2, h⟩ := andE h
  refine TO.call (vs := [.string s1]) rfl dc rfl rfl rfl en_13 (poem_Read_fn hq2) Splits.nil ?_
  rintro v1
  show TO _ _ _ _ _ _ _ _ _ _ [star ((([] : List Nat) : List Nat).map mark), cells b1 [.int .i64 early1] 3, cells b2 [.bool false] 4, pobj encN_Gpoem_Poem nest_Gpoem_Poem 93 v1 r2.1]
  refine TO.weakenL (L' := [star ((([] : List Nat) : List Nat).map mark), cells b1 [.int .i64 early1] 3, cells b2 [.bool false] 4, pobj encN_Gpoem_Poem nest_Gpoem_Poem 93 v1 r2.1]) (Splits.of [0, 1, 2, 3] kr rfl) (TO.move rfl dc rfl (TO.extract rfl dc rfl rfl (TO.extract rfl dc rfl rfl ?_)))
  refine TO.alloc zr_26 rfl dc (fun b3 => ?_)
  refine TO.assign rfl dc rfl (TO.stores (k := 4) (vs := [.int .i64 r2.2.Err, .int .i64 r2.2.At]) (l' := [.int .i64 r2.2.Err, .int .i64 r2.2.At]) sz_26 rfl rfl rfl rfl rfl (show _ ≤ _ by simp) rfl rfl ?_)
  show TO _ _ _ _ _ _ _ _ _ _ [star ((([] : List Nat) : List Nat).map mark), cells b1 [.int .i64 early1] 3, cells b2 [.bool false] 4, pobj encN_Gpoem_Poem nest_Gpoem_Poem 93 v1 r2.1, cells b3 [.int .i64 r2.2.Err, .int .i64 r2.2.At] 26]
  refine TO.nil (TX.next (TC.seq (TC.seq (TC.region (TO.loads (k := 4) (cs := [.int .i64 r2.2.Err, .int .i64 r2.2.At]) rw_26 rfl dc rfl rfl rfl rfl ?_)))))
  refine TO.build (v := .agg #[.int .i64 0, .int .i64 0]) (ps := []) rfl dc rfl (fun _ => by kernel_rfl) ?_
  refine TO.bin rfl dc rfl rfl (bin_neq_26 r2.2 (⟨0, 0⟩ : Gapi_Spot)) (TO.nil (TX.next ?_))
  refine TC.condB rfl (fun hb2 => ?_) (fun hb2 => ?_)
  ·
   have h := condT hb2 h
   refine TC.seq (TC.region ?_)
   obtain ⟨r3, hq3, h⟩ := andE h
   refine TO.callP (v := .bool r3) (vs := []) rfl dc rfl rfl rfl en_12 (law17_works_fn hq3) ?_
   refine TO.store (k := 2) (l' := [.bool r3]) sz_4 rfl rfl rfl rfl rfl (fun _ _ => rfl) rfl ?_
   refine TO.nil (TX.next (TC.ret (TX.thenRet ?_)))
   cases h
   exact TX.finM (rs := [.cell 4 4]) ([] : List Nat) () (.inl rfl) (Splits.open0 (k := 0) rfl) Tryd.results10 (.cons (.cell sc_4 (k := 2) rfl rfl) .nil) rfl Splits.nil
  ·
   have h := condF hb2 h
   refine TC.skip (TX.next ?_)
   obtain ⟨j1, hj1, h⟩ := joinE h
   refine TC.cutN (β := ByteArray × (List Gapi_Verse) × (List Gapi_Span) × ByteArray × (List Int) × (List ByteArray) × Nat × Hd × Hd × Nat × Hd × Nat × Hd × (List Nat)) 2 rfl (fun b => j1 b.1 b.2.1 b.2.2.1 b.2.2.2.1 b.2.2.2.2.1 b.2.2.2.2.2.1 = some r) (fun b => marksOf b.2.2.2.2.2.2.2.2.2.2.2.2.2) (fun b => [(3, .pointer (some ⟨b1, 0, none⟩)), (4, .pointer (some ⟨b2, 0, none⟩)), (5, .pointer (some ⟨b.2.2.2.2.2.2.1, 0, none⟩)), (7, .pointer (some ⟨b.2.2.2.2.2.2.2.2.2.1, 0, none⟩)), (8, .pointer (some ⟨b.2.2.2.2.2.2.2.2.2.2.2.1, 0, none⟩))]) (fun b => [cells b1 [.int .i64 early1] 3, cells b2 [.bool false] 4, cells b.2.2.2.2.2.2.1 [.string b.1, b.2.2.2.2.2.2.2.1.v, b.2.2.2.2.2.2.2.2.1.v, .string b.2.2.2.1] 93, vec enc_Gapi_Verse 36 6 b.2.2.2.2.2.2.2.1.v b.2.1, vec enc_Gapi_Span 34 2 b.2.2.2.2.2.2.2.2.1.v b.2.2.1, cells b.2.2.2.2.2.2.2.2.2.1 [b.2.2.2.2.2.2.2.2.2.2.1.v] 29, vec (encI (.i64)) 3 1 b.2.2.2.2.2.2.2.2.2.2.1.v b.2.2.2.2.1, cells b.2.2.2.2.2.2.2.2.2.2.2.1 [b.2.2.2.2.2.2.2.2.2.2.2.2.1.v] 48, vec encS 9 1 b.2.2.2.2.2.2.2.2.2.2.2.2.1.v b.2.2.2.2.2.1, star ((b.2.2.2.2.2.2.2.2.2.2.2.2.2 : List Nat).map mark)]) (fun cut => ?_) ?_
   ·
    refine TC.seq (TC.region ?_)
    refine TO.alloc zr_29 rfl dc (fun b7 => ?_)
    refine TO.nil (TX.next (TC.seq (TC.region ?_)))
    refine TO.alloc zr_48 rfl dc (fun b8 => ?_)
    show TO _ _ _ _ _ _ _ _ _ _ [star ((([] : List Nat) : List Nat).map mark), cells b1 [.int .i64 early1] 3, cells b2 [.bool false] 4, pobj encN_Gpoem_Poem nest_Gpoem_Poem 93 v1 r2.1, cells b3 [.int .i64 r2.2.Err, .int .i64 r2.2.At] 26, cells b7 [.slice none 0 0] 29, cells b8 [.slice none 0 0] 48]
    refine TO.nil (TX.next (cut (TC.seq (TC.region (TO.move rfl dc rfl ?_)))))
    obtain ⟨p5, hq4, h⟩ := andE h
    refine TO.entl (As := [pobj encN_Gpoem_Poem nest_Gpoem_Poem 93 v1 r2.1]) (Splits.of [3] kr rfl) (Entl.objOpen hq4) ?_
    rintro ⟨b9, hd5, hd6⟩ hv1
    subst hv1
    show TO _ _ _ _ _ _ _ _ _ _ [star ((([] : List Nat) : List Nat).map mark), cells b1 [.int .i64 early1] 3, cells b2 [.bool false] 4, emp, cells b3 [.int .i64 r2.2.Err, .int .i64 r2.2.At] 26, cells b7 [.slice none 0 0] 29, cells b8 [.slice none 0 0] 48, cells b9 [.string p5.told_title, hd5.v, hd6.v, .string p5.source] 93, vec enc_Gapi_Verse 36 6 hd5.v p5.told_lines, vec enc_Gapi_Span 34 2 hd6.v p5.told_stanzas]
    obtain ⟨r4, hq5, h⟩ := andE h
    refine TO.callR (vs := [.pointer (some ⟨b9, 0, none⟩)]) (Rd.nil : Rd _ _ []) rfl dc rfl rfl rfl en_14 (poem_Poem_Each_fn (bp1 := b9) (p1 := p5) (p1_h0 := hd5) (p1_h1 := hd6) hq5) Splits.nil (.own (Splits.of [7] (by kernel_rfl) rfl) (fun _ _ h => sepL.one1.1 h) (.own (Splits.of [8] (by kernel_rfl) rfl) (fun _ _ h => sepL.one1.1 h) (.own (Splits.of [9] (by kernel_rfl) rfl) (fun _ _ h => sepL.one1.1 h) .nil))) ?_
    rintro b10
    show TO _ _ _ _ _ _ _ _ _ _ [star ((([] : List Nat) : List Nat).map mark), cells b1 [.int .i64 early1] 3, cells b2 [.bool false] 4, emp, cells b3 [.int .i64 r2.2.Err, .int .i64 r2.2.At] 26, cells b7 [.slice none 0 0] 29, cells b8 [.slice none 0 0] 48, cells b9 [.string p5.told_title, hd5.v, hd6.v, .string p5.source] 93, vec enc_Gapi_Verse 36 6 hd5.v p5.told_lines, vec enc_Gapi_Span 34 2 hd6.v p5.told_stanzas, cells b10 [.pointer (some ⟨b9, 0, none⟩)] 23]
    refine TO.weakenL (L' := [star ((([] : List Nat) : List Nat).map mark), cells b1 [.int .i64 early1] 3, cells b2 [.bool false] 4, emp, cells b3 [.int .i64 r2.2.Err, .int .i64 r2.2.At] 26, cells b7 [.slice none 0 0] 29, cells b8 [.slice none 0 0] 48, cells b9 [.string p5.told_title, hd5.v, hd6.v, .string p5.source] 93, vec enc_Gapi_Verse 36 6 hd5.v p5.told_lines, vec enc_Gapi_Span 34 2 hd6.v p5.told_stanzas, cells b10 [.pointer (some ⟨b9, 0, none⟩)] 23]) (Splits.of [0, 1, 2, 3, 4, 5, 6, 7, 8, 9, 10] kr rfl) (TO.nil (TX.next (TC.block ?_)))
    obtain ⟨its1, hq6, h⟩ := andE h
    refine TC.newVec (enc := (encI (.i64))) (e := 3) (size := 1) ?_
    show TC _ _ _ _ _ _ _ _ _ [star ((([] : List Nat) : List Nat).map mark), cells b1 [.int .i64 early1] 3, cells b2 [.bool false] 4, emp, cells b3 [.int .i64 r2.2.Err, .int .i64 r2.2.At] 26, cells b7 [.slice none 0 0] 29, cells b8 [.slice none 0 0] 48, cells b9 [.string p5.told_title, hd5.v, hd6.v, .string p5.source] 93, vec enc_Gapi_Verse 36 6 hd5.v p5.told_lines, vec enc_Gapi_Span 34 2 hd6.v p5.told_stanzas, cells b10 [.pointer (some ⟨b9, 0, none⟩)] 23, vec (encI (.i64)) 3 1 (.slice none 0 0) ([] : List Int)]
    refine TC.newVec (enc := encS) (e := 9) (size := 1) ?_
    show TC _ _ _ _ _ _ _ _ _ [star ((([] : List Nat) : List Nat).map mark), cells b1 [.int .i64 early1] 3, cells b2 [.bool false] 4, emp, cells b3 [.int .i64 r2.2.Err, .int .i64 r2.2.At] 26, cells b7 [(.slice none 0 0)] 29, cells b8 [.slice none 0 0] 48, cells b9 [.string p5.told_title, hd5.v, hd6.v, .string p5.source] 93, vec enc_Gapi_Verse 36 6 hd5.v p5.told_lines, vec enc_Gapi_Span 34 2 hd6.v p5.told_stanzas, cells b10 [.pointer (some ⟨b9, 0, none⟩)] 23, vec (encI (.i64)) 3 1 (.slice none 0 0) ([] : List Int), vec encS 9 1 (.slice none 0 0) ([] : List ByteArray)]
    obtain ⟨dn1, hdn1, h⟩ := joinE h
    refine TC.rangeR (α := Int × Gapi_Verse) (β := (List Int) × (List ByteArray) × Hd × Hd) (γ := Unit) (δ := Nat × Nat) (ps := [29, 30]) (Rd.nil : Rd _ _ []) Ro.nil rfl en_52 (poem_Poem_Each_1_itr hq6) (fun pre b => ∀ post, its1 = pre ++ post → rangeG dn1 (law17_PoemWords_s1) post b.1 b.2.1 = some r) (fun pre b => [cells b1 [.int .i64 early1] 3, cells b2 [.bool false] 4, cells b7 [b.2.2.1.v] 29, vec (encI (.i64)) 3 1 b.2.2.1.v b.1, cells b8 [b.2.2.2.v] 48, vec encS 9 1 b.2.2.2.v b.2.1]) (fun c pre g => False) (fun c pre g => []) (fun pre x b j => [(3, .pointer (some ⟨b1, 0, none⟩)), (4, .pointer (some ⟨b2, 0, none⟩)), (5, .pointer (some ⟨b9, 0, none⟩)), (7, .pointer (some ⟨b7, 0, none⟩)), (8, .pointer (some ⟨b8, 0, none⟩)), (28, .func (.func 52) #[] #[.pointer (some ⟨b10, 0, none⟩)]), (9, .pointer (some ⟨j.1, 0, none⟩)), (10, .pointer (some ⟨j.2, 0, none⟩))]) (fun pre x b j => [cells b1 [.int .i64 early1] 3, cells b2 [.bool false] 4, cells b7 [b.2.2.1.v] 29, vec (encI (.i64)) 3 1 b.2.2.1.v b.1, cells b8 [b.2.2.2.v] 48, vec encS 9 1 b.2.2.2.v b.2.1, cells j.1 [.int .i64 x.1] 3, cells j.2 [.string x.2.Text, .int .i64 x.2.Indent, .int .i64 x.2.Stanza, .int .i64 x.2.In, .int .i64 x.2.Span_From, .int .i64 x.2.Span_To] 36]) (([] : List Int), ([] : List ByteArray), Hd.nil, Hd.nil) (fun post e => by rw [List.nil_append] at e; subst e; exact h) (Splits.of [1, 2, 5, 11, 6, 12] kr rfl) (.own (As := [cells b10 [.pointer (some ⟨b9, 0, none⟩)] 23]) (Splits.of [10] (by kernel_rfl) rfl) (fun _ _ h => sepL.one1.1 h) (.own (As := [cells b9 [.string p5.told_title, hd5.v, hd6.v, .string p5.source] 93]) (Splits.of [7] (by kernel_rfl) rfl) (fun _ _ h => sepL.one1.1 h) (.own (As := [vec enc_Gapi_Verse 36 6 hd5.v p5.told_lines]) (Splits.of [8] (by kernel_rfl) rfl) (fun _ _ h => sepL.one1.1 h) (.own (As := [vec enc_Gapi_Span 34 2 hd6.v p5.told_stanzas]) (Splits.of [9] (by kernel_rfl) rfl) (fun _ _ h => sepL.one1.1 h) .nil)))) (fun _ => rfl) dc ?_ ?_ ?_ ?_
    ·
     rintro lp rc pre x1 post ⟨nums5, want4, hd12, hd13⟩ w1 K1 hxs1 hext hro hinv
     refine TC.seq (TC.region ?_)
     refine TO.alloc zr_3 rfl dc (fun b11 => ?_)
     refine TO.store (k := 6) (l' := [.int .i64 x1.1]) sz_3 rfl rfl rfl rfl rfl (fun _ _ => rfl) rfl ?_
     show TO _ _ _ _ _ _ _ _ _ _ [cells b1 [.int .i64 early1] 3, cells b2 [.bool false] 4, cells b7 [hd12.v] 29, vec (encI (.i64)) 3 1 hd12.v nums5, cells b8 [hd13.v] 48, vec encS 9 1 hd13.v want4, cells b11 [.int .i64 x1.1] 3]
     refine TO.nil (TX.next (TC.region ?_))
     refine TO.alloc zr_36 rfl dc (fun b12 => ?_)
     refine TO.stores (k := 7) (vs := [.string x1.2.Text, .int .i64 x1.2.Indent, .int .i64 x1.2.Stanza, .int .i64 x1.2.In, .int .i64 x1.2.Span_From, .int .i64 x1.2.Span_To]) (l' := [.string x1.2.Text, .int .i64 x1.2.Indent, .int .i64 x1.2.Stanza, .int .i64 x1.2.In, .int .i64 x1.2.Span_From, .int .i64 x1.2.Span_To]) sz_36 rfl rfl rfl rfl rfl (show _ ≤ _ by simp) rfl rfl ?_
     show TO _ _ _ _ _ _ _ _ _ _ [cells b1 [.int .i64 early1] 3, cells b2 [.bool false] 4, cells b7 [hd12.v] 29, vec (encI (.i64)) 3 1 hd12.v nums5, cells b8 [hd13.v] 48, vec encS 9 1 hd13.v want4, cells b11 [.int .i64 x1.1] 3, cells b12 [.string x1.2.Text, .int .i64 x1.2.Indent, .int .i64 x1.2.Stanza, .int .i64 x1.2.In, .int .i64 x1.2.Span_From, .int .i64 x1.2.Span_To] 36]
     refine TO.nil ?_
     exact fun a w ha hw => ⟨(b11, b12), (Sbs.cons rfl (Sbs.cons rfl (Sbs.cons rfl (Sbs.cons rfl (Sbs.cons rfl (Sbs.cons rfl (Sbs.cons rfl (Sbs.cons rfl (Sbs.nil))))))))) _ _ _ ha, hw.weaken (Splits.of [0, 1, 2, 3, 4, 5, 6, 7] kr rfl)⟩
    ·
     rintro lp rc pre x1 post1 ⟨nums5, want4, hd12, hd13⟩ ⟨jb1, jb2⟩ w1 K1 hxs1 hext hro hinv
     have h := hinv (x1 :: post1) hxs1
     obtain ⟨ag1, hag1⟩ : ∃ ag, ag = rangeG dn1 (law17_PoemWords_s1) post1 := ⟨_, rfl⟩
     have h : law17_PoemWords_s1 x1 ag1 nums5 want4 = some r := by rw [hag1]; exact h
     unfold law17_PoemWords_s1 at h
     show TC _ _ _ _ _ _ _ _ [(3, .pointer (some ⟨b1, 0, none⟩)), (4, .pointer (some ⟨b2, 0, none⟩)), (5, .pointer (some ⟨b9, 0, none⟩)), (7, .pointer (some ⟨b7, 0, none⟩)), (8, .pointer (some ⟨b8, 0, none⟩)), (28, .func (.func 52) #[] #[.pointer (some ⟨b10, 0, none⟩)]), (9, .pointer (some ⟨jb1, 0, none⟩)), (10, .pointer (some ⟨jb2, 0, none⟩))] [cells b1 [.int .i64 early1] 3, cells b2 [.bool false] 4, cells b7 [hd12.v] 29, vec (encI (.i64)) 3 1 hd12.v nums5, cells b8 [hd13.v] 48, vec encS 9 1 hd13.v want4, cells jb1 [.int .i64 x1.1] 3, cells jb2 [.string x1.2.Text, .int .i64 x1.2.Indent, .int .i64 x1.2.Stanza, .int .i64 x1.2.In, .int .i64 x1.2.Span_From, .int .i64 x1.2.Span_To] 36]
     refine TC.block (TC.seq (TC.region (TO.fieldAddr fl_36_0 rfl dc rfl (show _ = 0 from rfl) (TO.load (k := 7) sc_9 rfl dc rfl rfl rfl (TO.call (vs := [.string x1.2.Text]) rfl dc rfl rfl rfl en_42 (words_fn x1.2.Text) Splits.nil ?_)))))
     rintro b13
     show TO _ _ _ _ _ _ _ _ _ _ [cells b1 [.int .i64 early1] 3, cells b2 [.bool false] 4, cells b7 [hd12.v] 29, vec (encI (.i64)) 3 1 hd12.v nums5, cells b8 [hd13.v] 48, vec encS 9 1 hd13.v want4, cells jb1 [.int .i64 x1.1] 3, cells jb2 [.string x1.2.Text, .int .i64 x1.2.Indent, .int .i64 x1.2.Stanza, .int .i64 x1.2.In, .int .i64 x1.2.Span_From, .int .i64 x1.2.Span_To] 36, cells b13 [.string x1.2.Text] 9]
     refine TO.nil (TX.next (TC.block ?_))
     obtain ⟨hg1, h⟩ := grdE h
     obtain ⟨dn2, hdn2, h⟩ := joinE h
     refine TC.rangeIn (α := Nat × Nat) (β := (List Int) × (List ByteArray) × Hd × Hd) (γ := Unit) (δ := Nat) (ps := [34]) hro (i₀ := 0) rfl rfl en_72 (words1_itr x1.2.Text hg1 b13) (fun pre b => ∀ post, wsOf x1.2.Text = pre ++ post → rangeG dn2 (law17_PoemWords_s2 x1) post b.1 b.2.1 = some r) (fun pre b => [cells b1 [.int .i64 early1] 3, cells b2 [.bool false] 4, cells b7 [b.2.2.1.v] 29, vec (encI (.i64)) 3 1 b.2.2.1.v b.1, cells b8 [b.2.2.2.v] 48, vec encS 9 1 b.2.2.2.v b.2.1, cells jb1 [.int .i64 x1.1] 3, cells jb2 [.string x1.2.Text, .int .i64 x1.2.Indent, .int .i64 x1.2.Stanza, .int .i64 x1.2.In, .int .i64 x1.2.Span_From, .int .i64 x1.2.Span_To] 36]) (fun c pre g => False) (fun c pre g => []) (fun pre x b j => [(3, .pointer (some ⟨b1, 0, none⟩)), (4, .pointer (some ⟨b2, 0, none⟩)), (5, .pointer (some ⟨b9, 0, none⟩)), (7, .pointer (some ⟨b7, 0, none⟩)), (8, .pointer (some ⟨b8, 0, none⟩)), (28, .func (.func 52) #[] #[.pointer (some ⟨b10, 0, none⟩)]), (9, .pointer (some ⟨jb1, 0, none⟩)), (10, .pointer (some ⟨jb2, 0, none⟩)), (33, .func (.func 72) #[] #[.pointer (some ⟨b13, 0, none⟩)]), (11, .pointer (some ⟨j, 0, none⟩))]) (fun pre x b j => [cells b1 [.int .i64 early1] 3, cells b2 [.bool false] 4, cells b7 [b.2.2.1.v] 29, vec (encI (.i64)) 3 1 b.2.2.1.v b.1, cells b8 [b.2.2.2.v] 48, vec encS 9 1 b.2.2.2.v b.2.1, cells jb1 [.int .i64 x1.1] 3, cells jb2 [.string x1.2.Text, .int .i64 x1.2.Indent, .int .i64 x1.2.Stanza, .int .i64 x1.2.In, .int .i64 x1.2.Span_From, .int .i64 x1.2.Span_To] 36, cells j [.int .i64 (x.1 : Int), .int .i64 (x.2 : Int)] 34]) (nums5, want4, hd12, hd13) (fun post e => by rw [List.nil_append] at e; subst e; exact h) (Splits.of [0, 1, 2, 3, 4, 5, 6, 7] kr rfl) ⟨.inl ⟨8, rfl⟩, trivial⟩ (fun _ => rfl) dc ?_ ?_ ?_ ?_
     ·
      rintro lp rc pre x2 post ⟨nums8, want7, hd18, hd19⟩ w1 K1 hxs2 hext hro hinv
      refine TC.region ?_
      refine TO.alloc zr_34 rfl dc (fun b14 => ?_)
      refine TO.stores (k := 8) (vs := [.int .i64 (x2.1 : Int), .int .i64 (x2.2 : Int)]) (l' := [.int .i64 (x2.1 : Int), .int .i64 (x2.2 : Int)]) sz_34 rfl rfl rfl rfl rfl (show _ ≤ _ by simp) rfl rfl ?_
      show TO _ _ _ _ _ _ _ _ _ _ [cells b1 [.int .i64 early1] 3, cells b2 [.bool false] 4, cells b7 [hd18.v] 29, vec (encI (.i64)) 3 1 hd18.v nums8, cells b8 [hd19.v] 48, vec encS 9 1 hd19.v want7, cells jb1 [.int .i64 x1.1] 3, cells jb2 [.string x1.2.Text, .int .i64 x1.2.Indent, .int .i64 x1.2.Stanza, .int .i64 x1.2.In, .int .i64 x1.2.Span_From, .int .i64 x1.2.Span_To] 36, cells b14 [.int .i64 (x2.1 : Int), .int .i64 (x2.2 : Int)] 34]
      refine TO.nil ?_
      exact fun a w ha hw => ⟨b14, (Sbs.cons rfl (Sbs.cons rfl (Sbs.cons rfl (Sbs.cons rfl (Sbs.cons rfl (Sbs.cons rfl (Sbs.cons rfl (Sbs.cons rfl (Sbs.cons rfl (Sbs.cons rfl (Sbs.nil))))))))))) _ _ _ ha, hw.weaken (Splits.of [0, 1, 2, 3, 4, 5, 6, 7, 8] kr rfl)⟩
     ·
      rintro lp rc pre x2 post2 ⟨nums8, want7, hd18, hd19⟩ jb3 w1 K1 hxs2 hext hro hinv
      have h := hinv (x2 :: post2) hxs2
      obtain ⟨ag2, hag2⟩ : ∃ ag, ag = rangeG dn2 (law17_PoemWords_s2 x1) post2 := ⟨_, rfl⟩
      have h : law17_PoemWords_s2 x1 x2 ag2 nums8 want7 = some r := by rw [hag2]; exact h
      unfold law17_PoemWords_s2 at h
      show TC _ _ _ _ _ _ _ _ [(3, .pointer (some ⟨b1, 0, none⟩)), (4, .pointer (some ⟨b2, 0, none⟩)), (5, .pointer (some ⟨b9, 0, none⟩)), (7, .pointer (some ⟨b7, 0, none⟩)), (8, .pointer (some ⟨b8, 0, none⟩)), (28, .func (.func 52) #[] #[.pointer (some ⟨b10, 0, none⟩)]), (9, .pointer (some ⟨jb1, 0, none⟩)), (10, .pointer (some ⟨jb2, 0, none⟩)), (33, .func (.func 72) #[] #[.pointer (some ⟨b13, 0, none⟩)]), (11, .pointer (some ⟨jb3, 0, none⟩))] [cells b1 [.int .i64 early1] 3, cells b2 [.bool false] 4, cells b7 [hd18.v] 29, vec (encI (.i64)) 3 1 hd18.v nums8, cells b8 [hd19.v] 48, vec encS 9 1 hd19.v want7, cells jb1 [.int .i64 x1.1] 3, cells jb2 [.string x1.2.Text, .int .i64 x1.2.Indent, .int .i64 x1.2.Stanza, .int .i64 x1.2.In, .int .i64 x1.2.Span_From, .int .i64 x1.2.Span_To] 36, cells jb3 [.int .i64 (x2.1 : Int), .int .i64 (x2.2 : Int)] 34]
      refine TC.block ?_
      obtain ⟨hg2, h⟩ := grdE h
      obtain ⟨hg3, h⟩ := grdE h
      obtain ⟨hg4, h⟩ := grdE h
      refine TC.pad 2 ?_
      show TC _ _ _ _ _ _ _ _ _ [cells b1 [.int .i64 early1] 3, cells b2 [.bool false] 4, cells b7 [hd18.v] 29, vec (encI (.i64)) 3 1 hd18.v nums8, cells b8 [hd19.v] 48, vec encS 9 1 hd19.v want7, cells jb1 [.int .i64 x1.1] 3, cells jb2 [.string x1.2.Text, .int .i64 x1.2.Indent, .int .i64 x1.2.Stanza, .int .i64 x1.2.In, .int .i64 x1.2.Span_From, .int .i64 x1.2.Span_To] 36, cells jb3 [.int .i64 (x2.1 : Int), .int .i64 (x2.2 : Int)] 34, emp, emp]
      refine let vals1 : (Nat × Hd × Nat) → List (Nat × Nat × Value) := fun b => [(0, 35, hd18.v), (1, 36, .int .i64 x1.1), (2, 37, .slice (some ⟨b.1, 0, none⟩) 1 1), (3, 38, b.2.1.v), (4, 39, hd19.v), (5, 40, .pointer (some ⟨jb2, 0, none⟩)), (6, 41, .string x1.2.Text), (7, 42, .pointer (some ⟨jb3, 0, none⟩)), (8, 43, .int .i64 (x2.1 : Int)), (9, 44, .pointer (some ⟨jb3, 1, none⟩)), (10, 45, .int .i64 (x2.2 : Int)), (11, 46, .string (cutB x1.2.Text (x2.1 : Int) (x2.2 : Int))), (12, 47, .slice (some ⟨b.2.2, 0, none⟩) 1 1)]; let LL1 : (Nat → Prop) → (Nat × Hd × Nat) → List Asn := fun D b => [cells b1 [.int .i64 early1] 3, cells b2 [.bool false] 4, cells b7 [hd18.v] 29, eD D (vec (encI (.i64)) 3 1 hd18.v nums8) [(3, vec (encI (.i64)) 3 1 b.2.1.v (nums8 ++ [x1.1]))], cells b8 [hd19.v] 48, vec encS 9 1 hd19.v want7, cells jb1 [.int .i64 x1.1] 3, cells jb2 [.string x1.2.Text, .int .i64 x1.2.Indent, .int .i64 x1.2.Stanza, .int .i64 x1.2.In, .int .i64 x1.2.Span_From, .int .i64 x1.2.Span_To] 36, cells jb3 [.int .i64 (x2.1 : Int), .int .i64 (x2.2 : Int)] 34, eD D emp [(2, cells b.1 [.int .i64 x1.1] 3)], eD D emp [(12, cells b.2.2 [.string (cutB x1.2.Text (x2.1 : Int) (x2.2 : Int))] 9)]]; ?_
      refine TC.drawG (β := Nat × Hd × Nat) 13 ((0 : Nat), Hd.nil, (0 : Nat)) vals1 LL1 mixed kr kr dc (fun _ => rfl) (cons_eq rfl (cons_eq rfl (cons_eq rfl (cons_eq eD_none (cons_eq rfl (cons_eq rfl (cons_eq rfl (cons_eq rfl (cons_eq rfl (cons_eq eD_none (cons_eq eD_none rfl))))))))))) (DrawG.cons ?_ (DrawG.cons ?_ (DrawG.cons ?_ (DrawG.cons ?_ (DrawG.cons ?_ (DrawG.cons ?_ (DrawG.cons ?_ (DrawG.cons ?_ (DrawG.cons ?_ (DrawG.cons ?_ (DrawG.cons ?_ (DrawG.cons ?_ (DrawG.cons ?_ DrawG.nil))))))))))))) ?_
      ·
       intro D b hn hd hcl
       obtain ⟨b15, hd20, b16⟩ := b
       refine TO.rewL (L' := [cells b1 [.int .i64 early1] 3, cells b2 [.bool false] 4, cells b7 [hd18.v] 29, vec (encI (.i64)) 3 1 hd18.v nums8, cells b8 [hd19.v] 48, vec encS 9 1 hd19.v want7, cells jb1 [.int .i64 x1.1] 3, cells jb2 [.string x1.2.Text, .int .i64 x1.2.Indent, .int .i64 x1.2.Stanza, .int .i64 x1.2.In, .int .i64 x1.2.Span_From, .int .i64 x1.2.Span_To] 36, cells jb3 [.int .i64 (x2.1 : Int), .int .i64 (x2.2 : Int)] 34, eD D emp [(2, cells b15 [.int .i64 x1.1] 3)], eD D emp [(12, cells b16 [.string (cutB x1.2.Text (x2.1 : Int) (x2.2 : Int))] 9)]]) (cons_eq rfl (cons_eq rfl (cons_eq rfl (cons_eq (eD_miss (fun hD => hn (hcl 3 _ rfl hD 0 dc)) eD_nil) (cons_eq rfl (cons_eq rfl (cons_eq rfl (cons_eq rfl (cons_eq rfl (cons_eq rfl (cons_eq rfl rfl))))))))))) ?_
       refine TO.load (k := 2) sc_29 rfl dc (dl_old (by rfl) rfl) rfl rfl ?_
       exact TX.valG (b15, hd20, b16) 0 (by rfl) (by rfl) rfl (dl_cons_eq (fun _ => rfl) (dl_cons_eq (fun _ => rfl) (dl_cons_eq (fun _ => rfl) (dl_cons_eq (fun _ => rfl) (dl_cons_eq (fun _ => rfl) (dl_cons_eq (fun _ => rfl) (dl_cons_eq (fun _ => rfl) (dl_cons_eq (fun _ => rfl) (dl_cons_eq (fun _ => rfl) (dl_cons_eq (fun _ => rfl) (dl_cons_eq (fun _ => rfl) (dl_cons_eq (fun _ => rfl) (dl_cons_eq (fun _ => rfl) rfl))))))))))))) (cons_eq rfl (cons_eq rfl (cons_eq rfl (cons_eq ((eD_skip (by rfl)).trans (eD_miss (fun hD => hn (hcl 3 _ rfl hD 0 dc)) eD_nil)) (cons_eq rfl (cons_eq rfl (cons_eq rfl (cons_eq rfl (cons_eq rfl (cons_eq ((eD_skip (by rfl)).trans rfl) (cons_eq ((eD_skip (by rfl)).trans rfl) rfl)))))))))))
      ·
       intro D b hn hd hcl
       obtain ⟨b15, hd20, b16⟩ := b
       refine TO.rewL (L' := [cells b1 [.int .i64 early1] 3, cells b2 [.bool false] 4, cells b7 [hd18.v] 29, vec (encI (.i64)) 3 1 hd18.v nums8, cells b8 [hd19.v] 48, vec encS 9 1 hd19.v want7, cells jb1 [.int .i64 x1.1] 3, cells jb2 [.string x1.2.Text, .int .i64 x1.2.Indent, .int .i64 x1.2.Stanza, .int .i64 x1.2.In, .int .i64 x1.2.Span_From, .int .i64 x1.2.Span_To] 36, cells jb3 [.int .i64 (x2.1 : Int), .int .i64 (x2.2 : Int)] 34, emp, eD D emp [(12, cells b16 [.string (cutB x1.2.Text (x2.1 : Int) (x2.2 : Int))] 9)]]) (cons_eq rfl (cons_eq rfl (cons_eq rfl (cons_eq (eD_miss (fun hD => hn (hcl 2 _ rfl (hcl 3 _ rfl hD 2 dc) 1 dc)) eD_nil) (cons_eq rfl (cons_eq rfl (cons_eq rfl (cons_eq rfl (cons_eq rfl (cons_eq (eD_miss (fun hD => hn (hcl 2 _ rfl hD 1 dc)) eD_nil) (cons_eq rfl rfl))))))))))) ?_
       refine TO.load (k := 6) sc_3 rfl dc (dl_old (by rfl) rfl) rfl rfl ?_
       exact TX.valG (b15, hd20, b16) 1 (by rfl) (by rfl) rfl (dl_cons_eq (fun _ => rfl) (dl_cons_eq (fun _ => rfl) (dl_cons_eq (fun _ => rfl) (dl_cons_eq (fun _ => rfl) (dl_cons_eq (fun _ => rfl) (dl_cons_eq (fun _ => rfl) (dl_cons_eq (fun _ => rfl) (dl_cons_eq (fun _ => rfl) (dl_cons_eq (fun _ => rfl) (dl_cons_eq (fun _ => rfl) (dl_cons_eq (fun _ => rfl) (dl_cons_eq (fun _ => rfl) (dl_cons_eq (fun _ => rfl) rfl))))))))))))) (cons_eq rfl (cons_eq rfl (cons_eq rfl (cons_eq ((eD_skip (by rfl)).trans (eD_miss (fun hD => hn (hcl 2 _ rfl (hcl 3 _ rfl hD 2 dc) 1 dc)) eD_nil)) (cons_eq rfl (cons_eq rfl (cons_eq rfl (cons_eq rfl (cons_eq rfl (cons_eq ((eD_skip (by rfl)).trans (eD_miss (fun hD => hn (hcl 2 _ rfl hD 1 dc)) eD_nil)) (cons_eq ((eD_skip (by rfl)).trans rfl) rfl)))))))))))
      ·
       intro D b hn hd hcl
       obtain ⟨_, hd20, b16⟩ := b
       refine TO.rewL (L' := [cells b1 [.int .i64 early1] 3, cells b2 [.bool false] 4, cells b7 [hd18.v] 29, vec (encI (.i64)) 3 1 hd18.v nums8, cells b8 [hd19.v] 48, vec encS 9 1 hd19.v want7, cells jb1 [.int .i64 x1.1] 3, cells jb2 [.string x1.2.Text, .int .i64 x1.2.Indent, .int .i64 x1.2.Stanza, .int .i64 x1.2.In, .int .i64 x1.2.Span_From, .int .i64 x1.2.Span_To] 36, cells jb3 [.int .i64 (x2.1 : Int), .int .i64 (x2.2 : Int)] 34, emp, eD D emp [(12, cells b16 [.string (cutB x1.2.Text (x2.1 : Int) (x2.2 : Int))] 9)]]) (cons_eq rfl (cons_eq rfl (cons_eq rfl (cons_eq (eD_miss (fun hD => hn (hcl 3 _ rfl hD 2 dc)) eD_nil) (cons_eq rfl (cons_eq rfl (cons_eq rfl (cons_eq rfl (cons_eq rfl (cons_eq (eD_miss hn eD_nil) (cons_eq rfl rfl))))))))))) ?_
       refine TO.buildSlice (cs := [.int .i64 x1.1]) (te := 3) (ps := [(0, .tmp 36)]) rfl dc (evP.cons (dl_lookup (m := 1) rfl rfl (hd 1 dc)) evP.nil) (fun _ => by kernel_rfl) (fun b15 => ?_)
       refine TO.place 9 rfl rfl ?_
       show TO _ _ _ _ _ _ _ _ _ _ [cells b1 [.int .i64 early1] 3, cells b2 [.bool false] 4, cells b7 [hd18.v] 29, vec (encI (.i64)) 3 1 hd18.v nums8, cells b8 [hd19.v] 48, vec encS 9 1 hd19.v want7, cells jb1 [.int .i64 x1.1] 3, cells jb2 [.string x1.2.Text, .int .i64 x1.2.Indent, .int .i64 x1.2.Stanza, .int .i64 x1.2.In, .int .i64 x1.2.Span_From, .int .i64 x1.2.Span_To] 36, cells jb3 [.int .i64 (x2.1 : Int), .int .i64 (x2.2 : Int)] 34, cells b15 [.int .i64 x1.1] 3, eD D emp [(12, cells b16 [.string (cutB x1.2.Text (x2.1 : Int) (x2.2 : Int))] 9)]]
       exact TX.valG (b15, hd20, b16) 2 (by rfl) (by rfl) rfl (dl_cons_eq (fun _ => rfl) (dl_cons_eq (fun _ => rfl) (dl_cons_eq (fun hD => absurd hD hn) (dl_cons_eq (fun _ => rfl) (dl_cons_eq (fun _ => rfl) (dl_cons_eq (fun _ => rfl) (dl_cons_eq (fun _ => rfl) (dl_cons_eq (fun _ => rfl) (dl_cons_eq (fun _ => rfl) (dl_cons_eq (fun _ => rfl) (dl_cons_eq (fun _ => rfl) (dl_cons_eq (fun _ => rfl) (dl_cons_eq (fun _ => rfl) rfl))))))))))))) (cons_eq rfl (cons_eq rfl (cons_eq rfl (cons_eq ((eD_skip (by rfl)).trans (eD_miss (fun hD => hn (hcl 3 _ rfl hD 2 dc)) eD_nil)) (cons_eq rfl (cons_eq rfl (cons_eq rfl (cons_eq rfl (cons_eq rfl (cons_eq (eD_hit (Or.inr rfl) rfl) (cons_eq ((eD_skip (by rfl)).trans rfl) rfl)))))))))))
      ·
       intro D b hn hd hcl
       obtain ⟨b15, _, b16⟩ := b
       refine TO.rewL (L' := [cells b1 [.int .i64 early1] 3, cells b2 [.bool false] 4, cells b7 [hd18.v] 29, vec (encI (.i64)) 3 1 hd18.v nums8, cells b8 [hd19.v] 48, vec encS 9 1 hd19.v want7, cells jb1 [.int .i64 x1.1] 3, cells jb2 [.string x1.2.Text, .int .i64 x1.2.Indent, .int .i64 x1.2.Stanza, .int .i64 x1.2.In, .int .i64 x1.2.Span_From, .int .i64 x1.2.Span_To] 36, cells jb3 [.int .i64 (x2.1 : Int), .int .i64 (x2.2 : Int)] 34, cells b15 [.int .i64 x1.1] 3, eD D emp [(12, cells b16 [.string (cutB x1.2.Text (x2.1 : Int) (x2.2 : Int))] 9)]]) (cons_eq rfl (cons_eq rfl (cons_eq rfl (cons_eq (eD_miss hn eD_nil) (cons_eq rfl (cons_eq rfl (cons_eq rfl (cons_eq rfl (cons_eq rfl (cons_eq (eD_hit (hd 2 dc) rfl) (cons_eq rfl rfl))))))))))) ?_
       refine TO.appendVec (k := 3) (k2 := 9) (ys := [x1.1]) Tryd.underlying29 el_3 encI_len encI_one rfl dc (dl_lookup (m := 0) rfl rfl (hd 0 dc)) (dl_lookup (m := 2) rfl rfl (hd 2 dc)) rfl rfl rfl rfl hg2 (fun v2 => ?_)
       refine TO.nameHd (k := 3) rfl (fun hd20 he1 => ?_)
       subst he1
       exact TX.valG (b15, hd20, b16) 3 (by rfl) (by rfl) rfl (dl_cons_eq (fun _ => rfl) (dl_cons_eq (fun _ => rfl) (dl_cons_eq (fun _ => rfl) (dl_cons_eq (fun hD => absurd hD hn) (dl_cons_eq (fun _ => rfl) (dl_cons_eq (fun _ => rfl) (dl_cons_eq (fun _ => rfl) (dl_cons_eq (fun _ => rfl) (dl_cons_eq (fun _ => rfl) (dl_cons_eq (fun _ => rfl) (dl_cons_eq (fun _ => rfl) (dl_cons_eq (fun _ => rfl) (dl_cons_eq (fun _ => rfl) rfl))))))))))))) (cons_eq rfl (cons_eq rfl (cons_eq rfl (cons_eq (eD_hit (Or.inr rfl) rfl) (cons_eq rfl (cons_eq rfl (cons_eq rfl (cons_eq rfl (cons_eq rfl (cons_eq ((eD_skip (by rfl)).trans (eD_hit (hd 2 dc) rfl)) (cons_eq ((eD_skip (by rfl)).trans rfl) rfl)))))))))))
      ·
       intro D b hn hd hcl
       obtain ⟨b15, hd20, b16⟩ := b
       refine TO.rewL (L' := [cells b1 [.int .i64 early1] 3, cells b2 [.bool false] 4, cells b7 [hd18.v] 29, eD D (vec (encI (.i64)) 3 1 hd18.v nums8) [(3, vec (encI (.i64)) 3 1 hd20.v (nums8 ++ [x1.1]))], cells b8 [hd19.v] 48, vec encS 9 1 hd19.v want7, cells jb1 [.int .i64 x1.1] 3, cells jb2 [.string x1.2.Text, .int .i64 x1.2.Indent, .int .i64 x1.2.Stanza, .int .i64 x1.2.In, .int .i64 x1.2.Span_From, .int .i64 x1.2.Span_To] 36, cells jb3 [.int .i64 (x2.1 : Int), .int .i64 (x2.2 : Int)] 34, eD D emp [(2, cells b15 [.int .i64 x1.1] 3)], eD D emp [(12, cells b16 [.string (cutB x1.2.Text (x2.1 : Int) (x2.2 : Int))] 9)]]) (cons_eq rfl (cons_eq rfl (cons_eq rfl (cons_eq rfl (cons_eq rfl (cons_eq rfl (cons_eq rfl (cons_eq rfl (cons_eq rfl (cons_eq rfl (cons_eq rfl rfl))))))))))) (TO.load (k := 4) sc_48 rfl dc (dl_old (by rfl) rfl) rfl rfl ?_)
       exact TX.valG (b15, hd20, b16) 4 (by rfl) (by rfl) rfl (dl_cons_eq (fun _ => rfl) (dl_cons_eq (fun _ => rfl) (dl_cons_eq (fun _ => rfl) (dl_cons_eq (fun _ => rfl) (dl_cons_eq (fun _ => rfl) (dl_cons_eq (fun _ => rfl) (dl_cons_eq (fun _ => rfl) (dl_cons_eq (fun _ => rfl) (dl_cons_eq (fun _ => rfl) (dl_cons_eq (fun _ => rfl) (dl_cons_eq (fun _ => rfl) (dl_cons_eq (fun _ => rfl) (dl_cons_eq (fun _ => rfl) rfl))))))))))))) (cons_eq rfl (cons_eq rfl (cons_eq rfl (cons_eq ((eD_skip (by rfl)).trans rfl) (cons_eq rfl (cons_eq rfl (cons_eq rfl (cons_eq rfl (cons_eq rfl (cons_eq ((eD_skip (by rfl)).trans rfl) (cons_eq ((eD_skip (by rfl)).trans rfl) rfl)))))))))))
      ·
       intro D b hn hd hcl
       obtain ⟨b15, hd20, b16⟩ := b
       refine TO.rewL (L' := [cells b1 [.int .i64 early1] 3, cells b2 [.bool false] 4, cells b7 [hd18.v] 29, eD D (vec (encI (.i64)) 3 1 hd18.v nums8) [(3, vec (encI (.i64)) 3 1 hd20.v (nums8 ++ [x1.1]))], cells b8 [hd19.v] 48, vec encS 9 1 hd19.v want7, cells jb1 [.int .i64 x1.1] 3, cells jb2 [.string x1.2.Text, .int .i64 x1.2.Indent, .int .i64 x1.2.Stanza, .int .i64 x1.2.In, .int .i64 x1.2.Span_From, .int .i64 x1.2.Span_To] 36, cells jb3 [.int .i64 (x2.1 : Int), .int .i64 (x2.2 : Int)] 34, eD D emp [(2, cells b15 [.int .i64 x1.1] 3)], emp]) (cons_eq rfl (cons_eq rfl (cons_eq rfl (cons_eq rfl (cons_eq rfl (cons_eq rfl (cons_eq rfl (cons_eq rfl (cons_eq rfl (cons_eq rfl (cons_eq (eD_miss (fun hD => hn (hcl 6 _ rfl (hcl 11 _ rfl (hcl 12 _ rfl hD 11 dc) 6 dc) 5 dc)) eD_nil) rfl))))))))))) ?_
       refine TO.fieldAddr fl_36_0 rfl dc (dl_old (by rfl) rfl) (show _ = 0 from rfl) ?_
       exact TX.valG (b15, hd20, b16) 5 (by rfl) (by rfl) rfl (dl_cons_eq (fun _ => rfl) (dl_cons_eq (fun _ => rfl) (dl_cons_eq (fun _ => rfl) (dl_cons_eq (fun _ => rfl) (dl_cons_eq (fun _ => rfl) (dl_cons_eq (fun _ => rfl) (dl_cons_eq (fun _ => rfl) (dl_cons_eq (fun _ => rfl) (dl_cons_eq (fun _ => rfl) (dl_cons_eq (fun _ => rfl) (dl_cons_eq (fun _ => rfl) (dl_cons_eq (fun _ => rfl) (dl_cons_eq (fun _ => rfl) rfl))))))))))))) (cons_eq rfl (cons_eq rfl (cons_eq rfl (cons_eq ((eD_skip (by rfl)).trans rfl) (cons_eq rfl (cons_eq rfl (cons_eq rfl (cons_eq rfl (cons_eq rfl (cons_eq ((eD_skip (by rfl)).trans rfl) (cons_eq ((eD_skip (by rfl)).trans (eD_miss (fun hD => hn (hcl 6 _ rfl (hcl 11 _ rfl (hcl 12 _ rfl hD 11 dc) 6 dc) 5 dc)) eD_nil)) rfl)))))))))))
      ·
       intro D b hn hd hcl
       obtain ⟨b15, hd20, b16⟩ := b
       refine TO.rewL (L' := [cells b1 [.int .i64 early1] 3, cells b2 [.bool false] 4, cells b7 [hd18.v] 29, eD D (vec (encI (.i64)) 3 1 hd18.v nums8) [(3, vec (encI (.i64)) 3 1 hd20.v (nums8 ++ [x1.1]))], cells b8 [hd19.v] 48, vec encS 9 1 hd19.v want7, cells jb1 [.int .i64 x1.1] 3, cells jb2 [.string x1.2.Text, .int .i64 x1.2.Indent, .int .i64 x1.2.Stanza, .int .i64 x1.2.In, .int .i64 x1.2.Span_From, .int .i64 x1.2.Span_To] 36, cells jb3 [.int .i64 (x2.1 : Int), .int .i64 (x2.2 : Int)] 34, eD D emp [(2, cells b15 [.int .i64 x1.1] 3)], emp]) (cons_eq rfl (cons_eq rfl (cons_eq rfl (cons_eq rfl (cons_eq rfl (cons_eq rfl (cons_eq rfl (cons_eq rfl (cons_eq rfl (cons_eq rfl (cons_eq (eD_miss (fun hD => hn (hcl 11 _ rfl (hcl 12 _ rfl hD 11 dc) 6 dc)) eD_nil) rfl))))))))))) ?_
       refine TO.load (k := 7) sc_9 rfl dc (dl_lookup (m := 5) rfl rfl (hd 5 dc)) rfl rfl ?_
       exact TX.valG (b15, hd20, b16) 6 (by rfl) (by rfl) rfl (dl_cons_eq (fun _ => rfl) (dl_cons_eq (fun _ => rfl) (dl_cons_eq (fun _ => rfl) (dl_cons_eq (fun _ => rfl) (dl_cons_eq (fun _ => rfl) (dl_cons_eq (fun _ => rfl) (dl_cons_eq (fun _ => rfl) (dl_cons_eq (fun _ => rfl) (dl_cons_eq (fun _ => rfl) (dl_cons_eq (fun _ => rfl) (dl_cons_eq (fun _ => rfl) (dl_cons_eq (fun _ => rfl) (dl_cons_eq (fun _ => rfl) rfl))))))))))))) (cons_eq rfl (cons_eq rfl (cons_eq rfl (cons_eq ((eD_skip (by rfl)).trans rfl) (cons_eq rfl (cons_eq rfl (cons_eq rfl (cons_eq rfl (cons_eq rfl (cons_eq ((eD_skip (by rfl)).trans rfl) (cons_eq ((eD_skip (by rfl)).trans (eD_miss (fun hD => hn (hcl 11 _ rfl (hcl 12 _ rfl hD 11 dc) 6 dc)) eD_nil)) rfl)))))))))))
      ·
       intro D b hn hd hcl
       obtain ⟨b15, hd20, b16⟩ := b
       refine TO.rewL (L' := [cells b1 [.int .i64 early1] 3, cells b2 [.bool false] 4, cells b7 [hd18.v] 29, eD D (vec (encI (.i64)) 3 1 hd18.v nums8) [(3, vec (encI (.i64)) 3 1 hd20.v (nums8 ++ [x1.1]))], cells b8 [hd19.v] 48, vec encS 9 1 hd19.v want7, cells jb1 [.int .i64 x1.1] 3, cells jb2 [.string x1.2.Text, .int .i64 x1.2.Indent, .int .i64 x1.2.Stanza, .int .i64 x1.2.In, .int .i64 x1.2.Span_From, .int .i64 x1.2.Span_To] 36, cells jb3 [.int .i64 (x2.1 : Int), .int .i64 (x2.2 : Int)] 34, eD D emp [(2, cells b15 [.int .i64 x1.1] 3)], emp]) (cons_eq rfl (cons_eq rfl (cons_eq rfl (cons_eq rfl (cons_eq rfl (cons_eq rfl (cons_eq rfl (cons_eq rfl (cons_eq rfl (cons_eq rfl (cons_eq (eD_miss (fun hD => hn (hcl 8 _ rfl (hcl 11 _ rfl (hcl 12 _ rfl hD 11 dc) 8 dc) 7 dc)) eD_nil) rfl))))))))))) ?_
       refine TO.fieldAddr fl_34_0 rfl dc (dl_old (by rfl) rfl) (show _ = 0 from rfl) ?_
       exact TX.valG (b15, hd20, b16) 7 (by rfl) (by rfl) rfl (dl_cons_eq (fun _ => rfl) (dl_cons_eq (fun _ => rfl) (dl_cons_eq (fun _ => rfl) (dl_cons_eq (fun _ => rfl) (dl_cons_eq (fun _ => rfl) (dl_cons_eq (fun _ => rfl) (dl_cons_eq (fun _ => rfl) (dl_cons_eq (fun _ => rfl) (dl_cons_eq (fun _ => rfl) (dl_cons_eq (fun _ => rfl) (dl_cons_eq (fun _ => rfl) (dl_cons_eq (fun _ => rfl) (dl_cons_eq (fun _ => rfl) rfl))))))))))))) (cons_eq rfl (cons_eq rfl (cons_eq rfl (cons_eq ((eD_skip (by rfl)).trans rfl) (cons_eq rfl (cons_eq rfl (cons_eq rfl (cons_eq rfl (cons_eq rfl (cons_eq ((eD_skip (by rfl)).trans rfl) (cons_eq ((eD_skip (by rfl)).trans (eD_miss (fun hD => hn (hcl 8 _ rfl (hcl 11 _ rfl (hcl 12 _ rfl hD 11 dc) 8 dc) 7 dc)) eD_nil)) rfl)))))))))))
      ·
       intro D b hn hd hcl
       obtain ⟨b15, hd20, b16⟩ := b
       refine TO.rewL (L' := [cells b1 [.int .i64 early1] 3, cells b2 [.bool false] 4, cells b7 [hd18.v] 29, eD D (vec (encI (.i64)) 3 1 hd18.v nums8) [(3, vec (encI (.i64)) 3 1 hd20.v (nums8 ++ [x1.1]))], cells b8 [hd19.v] 48, vec encS 9 1 hd19.v want7, cells jb1 [.int .i64 x1.1] 3, cells jb2 [.string x1.2.Text, .int .i64 x1.2.Indent, .int .i64 x1.2.Stanza, .int .i64 x1.2.In, .int .i64 x1.2.Span_From, .int .i64 x1.2.Span_To] 36, cells jb3 [.int .i64 (x2.1 : Int), .int .i64 (x2.2 : Int)] 34, eD D emp [(2, cells b15 [.int .i64 x1.1] 3)], emp]) (cons_eq rfl (cons_eq rfl (cons_eq rfl (cons_eq rfl (cons_eq rfl (cons_eq rfl (cons_eq rfl (cons_eq rfl (cons_eq rfl (cons_eq rfl (cons_eq (eD_miss (fun hD => hn (hcl 11 _ rfl (hcl 12 _ rfl hD 11 dc) 8 dc)) eD_nil) rfl))))))))))) ?_
       refine TO.load (k := 8) sc_3 rfl dc (dl_lookup (m := 7) rfl rfl (hd 7 dc)) rfl rfl ?_
       exact TX.valG (b15, hd20, b16) 8 (by rfl) (by rfl) rfl (dl_cons_eq (fun _ => rfl) (dl_cons_eq (fun _ => rfl) (dl_cons_eq (fun _ => rfl) (dl_cons_eq (fun _ => rfl) (dl_cons_eq (fun _ => rfl) (dl_cons_eq (fun _ => rfl) (dl_cons_eq (fun _ => rfl) (dl_cons_eq (fun _ => rfl) (dl_cons_eq (fun _ => rfl) (dl_cons_eq (fun _ => rfl) (dl_cons_eq (fun _ => rfl) (dl_cons_eq (fun _ => rfl) (dl_cons_eq (fun _ => rfl) rfl))))))))))))) (cons_eq rfl (cons_eq rfl (cons_eq rfl (cons_eq ((eD_skip (by rfl)).trans rfl) (cons_eq rfl (cons_eq rfl (cons_eq rfl (cons_eq rfl (cons_eq rfl (cons_eq ((eD_skip (by rfl)).trans rfl) (cons_eq ((eD_skip (by rfl)).trans (eD_miss (fun hD => hn (hcl 11 _ rfl (hcl 12 _ rfl hD 11 dc) 8 dc)) eD_nil)) rfl)))))))))))
      ·
       intro D b hn hd hcl
       obtain ⟨b15, hd20, b16⟩ := b
       refine TO.rewL (L' := [cells b1 [.int .i64 early1] 3, cells b2 [.bool false] 4, cells b7 [hd18.v] 29, eD D (vec (encI (.i64)) 3 1 hd18.v nums8) [(3, vec (encI (.i64)) 3 1 hd20.v (nums8 ++ [x1.1]))], cells b8 [hd19.v] 48, vec encS 9 1 hd19.v want7, cells jb1 [.int .i64 x1.1] 3, cells jb2 [.string x1.2.Text, .int .i64 x1.2.Indent, .int .i64 x1.2.Stanza, .int .i64 x1.2.In, .int .i64 x1.2.Span_From, .int .i64 x1.2.Span_To] 36, cells jb3 [.int .i64 (x2.1 : Int), .int .i64 (x2.2 : Int)] 34, eD D emp [(2, cells b15 [.int .i64 x1.1] 3)], emp]) (cons_eq rfl (cons_eq rfl (cons_eq rfl (cons_eq rfl (cons_eq rfl (cons_eq rfl (cons_eq rfl (cons_eq rfl (cons_eq rfl (cons_eq rfl (cons_eq (eD_miss (fun hD => hn (hcl 10 _ rfl (hcl 11 _ rfl (hcl 12 _ rfl hD 11 dc) 10 dc) 9 dc)) eD_nil) rfl))))))))))) ?_
       refine TO.fieldAddr fl_34_1 rfl dc (dl_old (by rfl) rfl) (show _ = 1 from rfl) ?_
       exact TX.valG (b15, hd20, b16) 9 (by rfl) (by rfl) rfl (dl_cons_eq (fun _ => rfl) (dl_cons_eq (fun _ => rfl) (dl_cons_eq (fun _ => rfl) (dl_cons_eq (fun _ => rfl) (dl_cons_eq (fun _ => rfl) (dl_cons_eq (fun _ => rfl) (dl_cons_eq (fun _ => rfl) (dl_cons_eq (fun _ => rfl) (dl_cons_eq (fun _ => rfl) (dl_cons_eq (fun _ => rfl) (dl_cons_eq (fun _ => rfl) (dl_cons_eq (fun _ => rfl) (dl_cons_eq (fun _ => rfl) rfl))))))))))))) (cons_eq rfl (cons_eq rfl (cons_eq rfl (cons_eq ((eD_skip (by rfl)).trans rfl) (cons_eq rfl (cons_eq rfl (cons_eq rfl (cons_eq rfl (cons_eq rfl (cons_eq ((eD_skip (by rfl)).trans rfl) (cons_eq ((eD_skip (by rfl)).trans (eD_miss (fun hD => hn (hcl 10 _ rfl (hcl 11 _ rfl (hcl 12 _ rfl hD 11 dc) 10 dc) 9 dc)) eD_nil)) rfl)))))))))))
      ·
       intro D b hn hd hcl
       obtain ⟨b15, hd20, b16⟩ := b
       refine TO.rewL (L' := [cells b1 [.int .i64 early1] 3, cells b2 [.bool false] 4, cells b7 [hd18.v] 29, eD D (vec (encI (.i64)) 3 1 hd18.v nums8) [(3, vec (encI (.i64)) 3 1 hd20.v (nums8 ++ [x1.1]))], cells b8 [hd19.v] 48, vec encS 9 1 hd19.v want7, cells jb1 [.int .i64 x1.1] 3, cells jb2 [.string x1.2.Text, .int .i64 x1.2.Indent, .int .i64 x1.2.Stanza, .int .i64 x1.2.In, .int .i64 x1.2.Span_From, .int .i64 x1.2.Span_To] 36, cells jb3 [.int .i64 (x2.1 : Int), .int .i64 (x2.2 : Int)] 34, eD D emp [(2, cells b15 [.int .i64 x1.1] 3)], emp]) (cons_eq rfl (cons_eq rfl (cons_eq rfl (cons_eq rfl (cons_eq rfl (cons_eq rfl (cons_eq rfl (cons_eq rfl (cons_eq rfl (cons_eq rfl (cons_eq (eD_miss (fun hD => hn (hcl 11 _ rfl (hcl 12 _ rfl hD 11 dc) 10 dc)) eD_nil) rfl))))))))))) ?_
       refine TO.load (k := 8) sc_3 rfl dc (dl_lookup (m := 9) rfl rfl (hd 9 dc)) rfl rfl ?_
       exact TX.valG (b15, hd20, b16) 10 (by rfl) (by rfl) rfl (dl_cons_eq (fun _ => rfl) (dl_cons_eq (fun _ => rfl) (dl_cons_eq (fun _ => rfl) (dl_cons_eq (fun _ => rfl) (dl_cons_eq (fun _ => rfl) (dl_cons_eq (fun _ => rfl) (dl_cons_eq (fun _ => rfl) (dl_cons_eq (fun _ => rfl) (dl_cons_eq (fun _ => rfl) (dl_cons_eq (fun _ => rfl) (dl_cons_eq (fun _ => rfl) (dl_cons_eq (fun _ => rfl) (dl_cons_eq (fun _ => rfl) rfl))))))))))))) (cons_eq rfl (cons_eq rfl (cons_eq rfl (cons_eq ((eD_skip (by rfl)).trans rfl) (cons_eq rfl (cons_eq rfl (cons_eq rfl (cons_eq rfl (cons_eq rfl (cons_eq ((eD_skip (by rfl)).trans rfl) (cons_eq ((eD_skip (by rfl)).trans (eD_miss (fun hD => hn (hcl 11 _ rfl (hcl 12 _ rfl hD 11 dc) 10 dc)) eD_nil)) rfl)))))))))))
      ·
       intro D b hn hd hcl
       obtain ⟨b15, hd20, b16⟩ := b
       refine TO.rewL (L' := [cells b1 [.int .i64 early1] 3, cells b2 [.bool false] 4, cells b7 [hd18.v] 29, eD D (vec (encI (.i64)) 3 1 hd18.v nums8) [(3, vec (encI (.i64)) 3 1 hd20.v (nums8 ++ [x1.1]))], cells b8 [hd19.v] 48, vec encS 9 1 hd19.v want7, cells jb1 [.int .i64 x1.1] 3, cells jb2 [.string x1.2.Text, .int .i64 x1.2.Indent, .int .i64 x1.2.Stanza, .int .i64 x1.2.In, .int .i64 x1.2.Span_From, .int .i64 x1.2.Span_To] 36, cells jb3 [.int .i64 (x2.1 : Int), .int .i64 (x2.2 : Int)] 34, eD D emp [(2, cells b15 [.int .i64 x1.1] 3)], emp]) (cons_eq rfl (cons_eq rfl (cons_eq rfl (cons_eq rfl (cons_eq rfl (cons_eq rfl (cons_eq rfl (cons_eq rfl (cons_eq rfl (cons_eq rfl (cons_eq (eD_miss (fun hD => hn (hcl 12 _ rfl hD 11 dc)) eD_nil) rfl))))))))))) ?_
       refine TO.slice rfl dc (dl_lookup (m := 6) rfl rfl (hd 6 dc)) (evO.some (dl_lookup (m := 8) rfl rfl (hd 8 dc))) (evO.some (dl_lookup (m := 10) rfl rfl (hd 10 dc))) (slice_stringI (i := (x2.1 : Int)) (j := (x2.2 : Int)) Tryd.underlying9 (.inr rfl) (.inr rfl) hg3) ?_
       exact TX.valG (b15, hd20, b16) 11 (by rfl) (by rfl) rfl (dl_cons_eq (fun _ => rfl) (dl_cons_eq (fun _ => rfl) (dl_cons_eq (fun _ => rfl) (dl_cons_eq (fun _ => rfl) (dl_cons_eq (fun _ => rfl) (dl_cons_eq (fun _ => rfl) (dl_cons_eq (fun _ => rfl) (dl_cons_eq (fun _ => rfl) (dl_cons_eq (fun _ => rfl) (dl_cons_eq (fun _ => rfl) (dl_cons_eq (fun _ => rfl) (dl_cons_eq (fun _ => rfl) (dl_cons_eq (fun _ => rfl) rfl))))))))))))) (cons_eq rfl (cons_eq rfl (cons_eq rfl (cons_eq ((eD_skip (by rfl)).trans rfl) (cons_eq rfl (cons_eq rfl (cons_eq rfl (cons_eq rfl (cons_eq rfl (cons_eq ((eD_skip (by rfl)).trans rfl) (cons_eq ((eD_skip (by rfl)).trans (eD_miss (fun hD => hn (hcl 12 _ rfl hD 11 dc)) eD_nil)) rfl)))))))))))
      ·
       intro D b hn hd hcl
       obtain ⟨b15, hd20, _⟩ := b
       refine TO.rewL (L' := [cells b1 [.int .i64 early1] 3, cells b2 [.bool false] 4, cells b7 [hd18.v] 29, eD D (vec (encI (.i64)) 3 1 hd18.v nums8) [(3, vec (encI (.i64)) 3 1 hd20.v (nums8 ++ [x1.1]))], cells b8 [hd19.v] 48, vec encS 9 1 hd19.v want7, cells jb1 [.int .i64 x1.1] 3, cells jb2 [.string x1.2.Text, .int .i64 x1.2.Indent, .int .i64 x1.2.Stanza, .int .i64 x1.2.In, .int .i64 x1.2.Span_From, .int .i64 x1.2.Span_To] 36, cells jb3 [.int .i64 (x2.1 : Int), .int .i64 (x2.2 : Int)] 34, eD D emp [(2, cells b15 [.int .i64 x1.1] 3)], emp]) (cons_eq rfl (cons_eq rfl (cons_eq rfl (cons_eq rfl (cons_eq rfl (cons_eq rfl (cons_eq rfl (cons_eq rfl (cons_eq rfl (cons_eq rfl (cons_eq (eD_miss hn eD_nil) rfl))))))))))) ?_
       refine TO.buildSlice (cs := [.string (cutB x1.2.Text (x2.1 : Int) (x2.2 : Int))]) (te := 9) (ps := [(0, .tmp 46)]) rfl dc (evP.cons (dl_lookup (m := 11) rfl rfl (hd 11 dc)) evP.nil) (fun _ => by kernel_rfl) (fun b16 => ?_)
       refine TO.place 10 rfl rfl ?_
       show TO _ _ _ _ _ _ _ _ _ _ [cells b1 [.int .i64 early1] 3, cells b2 [.bool false] 4, cells b7 [hd18.v] 29, eD D (vec (encI (.i64)) 3 1 hd18.v nums8) [(3, vec (encI (.i64)) 3 1 hd20.v (nums8 ++ [x1.1]))], cells b8 [hd19.v] 48, vec encS 9 1 hd19.v want7, cells jb1 [.int .i64 x1.1] 3, cells jb2 [.string x1.2.Text, .int .i64 x1.2.Indent, .int .i64 x1.2.Stanza, .int .i64 x1.2.In, .int .i64 x1.2.Span_From, .int .i64 x1.2.Span_To] 36, cells jb3 [.int .i64 (x2.1 : Int), .int .i64 (x2.2 : Int)] 34, eD D emp [(2, cells b15 [.int .i64 x1.1] 3)], cells b16 [.string (cutB x1.2.Text (x2.1 : Int) (x2.2 : Int))] 9]
       exact TX.valG (b15, hd20, b16) 12 (by rfl) (by rfl) rfl (dl_cons_eq (fun _ => rfl) (dl_cons_eq (fun _ => rfl) (dl_cons_eq (fun _ => rfl) (dl_cons_eq (fun _ => rfl) (dl_cons_eq (fun _ => rfl) (dl_cons_eq (fun _ => rfl) (dl_cons_eq (fun _ => rfl) (dl_cons_eq (fun _ => rfl) (dl_cons_eq (fun _ => rfl) (dl_cons_eq (fun _ => rfl) (dl_cons_eq (fun _ => rfl) (dl_cons_eq (fun _ => rfl) (dl_cons_eq (fun hD => absurd hD hn) rfl))))))))))))) (cons_eq rfl (cons_eq rfl (cons_eq rfl (cons_eq ((eD_skip (by rfl)).trans rfl) (cons_eq rfl (cons_eq rfl (cons_eq rfl (cons_eq rfl (cons_eq rfl (cons_eq ((eD_skip (by rfl)).trans rfl) (cons_eq (eD_hit (Or.inr rfl) rfl) rfl)))))))))))
      intro D b hall
      obtain ⟨b15, hd20, b16⟩ := b
      refine TO.rewL (L' := [cells b1 [.int .i64 early1] 3, cells b2 [.bool false] 4, cells b7 [hd18.v] 29, vec (encI (.i64)) 3 1 hd20.v (nums8 ++ [x1.1]), cells b8 [hd19.v] 48, vec encS 9 1 hd19.v want7, cells jb1 [.int .i64 x1.1] 3, cells jb2 [.string x1.2.Text, .int .i64 x1.2.Indent, .int .i64 x1.2.Stanza, .int .i64 x1.2.In, .int .i64 x1.2.Span_From, .int .i64 x1.2.Span_To] 36, cells jb3 [.int .i64 (x2.1 : Int), .int .i64 (x2.2 : Int)] 34, cells b15 [.int .i64 x1.1] 3, cells b16 [.string (cutB x1.2.Text (x2.1 : Int) (x2.2 : Int))] 9]) (cons_eq rfl (cons_eq rfl (cons_eq rfl (cons_eq (eD_hit (hall 3 dc) rfl) (cons_eq rfl (cons_eq rfl (cons_eq rfl (cons_eq rfl (cons_eq rfl (cons_eq (eD_hit (hall 2 dc) rfl) (cons_eq (eD_hit (hall 12 dc) rfl) rfl))))))))))) ?_
      refine TO.appendVec (k := 5) (k2 := 10) (ys := [cutB x1.2.Text (x2.1 : Int) (x2.2 : Int)]) Tryd.underlying48 el_9 encS_len encS_one rfl dc rfl rfl rfl rfl rfl rfl hg4 (fun v3 => ?_)
      refine TO.nameHd (k := 5) rfl (fun hd21 he2 => ?_)
      subst he2
      refine TO.store (k := 2) (l' := [hd20.v]) sz_29 rfl rfl rfl rfl rfl (fun _ _ => rfl) rfl ?_
      show TO _ _ _ _ _ _ _ _ _ _ [cells b1 [.int .i64 early1] 3, cells b2 [.bool false] 4, cells b7 [hd20.v] 29, vec (encI (.i64)) 3 1 hd20.v (nums8 ++ [x1.1]), cells b8 [hd19.v] 48, vec encS 9 1 hd21.v (want7 ++ [cutB x1.2.Text (x2.1 : Int) (x2.2 : Int)]), cells jb1 [.int .i64 x1.1] 3, cells jb2 [.string x1.2.Text, .int .i64 x1.2.Indent, .int .i64 x1.2.Stanza, .int .i64 x1.2.In, .int .i64 x1.2.Span_From, .int .i64 x1.2.Span_To] 36, cells jb3 [.int .i64 (x2.1 : Int), .int .i64 (x2.2 : Int)] 34, cells b15 [.int .i64 x1.1] 3, cells b16 [.string (cutB x1.2.Text (x2.1 : Int) (x2.2 : Int))] 9]
      refine TO.store (k := 4) (l' := [hd21.v]) sz_48 rfl rfl rfl rfl rfl (fun _ _ => rfl) rfl ?_
      refine TO.nil (TX.blockNormal ?_)
      exact TX.round (nums8 ++ [x1.1], want7 ++ [cutB x1.2.Text (x2.1 : Int) (x2.2 : Int)], hd20, hd21) (fun post2 e2 => by have e9 := snoc_post hxs2 e2; subst e9; subst hag2; exact h) (Splits.of [0, 1, 2, 3, 4, 5, 6, 7] kr rfl)
     ·
      rintro ⟨nums8, want7, hd18, hd19⟩ hinv
      have h : dn2 nums8 want7 = some r := hinv [] (List.append_nil _).symm
      rw [hdn2] at h
      show TX _ _ _ _ _ _ _ [emp, emp, emp, emp, emp, emp, emp, emp, cells b13 [.string x1.2.Text] 9, cells b1 [.int .i64 early1] 3, cells b2 [.bool false] 4, cells b7 [hd18.v] 29, vec (encI (.i64)) 3 1 hd18.v nums8, cells b8 [hd19.v] 48, vec encS 9 1 hd19.v want7, cells jb1 [.int .i64 x1.1] 3, cells jb2 [.string x1.2.Text, .int .i64 x1.2.Indent, .int .i64 x1.2.Stanza, .int .i64 x1.2.In, .int .i64 x1.2.Span_From, .int .i64 x1.2.Span_To] 36]
      refine TX.blockNormal (TX.blockNormal ?_)
      exact TX.round (nums8, want7, hd18, hd19) (fun post2 e2 => by have e9 := snoc_post hxs1 e2; subst e9; subst hag1; exact h) (Splits.of [9, 10, 11, 12, 13, 14] kr rfl)
     ·
      rintro c pre x2 post g hxs hX
      exact (show False from hX).elim
    ·
     rintro dm2 ⟨nums5, want4, hd12, hd13⟩ hinv
     have h : dn1 nums5 want4 = some r := hinv [] (List.append_nil _).symm
     rw [hdn1] at h
     show TX _ _ _ _ _ _ _ [star ((([] : List Nat) : List Nat).map mark), emp, emp, emp, cells b3 [.int .i64 r2.2.Err, .int .i64 r2.2.At] 26, emp, emp, cells b9 [.string p5.told_title, hd5.v, hd6.v, .string p5.source] 93, vec enc_Gapi_Verse 36 6 hd5.v p5.told_lines, vec enc_Gapi_Span 34 2 hd6.v p5.told_stanzas, cells b10 [.pointer (some ⟨b9, 0, none⟩)] 23, emp, emp, cells b1 [.int .i64 early1] 3, cells b2 [.bool false] 4, cells b7 [hd12.v] 29, vec (encI (.i64)) 3 1 hd12.v nums5, cells b8 [hd13.v] 48, vec encS 9 1 hd13.v want4, mark dm2]
     refine TX.starCons (k := 19) (j := 0) rfl rfl dc ?_
     show TX _ _ _ _ _ _ _ [star ((dm2 :: ([] : List Nat) : List Nat).map mark), emp, emp, emp, cells b3 [.int .i64 r2.2.Err, .int .i64 r2.2.At] 26, emp, emp, cells b9 [.string p5.told_title, hd5.v, hd6.v, .string p5.source] 93, vec enc_Gapi_Verse 36 6 hd5.v p5.told_lines, vec enc_Gapi_Span 34 2 hd6.v p5.told_stanzas, cells b10 [.pointer (some ⟨b9, 0, none⟩)] 23, emp, emp, cells b1 [.int .i64 early1] 3, cells b2 [.bool false] 4, cells b7 [hd12.v] 29, vec (encI (.i64)) 3 1 hd12.v nums5, cells b8 [hd13.v] 48, vec encS 9 1 hd13.v want4, emp]
     refine TX.blockNormal ?_
     exact TX.meetD (p5.told_title, p5.told_lines, p5.told_stanzas, p5.source, nums5, want4, b9, hd5, hd6, b7, hd12, b8, hd13, dm2 :: ([] : List Nat)) h rfl (Sbs.cons rfl (Sbs.cons rfl (Sbs.cons rfl (Sbs.cons rfl (Sbs.cons rfl (Sbs.nil)))))) (Splits.of [13, 14, 7, 8, 9, 15, 16, 17, 18, 0] kr rfl)
    ·
     rintro dm2 c pre x1 post g hxs hX
     exact (show False from hX).elim
   ·
    rintro ⟨p1, p2, p3, p4, nums1, want1, b4, hd1, hd2, b5, hd3, b6, hd4, ds1⟩ h
    rw [hj1] at h
    show TC _ _ _ _ _ (marksOf ds1) _ _ [(3, .pointer (some ⟨b1, 0, none⟩)), (4, .pointer (some ⟨b2, 0, none⟩)), (5, .pointer (some ⟨b4, 0, none⟩)), (7, .pointer (some ⟨b5, 0, none⟩)), (8, .pointer (some ⟨b6, 0, none⟩))] [cells b1 [.int .i64 early1] 3, cells b2 [.bool false] 4, cells b4 [.string p1, hd1.v, hd2.v, .string p4] 93, vec enc_Gapi_Verse 36 6 hd1.v p2, vec enc_Gapi_Span 34 2 hd2.v p3, cells b5 [hd3.v] 29, vec (encI (.i64)) 3 1 hd3.v nums1, cells b6 [hd4.v] 48, vec encS 9 1 hd4.v want1, star ((ds1 : List Nat).map mark)]
    obtain ⟨j2, hj2, h⟩ := joinE h
    refine TC.cutN (β := Int × Nat × Nat × (List Nat)) 2 rfl (fun b => j2 b.1 = some r) (fun b => marksOf b.2.2.2) (fun b => [(4, .pointer (some ⟨b2, 0, none⟩)), (7, .pointer (some ⟨b5, 0, none⟩)), (8, .pointer (some ⟨b6, 0, none⟩)), (12, .func (.func 74) #[] #[.pointer (some ⟨b.2.1, 0, none⟩)]), (13, .pointer (some ⟨b.2.2.1, 0, none⟩))]) (fun b => [cells b2 [.bool false] 4, cells b5 [hd3.v] 29, vec (encI (.i64)) 3 1 hd3.v nums1, cells b6 [hd4.v] 48, vec encS 9 1 hd4.v want1, cells b.2.1 [.pointer (some ⟨b4, 0, none⟩)] 23, cells b4 [.string p1, hd1.v, hd2.v, .string p4] 93, vec enc_Gapi_Verse 36 6 hd1.v p2, vec enc_Gapi_Span 34 2 hd2.v p3, cells b.2.2.1 [.int .i64 b.1] 3, star ((b.2.2.2 : List Nat).map mark)]) (fun cut => ?_) ?_
    ·
     refine TC.seq (TC.region (TO.move rfl dc rfl ?_))
     obtain ⟨r5, hq7, h⟩ := andE h
     refine TO.callR (vs := [.pointer (some ⟨b4, 0, none⟩)]) (Rd.nil : Rd _ _ []) rfl dc rfl rfl rfl en_43 (poem_Poem_Words_fn (bp1 := b4) (p1 := (⟨p1, p2, p3, p4⟩ : Gpoem_Poem)) (p1_h0 := hd1) (p1_h1 := hd2) hq7) Splits.nil (.own (Splits.of [2] (by kernel_rfl) rfl) (fun _ _ h => sepL.one1.1 h) (.own (Splits.of [3] (by kernel_rfl) rfl) (fun _ _ h => sepL.one1.1 h) (.own (Splits.of [4] (by kernel_rfl) rfl) (fun _ _ h => sepL.one1.1 h) .nil))) ?_
     rintro b19
     show TO _ _ _ _ _ _ _ _ _ _ [cells b1 [.int .i64 early1] 3, cells b2 [.bool false] 4, cells b4 [.string p1, hd1.v, hd2.v, .string p4] 93, vec enc_Gapi_Verse 36 6 hd1.v p2, vec enc_Gapi_Span 34 2 hd2.v p3, cells b5 [hd3.v] 29, vec (encI (.i64)) 3 1 hd3.v nums1, cells b6 [hd4.v] 48, vec encS 9 1 hd4.v want1, star ((ds1 : List Nat).map mark), cells b19 [.pointer (some ⟨b4, 0, none⟩)] 23]
     refine TO.weakenL (L' := [cells b1 [.int .i64 early1] 3, cells b2 [.bool false] 4, cells b4 [.string p1, hd1.v, hd2.v, .string p4] 93, vec enc_Gapi_Verse 36 6 hd1.v p2, vec enc_Gapi_Span 34 2 hd2.v p3, cells b5 [hd3.v] 29, vec (encI (.i64)) 3 1 hd3.v nums1, cells b6 [hd4.v] 48, vec encS 9 1 hd4.v want1, star ((ds1 : List Nat).map mark), cells b19 [.pointer (some ⟨b4, 0, none⟩)] 23]) (Splits.of [0, 1, 2, 3, 4, 5, 6, 7, 8, 9, 10] kr rfl) (TO.assign rfl dc rfl (TO.nil (TX.next (TC.seq (TC.region ?_)))))
     refine TO.alloc zr_3 rfl dc (fun b20 => ?_)
     refine TO.store (k := 11) (l' := [.int .i64 0]) sz_3 rfl rfl rfl rfl rfl (fun _ _ => rfl) rfl ?_
     show TO _ _ _ _ _ _ _ _ _ _ [cells b1 [.int .i64 early1] 3, cells b2 [.bool false] 4, cells b4 [.string p1, hd1.v, hd2.v, .string p4] 93, vec enc_Gapi_Verse 36 6 hd1.v p2, vec enc_Gapi_Span 34 2 hd2.v p3, cells b5 [hd3.v] 29, vec (encI (.i64)) 3 1 hd3.v nums1, cells b6 [hd4.v] 48, vec encS 9 1 hd4.v want1, star ((ds1 : List Nat).map mark), cells b19 [.pointer (some ⟨b4, 0, none⟩)] 23, cells b20 [.int .i64 0] 3]
     refine TO.nil (TX.next (cut (TC.seq (TC.region (TO.move rfl dc rfl (TO.nil (TX.next (TC.block ?_))))))))
     obtain ⟨its2, hq8, h⟩ := andE h
     obtain ⟨ek1, hek1, h⟩ := joinE h
     obtain ⟨dn3, hdn3, h⟩ := joinE h
     refine TC.rangeR (α := Int × ByteArray) (β := Int) (γ := Int) (δ := Unit) (ps := [52, 53]) (Rd.nil : Rd _ _ []) Ro.nil rfl en_74 (poem_Poem_Words_1_itr hq8) (fun pre b => ∀ post, its2 = pre ++ post → rangeG dn3 (law17_PoemWords_s3 early1 ek1) post b = some r) (fun pre b => [cells b1 [.int .i64 early1] 3, cells b2 [.bool false] 4, cells b5 [hd3.v] 29, vec (encI (.i64)) 3 1 hd3.v nums1, cells b6 [hd4.v] 48, vec encS 9 1 hd4.v want1, cells b20 [.int .i64 b] 3]) (fun c pre g => (fun g => c = .exit 4 ∧ ek1 g = some r) g) (fun c pre g => (fun g => [cells b1 [.int .i64 early1] 3, cells b2 [.bool false] 4, cells b5 [hd3.v] 29, vec (encI (.i64)) 3 1 hd3.v nums1, cells b6 [hd4.v] 48, vec encS 9 1 hd4.v want1, cells b20 [.int .i64 g] 3]) g) (fun pre x b j => [(3, .pointer (some ⟨b1, 0, none⟩)), (4, .pointer (some ⟨b2, 0, none⟩)), (7, .pointer (some ⟨b5, 0, none⟩)), (8, .pointer (some ⟨b6, 0, none⟩)), (12, .func (.func 74) #[] #[.pointer (some ⟨b19, 0, none⟩)]), (13, .pointer (some ⟨b20, 0, none⟩)), (51, .func (.func 74) #[] #[.pointer (some ⟨b19, 0, none⟩)])]) (fun pre x b j => [cells b1 [.int .i64 early1] 3, cells b2 [.bool false] 4, cells b5 [hd3.v] 29, vec (encI (.i64)) 3 1 hd3.v nums1, cells b6 [hd4.v] 48, vec encS 9 1 hd4.v want1, cells b20 [.int .i64 b] 3]) 0 (fun post e => by rw [List.nil_append] at e; subst e; exact h) (Splits.of [0, 1, 5, 6, 7, 8, 11] kr rfl) (.own (As := [cells b19 [.pointer (some ⟨b4, 0, none⟩)] 23]) (Splits.of [10] (by kernel_rfl) rfl) (fun _ _ h => sepL.one1.1 h) (.own (As := [cells b4 [.string p1, hd1.v, hd2.v, .string p4] 93]) (Splits.of [2] (by kernel_rfl) rfl) (fun _ _ h => sepL.one1.1 h) (.own (As := [vec enc_Gapi_Verse 36 6 hd1.v p2]) (Splits.of [3] (by kernel_rfl) rfl) (fun _ _ h => sepL.one1.1 h) (.own (As := [vec enc_Gapi_Span 34 2 hd2.v p3]) (Splits.of [4] (by kernel_rfl) rfl) (fun _ _ h => sepL.one1.1 h) .nil)))) (fun _ => rfl) dc ?_ ?_ ?_ ?_
     ·
      rintro lp rc pre x3 post i4 w1 K1 hxs3 hext hro hinv
      refine TC.skip ?_
      exact fun a w ha hw => ⟨(), (Sbs.cons rfl (Sbs.cons rfl (Sbs.cons rfl (Sbs.cons rfl (Sbs.cons rfl (Sbs.cons rfl (Sbs.cons rfl (Sbs.nil)))))))) _ _ _ ha, hw.weaken (Splits.of [0, 1, 2, 3, 4, 5, 6] kr rfl)⟩
     ·
      rintro lp rc pre x3 post3 i4 _ w1 K1 hxs3 hext hro hinv
      have h := hinv (x3 :: post3) hxs3
      obtain ⟨ag3, hag3⟩ : ∃ ag, ag = rangeG dn3 (law17_PoemWords_s3 early1 ek1) post3 := ⟨_, rfl⟩
      have h : law17_PoemWords_s3 early1 ek1 x3 ag3 i4 = some r := by rw [hag3]; exact h
      unfold law17_PoemWords_s3 at h
      show TC _ _ _ _ _ _ _ _ [(3, .pointer (some ⟨b1, 0, none⟩)), (4, .pointer (some ⟨b2, 0, none⟩)), (7, .pointer (some ⟨b5, 0, none⟩)), (8, .pointer (some ⟨b6, 0, none⟩)), (12, .func (.func 74) #[] #[.pointer (some ⟨b19, 0, none⟩)]), (13, .pointer (some ⟨b20, 0, none⟩)), (51, .func (.func 74) #[] #[.pointer (some ⟨b19, 0, none⟩)])] [cells b1 [.int .i64 early1] 3, cells b2 [.bool false] 4, cells b5 [hd3.v] 29, vec (encI (.i64)) 3 1 hd3.v nums1, cells b6 [hd4.v] 48, vec encS 9 1 hd4.v want1, cells b20 [.int .i64 i4] 3]
      refine TC.block (TC.seq (TC.seq (TC.region (TO.load (k := 6) sc_3 rfl dc rfl rfl rfl (TO.load (k := 0) sc_3 rfl dc rfl rfl rfl (TO.bin rfl dc rfl rfl bin_eql (TO.nil (TX.next ?_))))))))
      refine TC.condB rfl (fun hb3 => ?_) (fun hb3 => ?_)
      ·
       have h := condT hb3 h
       refine TC.exit (TX.thenExit (TX.blockOn dc ?_))
       exact TX.roundExit i4 (show _ ∧ _ from ⟨rfl, h⟩) (Splits.of [0, 1, 2, 3, 4, 5, 6] kr rfl)
      ·
       have h := condF hb3 h
       refine TC.skip (TX.next (TC.region (TO.load (k := 6) sc_3 rfl dc rfl rfl rfl ?_)))
       obtain ⟨hg5, h⟩ := grdE h
       refine TO.bin rfl dc rfl rfl (bin_add (r := i4 + 1) (IntWalk.i64_in _ hg5)) ?_
       refine TO.store (k := 6) (l' := [.int .i64 (i4 + 1)]) sz_3 rfl rfl rfl rfl rfl (fun _ _ => rfl) rfl ?_
       refine TO.nil (TX.blockNormal ?_)
       exact TX.round (i4 + 1) (fun post2 e2 => by have e9 := snoc_post hxs3 e2; subst e9; subst hag3; exact h) (Splits.of [0, 1, 2, 3, 4, 5, 6] kr rfl)
     ·
      rintro dm3 i4 hinv
      have h : dn3 i4 = some r := hinv [] (List.append_nil _).symm
      rw [hdn3] at h
      show TX _ _ _ _ _ _ _ [emp, emp, cells b4 [.string p1, hd1.v, hd2.v, .string p4] 93, vec enc_Gapi_Verse 36 6 hd1.v p2, vec enc_Gapi_Span 34 2 hd2.v p3, emp, emp, emp, emp, star ((ds1 : List Nat).map mark), cells b19 [.pointer (some ⟨b4, 0, none⟩)] 23, emp, cells b1 [.int .i64 early1] 3, cells b2 [.bool false] 4, cells b5 [hd3.v] 29, vec (encI (.i64)) 3 1 hd3.v nums1, cells b6 [hd4.v] 48, vec encS 9 1 hd4.v want1, cells b20 [.int .i64 i4] 3, mark dm3]
      refine TX.starCons (k := 19) (j := 9) rfl rfl dc ?_
      show TX _ _ _ _ _ _ _ [emp, emp, cells b4 [.string p1, hd1.v, hd2.v, .string p4] 93, vec enc_Gapi_Verse 36 6 hd1.v p2, vec enc_Gapi_Span 34 2 hd2.v p3, emp, emp, emp, emp, star ((dm3 :: ds1 : List Nat).map mark), cells b19 [.pointer (some ⟨b4, 0, none⟩)] 23, emp, cells b1 [.int .i64 early1] 3, cells b2 [.bool false] 4, cells b5 [hd3.v] 29, vec (encI (.i64)) 3 1 hd3.v nums1, cells b6 [hd4.v] 48, vec encS 9 1 hd4.v want1, cells b20 [.int .i64 i4] 3, emp]
      refine TX.blockNormal ?_
      exact TX.meetD (i4, b19, b20, dm3 :: ds1) h rfl (Sbs.cons rfl (Sbs.cons rfl (Sbs.cons rfl (Sbs.cons rfl (Sbs.cons rfl (Sbs.nil)))))) (Splits.of [13, 14, 15, 16, 17, 10, 2, 3, 4, 18, 9] kr rfl)
     ·
      rintro dm3 c pre x3 post g hxs hX
      obtain ⟨rfl, h⟩ := (show _ ∧ _ from hX)
      generalize g = i5 at *
      rw [hek1] at h
      show TC _ _ _ _ _ _ _ _ _ [emp, emp, cells b4 [.string p1, hd1.v, hd2.v, .string p4] 93, vec enc_Gapi_Verse 36 6 hd1.v p2, vec enc_Gapi_Span 34 2 hd2.v p3, emp, emp, emp, emp, star ((ds1 : List Nat).map mark), cells b19 [.pointer (some ⟨b4, 0, none⟩)] 23, emp, cells b1 [.int .i64 early1] 3, cells b2 [.bool false] 4, cells b5 [hd3.v] 29, vec (encI (.i64)) 3 1 hd3.v nums1, cells b6 [hd4.v] 48, vec encS 9 1 hd4.v want1, cells b20 [.int .i64 i5] 3, mark dm3]
      refine TC.starCons (k := 19) (j := 9) rfl rfl dc ?_
      show TC _ _ _ _ _ _ _ _ _ [emp, emp, cells b4 [.string p1, hd1.v, hd2.v, .string p4] 93, vec enc_Gapi_Verse 36 6 hd1.v p2, vec enc_Gapi_Span 34 2 hd2.v p3, emp, emp, emp, emp, star ((dm3 :: ds1 : List Nat).map mark), cells b19 [.pointer (some ⟨b4, 0, none⟩)] 23, emp, cells b1 [.int .i64 early1] 3, cells b2 [.bool false] 4, cells b5 [hd3.v] 29, vec (encI (.i64)) 3 1 hd3.v nums1, cells b6 [hd4.v] 48, vec encS 9 1 hd4.v want1, cells b20 [.int .i64 i5] 3, emp]
      refine TC.exit (TX.blockHere ?_)
      exact TX.meetD (i5, b19, b20, dm3 :: ds1) h rfl (Sbs.cons rfl (Sbs.cons rfl (Sbs.cons rfl (Sbs.cons rfl (Sbs.cons rfl (Sbs.nil)))))) (Splits.of [13, 14, 15, 16, 17, 10, 2, 3, 4, 18, 9] kr rfl)
    ·
     rintro ⟨i1, b17, b18, ds2⟩ h
     rw [hj2] at h
     show TC _ _ _ _ _ (marksOf ds2) _ _ [(4, .pointer (some ⟨b2, 0, none⟩)), (7, .pointer (some ⟨b5, 0, none⟩)), (8, .pointer (some ⟨b6, 0, none⟩)), (12, .func (.func 74) #[] #[.pointer (some ⟨b17, 0, none⟩)]), (13, .pointer (some ⟨b18, 0, none⟩))] [cells b2 [.bool false] 4, cells b5 [hd3.v] 29, vec (encI (.i64)) 3 1 hd3.v nums1, cells b6 [hd4.v] 48, vec encS 9 1 hd4.v want1, cells b17 [.pointer (some ⟨b4, 0, none⟩)] 23, cells b4 [.string p1, hd1.v, hd2.v, .string p4] 93, vec enc_Gapi_Verse 36 6 hd1.v p2, vec enc_Gapi_Span 34 2 hd2.v p3, cells b18 [.int .i64 i1] 3, star ((ds2 : List Nat).map mark)]
     obtain ⟨j3, hj3, h⟩ := joinE h
     refine TC.cutN (β := Int × (List Nat)) 1 rfl (fun b => j3 b.1 = some r) (fun b => marksOf b.2) (fun b => [(4, .pointer (some ⟨b2, 0, none⟩)), (8, .pointer (some ⟨b6, 0, none⟩)), (13, .pointer (some ⟨b18, 0, none⟩))]) (fun b => [cells b2 [.bool false] 4, cells b6 [hd4.v] 48, vec encS 9 1 hd4.v want1, cells b18 [.int .i64 b.1] 3, star ((b.2 : List Nat).map mark)]) (fun cut => ?_) ?_
     ·
      refine TC.seq (TC.region ?_)
      refine TO.store (k := 9) (l' := [.int .i64 0]) sz_3 rfl rfl rfl rfl rfl (fun _ _ => rfl) rfl ?_
      refine TO.nil (TX.next (cut (TC.seq (TC.region (TO.move rfl dc rfl (TO.nil (TX.next (TC.block ?_))))))))
      obtain ⟨its3, hq9, h⟩ := andE h
      obtain ⟨ek2, hek2, h⟩ := joinE h
      obtain ⟨dn4, hdn4, h⟩ := joinE h
      refine TC.rangeR (α := Int × ByteArray) (β := Int) (γ := Int) (δ := Unit) (ps := [60, 61]) (Rd.nil : Rd _ _ []) Ro.nil rfl en_74 (poem_Poem_Words_1_itr hq9) (fun pre b => ∀ post, its3 = pre ++ post → rangeG dn4 (law17_PoemWords_s4 nums1 want1 ek2) post b = some r) (fun pre b => [cells b2 [.bool false] 4, cells b5 [hd3.v] 29, vec (encI (.i64)) 3 1 hd3.v nums1, cells b6 [hd4.v] 48, vec encS 9 1 hd4.v want1, cells b18 [.int .i64 b] 3]) (fun c pre g => (fun g => c = .ret ∧ ek2 g = some r) g) (fun c pre g => (fun g => [cells b2 [.bool false] 4, cells b5 [hd3.v] 29, vec (encI (.i64)) 3 1 hd3.v nums1, cells b6 [hd4.v] 48, vec encS 9 1 hd4.v want1, cells b18 [.int .i64 g] 3]) g) (fun pre x b j => [(4, .pointer (some ⟨b2, 0, none⟩)), (7, .pointer (some ⟨b5, 0, none⟩)), (8, .pointer (some ⟨b6, 0, none⟩)), (13, .pointer (some ⟨b18, 0, none⟩)), (59, .func (.func 74) #[] #[.pointer (some ⟨b17, 0, none⟩)]), (14, .int .i64 x.1), (15, .string x.2)]) (fun pre x b j => [cells b2 [.bool false] 4, cells b5 [hd3.v] 29, vec (encI (.i64)) 3 1 hd3.v nums1, cells b6 [hd4.v] 48, vec encS 9 1 hd4.v want1, cells b18 [.int .i64 b] 3]) 0 (fun post e => by rw [List.nil_append] at e; subst e; exact h) (Splits.of [0, 1, 2, 3, 4, 9] kr rfl) (.own (As := [cells b17 [.pointer (some ⟨b4, 0, none⟩)] 23]) (Splits.of [5] (by kernel_rfl) rfl) (fun _ _ h => sepL.one1.1 h) (.own (As := [cells b4 [.string p1, hd1.v, hd2.v, .string p4] 93]) (Splits.of [6] (by kernel_rfl) rfl) (fun _ _ h => sepL.one1.1 h) (.own (As := [vec enc_Gapi_Verse 36 6 hd1.v p2]) (Splits.of [7] (by kernel_rfl) rfl) (fun _ _ h => sepL.one1.1 h) (.own (As := [vec enc_Gapi_Span 34 2 hd2.v p3]) (Splits.of [8] (by kernel_rfl) rfl) (fun _ _ h => sepL.one1.1 h) .nil)))) (fun _ => rfl) dc ?_ ?_ ?_ ?_
      ·
       rintro lp rc pre x4 post i9 w1 K1 hxs4 hext hro hinv
       refine TC.seq (TC.region (TO.assign rfl dc rfl (TO.nil (TX.next (TC.region (TO.assign rfl dc rfl (TO.nil ?_)))))))
       exact fun a w ha hw => ⟨(), (Sbs.cons rfl (Sbs.cons rfl (Sbs.cons rfl (Sbs.cons rfl (Sbs.cons rfl (Sbs.cons rfl (Sbs.cons rfl (Sbs.nil)))))))) _ _ _ ha, hw.weaken (Splits.of [0, 1, 2, 3, 4, 5] kr rfl)⟩
      ·
       rintro lp rc pre x4 post4 i9 _ w1 K1 hxs4 hext hro hinv
       have h := hinv (x4 :: post4) hxs4
       obtain ⟨ag4, hag4⟩ : ∃ ag, ag = rangeG dn4 (law17_PoemWords_s4 nums1 want1 ek2) post4 := ⟨_, rfl⟩
       have h : law17_PoemWords_s4 nums1 want1 ek2 x4 ag4 i9 = some r := by rw [hag4]; exact h
       unfold law17_PoemWords_s4 at h
       show TC _ _ _ _ _ _ _ _ [(4, .pointer (some ⟨b2, 0, none⟩)), (7, .pointer (some ⟨b5, 0, none⟩)), (8, .pointer (some ⟨b6, 0, none⟩)), (13, .pointer (some ⟨b18, 0, none⟩)), (59, .func (.func 74) #[] #[.pointer (some ⟨b17, 0, none⟩)]), (14, .int .i64 x4.1), (15, .string x4.2)] [cells b2 [.bool false] 4, cells b5 [hd3.v] 29, vec (encI (.i64)) 3 1 hd3.v nums1, cells b6 [hd4.v] 48, vec encS 9 1 hd4.v want1, cells b18 [.int .i64 i9] 3]
       refine TC.block (TC.seq (TC.seq (TC.region (TO.load (k := 5) sc_3 rfl dc rfl rfl rfl (TO.load (k := 3) sc_48 rfl dc rfl rfl rfl (TO.lenVec (k := 4) rfl dc rfl rfl Tryd.underlying48 (TO.bin rfl dc rfl rfl bin_geq (TO.move rfl dc rfl ?_))))))))
       refine TO.split (s := 66) rfl (fun hb4 => ?_) (fun hb4 => ?_)
       ·
        have h := condT hb4 h
        refine TO.skip rfl dc (TO.skip rfl dc (TO.skip rfl dc (TO.skip rfl dc (TO.skip rfl dc (TO.skip rfl dc (TO.pick (b := true) rfl dc rfl rfl (TO.move rfl dc rfl (TO.skip rfl dc (TO.skip rfl dc (TO.skip rfl dc (TO.skip rfl dc (TO.skip rfl dc (TO.skip rfl dc ?_)))))))))))))
        refine TO.pick (b := true) rfl dc rfl rfl (TO.nil (TX.next (TC.condT rfl (TC.seq (TC.region ?_)))))
        refine TO.store (k := 0) (l' := [.bool false]) sz_4 rfl rfl rfl rfl rfl (fun _ _ => rfl) rfl ?_
        refine TO.nil (TX.next (TC.ret (TX.thenRet (TX.blockRet ?_))))
        exact TX.roundRet i9 (show _ ∧ _ from ⟨rfl, h⟩) (Splits.of [0, 1, 2, 3, 4, 5] kr rfl)
       ·
        have h := condF hb4 h
        refine TO.move rfl dc rfl (TO.load (k := 1) sc_29 rfl dc rfl rfl rfl (TO.load (k := 5) sc_3 rfl dc rfl rfl rfl ?_))
        obtain ⟨q1, hq10, h⟩ := andE h
        refine TO.indexVecI (k := 2) hq10 Tryd.underlying29 sz_3 rfl dc rfl rfl rfl rfl (TO.loadVec (i := (i9 : Int).toNat) (j := 0) (k := 2) (q := q1) sc_3 encI_len rfl dc rfl rfl (getO_get hq10) rfl dc rfl (TO.bin rfl dc rfl rfl bin_neq (TO.pick (b := false) rfl dc rfl rfl (TO.move rfl dc rfl ?_))))
        refine TO.split (s := 74) rfl (fun hb5 => ?_) (fun hb5 => ?_)
        ·
         have h := condT hb5 h
         refine TO.skip rfl dc (TO.skip rfl dc (TO.skip rfl dc (TO.skip rfl dc (TO.skip rfl dc (TO.skip rfl dc (TO.pick (b := true) rfl dc rfl rfl (TO.nil (TX.next (TC.condT rfl (TC.seq (TC.region ?_)))))))))))
         refine TO.store (k := 0) (l' := [.bool false]) sz_4 rfl rfl rfl rfl rfl (fun _ _ => rfl) rfl ?_
         refine TO.nil (TX.next (TC.ret (TX.thenRet (TX.blockRet ?_))))
         exact TX.roundRet i9 (show _ ∧ _ from ⟨rfl, h⟩) (Splits.of [0, 1, 2, 3, 4, 5] kr rfl)
        ·
         have h := condF hb5 h
         refine TO.move rfl dc rfl (TO.load (k := 3) sc_48 rfl dc rfl rfl rfl (TO.load (k := 5) sc_3 rfl dc rfl rfl rfl ?_))
         obtain ⟨q2, hq11, h⟩ := andE h
         refine TO.indexVecI (k := 4) hq11 Tryd.underlying48 sz_9 rfl dc rfl rfl rfl rfl (TO.loadVec (i := (i9 : Int).toNat) (j := 0) (k := 4) (q := q2) sc_9 encS_len rfl dc rfl rfl (getO_get hq11) rfl dc rfl (TO.bin rfl dc rfl rfl bin_sneq (TO.pick (b := false) rfl dc rfl rfl (TO.nil (TX.next ?_)))))
         refine TC.condB rfl (fun hb6 => ?_) (fun hb6 => ?_)
         ·
          have h := condT hb6 h
          refine TC.seq (TC.region ?_)
          refine TO.store (k := 0) (l' := [.bool false]) sz_4 rfl rfl rfl rfl rfl (fun _ _ => rfl) rfl ?_
          refine TO.nil (TX.next (TC.ret (TX.thenRet (TX.blockRet ?_))))
          exact TX.roundRet i9 (show _ ∧ _ from ⟨rfl, h⟩) (Splits.of [0, 1, 2, 3, 4, 5] kr rfl)
         ·
          have h := condF hb6 h
          refine TC.skip (TX.next (TC.region (TO.load (k := 5) sc_3 rfl dc rfl rfl rfl ?_)))
          obtain ⟨hg6, h⟩ := grdE h
          refine TO.bin rfl dc rfl rfl (bin_add (r := i9 + 1) (IntWalk.i64_in _ hg6)) ?_
          refine TO.store (k := 5) (l' := [.int .i64 (i9 + 1)]) sz_3 rfl rfl rfl rfl rfl (fun _ _ => rfl) rfl ?_
          refine TO.nil (TX.blockNormal ?_)
          exact TX.round (i9 + 1) (fun post2 e2 => by have e9 := snoc_post hxs4 e2; subst e9; subst hag4; exact h) (Splits.of [0, 1, 2, 3, 4, 5] kr rfl)
      ·
       rintro dm4 i9 hinv
       have h : dn4 i9 = some r := hinv [] (List.append_nil _).symm
       rw [hdn4] at h
       show TX _ _ _ _ _ _ _ [emp, emp, emp, emp, emp, cells b17 [.pointer (some ⟨b4, 0, none⟩)] 23, cells b4 [.string p1, hd1.v, hd2.v, .string p4] 93, vec enc_Gapi_Verse 36 6 hd1.v p2, vec enc_Gapi_Span 34 2 hd2.v p3, emp, star ((ds2 : List Nat).map mark), cells b2 [.bool false] 4, cells b5 [hd3.v] 29, vec (encI (.i64)) 3 1 hd3.v nums1, cells b6 [hd4.v] 48, vec encS 9 1 hd4.v want1, cells b18 [.int .i64 i9] 3, mark dm4]
       refine TX.starCons (k := 17) (j := 10) rfl rfl dc ?_
       show TX _ _ _ _ _ _ _ [emp, emp, emp, emp, emp, cells b17 [.pointer (some ⟨b4, 0, none⟩)] 23, cells b4 [.string p1, hd1.v, hd2.v, .string p4] 93, vec enc_Gapi_Verse 36 6 hd1.v p2, vec enc_Gapi_Span 34 2 hd2.v p3, emp, star ((dm4 :: ds2 : List Nat).map mark), cells b2 [.bool false] 4, cells b5 [hd3.v] 29, vec (encI (.i64)) 3 1 hd3.v nums1, cells b6 [hd4.v] 48, vec encS 9 1 hd4.v want1, cells b18 [.int .i64 i9] 3, emp]
       refine TX.blockNormal ?_
       exact TX.meetD (i9, dm4 :: ds2) h rfl (Sbs.cons rfl (Sbs.cons rfl (Sbs.cons rfl (Sbs.nil)))) (Splits.of [11, 14, 15, 16, 10] kr rfl)
      ·
       rintro dm4 c pre x4 post g hxs hX
       obtain ⟨rfl, h⟩ := (show _ ∧ _ from hX)
       generalize g = i10 at *
       rw [hek2] at h
       show TC _ _ _ _ _ _ _ _ _ [emp, emp, emp, emp, emp, cells b17 [.pointer (some ⟨b4, 0, none⟩)] 23, cells b4 [.string p1, hd1.v, hd2.v, .string p4] 93, vec enc_Gapi_Verse 36 6 hd1.v p2, vec enc_Gapi_Span 34 2 hd2.v p3, emp, star ((ds2 : List Nat).map mark), cells b2 [.bool false] 4, cells b5 [hd3.v] 29, vec (encI (.i64)) 3 1 hd3.v nums1, cells b6 [hd4.v] 48, vec encS 9 1 hd4.v want1, cells b18 [.int .i64 i10] 3, mark dm4]
       refine TC.starCons (k := 17) (j := 10) rfl rfl dc ?_
       show TC _ _ _ _ _ _ _ _ _ [emp, emp, emp, emp, emp, cells b17 [.pointer (some ⟨b4, 0, none⟩)] 23, cells b4 [.string p1, hd1.v, hd2.v, .string p4] 93, vec enc_Gapi_Verse 36 6 hd1.v p2, vec enc_Gapi_Span 34 2 hd2.v p3, emp, star ((dm4 :: ds2 : List Nat).map mark), cells b2 [.bool false] 4, cells b5 [hd3.v] 29, vec (encI (.i64)) 3 1 hd3.v nums1, cells b6 [hd4.v] 48, vec encS 9 1 hd4.v want1, cells b18 [.int .i64 i10] 3, emp]
       refine TC.ret (TX.blockRet (TX.thenRet ?_))
       cases h
       exact TX.finM (rs := [.cell 4 4]) (dm4 :: ds2) () (.inl rfl) (Splits.open0 (k := 10) rfl) Tryd.results10 (.cons (.cell sc_4 (k := 11) rfl rfl) .nil) rfl Splits.nil
     ·
      rintro ⟨i6, ds3⟩ h
      rw [hj3] at h
      show TC _ _ _ _ _ (marksOf ds3) _ _ [(4, .pointer (some ⟨b2, 0, none⟩)), (8, .pointer (some ⟨b6, 0, none⟩)), (13, .pointer (some ⟨b18, 0, none⟩))] [cells b2 [.bool false] 4, cells b6 [hd4.v] 48, vec encS 9 1 hd4.v want1, cells b18 [.int .i64 i6] 3, star ((ds3 : List Nat).map mark)]
      refine TC.seq (TC.region (TO.load (k := 3) sc_3 rfl dc rfl rfl rfl (TO.load (k := 1) sc_48 rfl dc rfl rfl rfl (TO.lenVec (k := 2) rfl dc rfl rfl Tryd.underlying48 (TO.bin rfl dc rfl rfl bin_eql (TO.move rfl dc rfl ?_))))))
      refine TO.split (s := 88) rfl (fun hb7 => ?_) (fun hb7 => ?_)
      ·
       have h := condT hb7 h
       obtain ⟨r6, hq12, h⟩ := andE h
       refine TO.callP (v := .bool r6) (vs := []) rfl dc rfl rfl rfl en_12 (law17_works_fn hq12) (TO.pick (b := true) rfl dc rfl rfl ?_)
       refine TO.store (k := 0) (l' := [.bool r6]) sz_4 rfl rfl rfl rfl rfl (fun _ _ => rfl) rfl ?_
       refine TO.nil (TX.next (TC.ret ?_))
       cases h
       exact TX.finM (rs := [.cell 4 4]) ds3 () (.inl rfl) (Splits.open0 (k := 4) rfl) Tryd.results10 (.cons (.cell sc_4 (k := 0) rfl rfl) .nil) rfl Splits.nil
      ·
       have h := condF hb7 h
       refine TO.skip rfl dc (TO.pick (b := false) rfl dc rfl rfl ?_)
       refine TO.store (k := 0) (l' := [.bool false]) sz_4 rfl rfl rfl rfl rfl (fun _ _ => rfl) rfl ?_
       refine TO.nil (TX.next (TC.ret ?_))
       cases h
       exact TX.finM (rs := [.cell 4 4]) ds3 () (.inl rfl) (Splits.open0 (k := 4) rfl) Tryd.results10 (.cons (.cell sc_4 (k := 0) rfl rfl) .nil) rfl Splits.nil
end Go.Proofs.YtgfkogafkhbgnaaDoor
namespace Go.Proofs.YtgfkogafkhbgnaaDoor
open Go.RowKit Go.Lib
set_option linter.unusedVariables false
set_option linter.unusedSimpArgs false
def wdE (x : Int × Gapi_Verse) (w : Nat × Nat) : Int × ByteArray := (x.1, cutB x.2.Text (w.1 : Int) (w.2 : Int))
def wordsE (its : List (Int × Gapi_Verse)) : List (Int × ByteArray) := its.flatMap fun x => (wsOf x.2.Text).map (wdE x)
theorem in_words (x : Int × Gapi_Verse) (R : List (Int × ByteArray)) : ∀ ws : List (Nat × Nat), (∀ w ∈ ws, w.1 ≤ w.2 ∧ w.2 ≤ x.2.Text.size) → rangeG (some R) (poem_Poem_Words_1_s2 x) ws = some (ws.map (wdE x) ++ R)
  | [], h => rfl
  | w :: ws, h => by
    have hw := h w (by simp)
    rw [rangeG_cons, in_words x R ws (fun y hy => h y (by simp [hy]))]
    unfold poem_Poem_Words_1_s2
    exact grdI ⟨by omega, by omega, by omega⟩ rfl
theorem out_words : ∀ its : List (Int × Gapi_Verse), (∀ x ∈ its, x.2.Text.size ≤ 1024) → rangeG (some []) poem_Poem_Words_1_s1 its = some (wordsE its)
  | [], h => rfl
  | x :: its, h => by
    have hx := h x (by simp)
    rw [rangeG_cons, out_words its (fun y hy => h y (by simp [hy]))]
    unfold poem_Poem_Words_1_s1
    refine grdI (by omega) (joinI ?_)
    rw [in_words x _ _ (wsOf_ok x.2.Text)]
    rfl
theorem enumV_mem : ∀ (vs : List Gapi_Verse) (i : Nat), ∀ x ∈ enumV i vs, x.2 ∈ vs
  | [], i, x, h => by cases h
  | v :: vs, i, x, h => by
    rcases List.mem_cons.1 (show x ∈ ((i : Int), v) :: enumV (i + 1) vs from h) with rfl | h
    · simp
    · exact List.mem_cons_of_mem _ (enumV_mem vs (i + 1) x h)
theorem enumV_len : ∀ (vs : List Gapi_Verse) (i : Nat), (enumV i vs).length = vs.length
  | [], i => rfl
  | v :: vs, i => by show (enumV (i + 1) vs).length + 1 = _; rw [enumV_len vs]; rfl
theorem OkP.text {p : Gpoem_Poem} {t : List UInt8} {z : List Row} (h : OkP p t z) : ∀ v ∈ p.told_lines, v.Text.size ≤ 1024 := by
  intro v hv
  have hm : keyV v ∈ (flatZ 0 z).map keyL := by rw [← h.vok]; exact List.mem_map_of_mem hv
  obtain ⟨q, hq, he⟩ := List.mem_map.1 hm
  obtain ⟨r, h1, h2⟩ := mem_flatZ z 0 q hq
  have hl := (h.ln r h1 _ h2).le
  have ht : v.Text = mkB (q.2.2.drop (ind q.2.2)) := congrArg (fun k => k.1) he.symm
  rw [ht, mkB_size, List.length_drop]; omega
theorem words_1_v {p : Gpoem_Poem} {t : List UInt8} {z : List Row} (h : OkP p t z) : poem_Poem_Words_1_v p = some (wordsE (enumV 0 p.told_lines)) := by
  unfold poem_Poem_Words_1_v
  have hm := h.most
  refine thenI rfl (thenI (each_v p (by rw [h.len]; omega)) (joinI ?_))
  exact out_words _ (fun x hx => h.text _ (enumV_mem _ _ x hx))
theorem wordsE_len : ∀ its : List (Int × Gapi_Verse), (∀ x ∈ its, x.2.Text.size ≤ 1024) → (wordsE its).length ≤ its.length * 1024
  | [], h => Nat.le_refl _
  | x :: its, h => by
    have hx := h x (by simp)
    have h1 := wordsE_len its (fun y hy => h y (by simp [hy]))
    have h2 := wsOf_len x.2.Text
    show ((wsOf x.2.Text).map (wdE x) ++ wordsE its).length ≤ _
    rw [List.length_append, List.length_map, List.length_cons]; omega
theorem in_want (x : Int × Gapi_Verse) (d : List Int → List ByteArray → Option Bool) : ∀ (ws : List (Nat × Nat)) (a : List Int) (b : List ByteArray), (∀ w ∈ ws, w.1 ≤ w.2 ∧ w.2 ≤ x.2.Text.size) → a.length + ws.length ≤ 1000000 → b.length = a.length →
    rangeG d (law17_PoemWords_s2 x) ws a b = d (a ++ (ws.map (wdE x)).map (fun q => q.1)) (b ++ (ws.map (wdE x)).map (fun q => q.2))
  | [], a, b, h, hl, hb => by
    show d a b = d (a ++ []) (b ++ [])
    rw [List.append_nil, List.append_nil]
  | w :: ws, a, b, h, hl, hb => by
    have hw := h w (by simp)
    rw [List.length_cons] at hl
    rw [rangeG_cons]
    have ih := fun a b => in_want x d ws a b (fun y hy => h y (by simp [hy]))
    obtain ⟨ag, hag⟩ : ∃ ag, ag = rangeG d (law17_PoemWords_s2 x) ws := ⟨_, rfl⟩
    rw [← hag] at ih ⊢
    unfold law17_PoemWords_s2
    refine grdI (by omega) (grdI ⟨by omega, by omega, by omega⟩ (grdI (by omega) ?_))
    rw [ih _ _ (by rw [List.length_append, List.length_singleton]; omega) (by rw [List.length_append, List.length_append, List.length_singleton, List.length_singleton]; omega), List.append_assoc, List.append_assoc]
    rfl
theorem out_want (d : List Int → List ByteArray → Option Bool) : ∀ (its : List (Int × Gapi_Verse)) (a : List Int) (b : List ByteArray), (∀ x ∈ its, x.2.Text.size ≤ 1024) → a.length + its.length * 1024 ≤ 1000000 → b.length = a.length →
    rangeG d law17_PoemWords_s1 its a b = d (a ++ (wordsE its).map (fun q => q.1)) (b ++ (wordsE its).map (fun q => q.2))
  | [], a, b, h, hl, hb => by
    show d a b = d (a ++ []) (b ++ [])
    rw [List.append_nil, List.append_nil]
  | x :: its, a, b, h, hl, hb => by
    have hx := h x (by simp)
    have h2 := wsOf_len x.2.Text
    rw [List.length_cons] at hl
    rw [rangeG_cons]
    have ih := fun a b => out_want d its a b (fun y hy => h y (by simp [hy]))
    obtain ⟨ag, hag⟩ : ∃ ag, ag = rangeG d law17_PoemWords_s1 its := ⟨_, rfl⟩
    rw [← hag] at ih ⊢
    unfold law17_PoemWords_s1
    refine grdI (by omega) (joinI ?_)
    rw [in_want x _ _ a b (wsOf_ok x.2.Text) (by omega) hb, ih _ _ (by rw [List.length_append, List.length_map, List.length_map]; omega) (by rw [List.length_append, List.length_append, List.length_map, List.length_map, List.length_map, List.length_map]; omega)]
    have e : wordsE (x :: its) = (wsOf x.2.Text).map (wdE x) ++ wordsE its := rfl
    rw [e, List.map_append, List.map_append, List.append_assoc, List.append_assoc]
theorem early_any (e : Int) (ek d : Int → Option Bool) (R : Option Bool) (hk : ∀ i, ek i = R) (hd : ∀ i, d i = R) : ∀ (its : List (Int × ByteArray)) (i : Nat), i + its.length ≤ 1000000 → rangeG d (law17_PoemWords_s3 e ek) its (i : Int) = R
  | [], i, h => hd _
  | x :: its, i, h => by
    rw [List.length_cons] at h
    rw [rangeG_cons]
    have ih := early_any e ek d R hk hd its (i + 1) (by omega)
    obtain ⟨ag, hag⟩ : ∃ ag, ag = rangeG d (law17_PoemWords_s3 e ek) its := ⟨_, rfl⟩
    rw [← hag] at ih ⊢
    unfold law17_PoemWords_s3
    by_cases he : (i : Int) = e
    · exact condTI (beq_iff_eq.2 he) (hk _)
    · refine condFI (beq_eq_false_iff_ne.2 he) (grdI ⟨by omega, by omega⟩ ?_)
      rw [show (i : Int) + 1 = ((i + 1 : Nat) : Int) by omega]
      exact ih
theorem again (L : List (Int × ByteArray)) (hL : L.length ≤ 1000000) (ek d : Int → Option Bool) : ∀ (n i : Nat), i + n = L.length → rangeG d (law17_PoemWords_s4 (L.map fun q => q.1) (L.map fun q => q.2) ek) (L.drop i) (i : Int) = d (L.length : Int)
  | 0, i, h => by
    rw [List.drop_eq_nil_of_le (by omega)]
    show d (i : Int) = _
    rw [show i = L.length by omega]
  | n + 1, i, h => by
    have hl : i < L.length := by omega
    rw [List.drop_eq_getElem_cons hl, rangeG_cons]
    have ih := again L hL ek d n (i + 1) (by omega)
    obtain ⟨ag, hag⟩ : ∃ ag, ag = rangeG d (law17_PoemWords_s4 (L.map fun q => q.1) (L.map fun q => q.2) ek) (L.drop (i + 1)) := ⟨_, rfl⟩
    rw [← hag] at ih ⊢
    unfold law17_PoemWords_s4
    have g1 : getO (L.map fun q => q.1) (i : Int) = some L[i].1 := getO_nat (by rw [List.getElem?_map, List.getElem?_eq_getElem hl]; rfl)
    have g2 : getO (L.map fun q => q.2) (i : Int) = some L[i].2 := getO_nat (by rw [List.getElem?_map, List.getElem?_eq_getElem hl]; rfl)
    refine condFI (decide_eq_false (by rw [List.length_map]; omega)) (thenI g1 (condFI (bne_self_eq_false _) (thenI g2 (condFI (by simp) (grdI ⟨by omega, by omega⟩ ?_)))))
    rw [show (i : Int) + 1 = ((i + 1 : Nat) : Int) by omega]
    exact ih
theorem poemWords_v (S : List UInt8) (early : Int) : law17_PoemWords_v (mkB S) early = some true := by
  unfold law17_PoemWords_v
  refine thenI works_v (condFI rfl ?_)
  rcases rd_cases S with ⟨e, he, h⟩ | ⟨p, t, z, hp, h⟩
  · exact thenI h (condTI he (thenI works_v rfl))
  have hm := hp.most
  have hl := hp.len
  have ht : ∀ x ∈ enumV 0 p.told_lines, x.2.Text.size ≤ 1024 := fun x hx => hp.text _ (enumV_mem _ _ x hx)
  have hel := enumV_len p.told_lines 0
  have hwl := wordsE_len _ ht
  refine thenI h (condFI rfl (joinI (thenI rfl (thenI rfl (thenI (each_v p (by omega)) (joinI ?_))))))
  refine (out_want _ (enumV 0 p.told_lines) [] [] ht (by show 0 + _ ≤ _; omega) rfl).trans ?_
  rw [List.nil_append, List.nil_append]
  have hw : poem_Poem_Words_1_v (⟨p.told_title, p.told_lines, p.told_stanzas, p.source⟩ : Gpoem_Poem) = some (wordsE (enumV 0 p.told_lines)) := words_1_v hp
  refine joinI (thenI rfl (thenI hw (joinI (joinI ?_))))
  refine early_any early _ _ (some true) (fun i => ?_) (fun i => ?_) _ 0 (by omega)
  all_goals
    refine joinI (thenI hw (joinI (joinI ?_)))
    have := again (wordsE (enumV 0 p.told_lines)) (by omega) (fun (i10 : Int) => some false) (fun (i9 : Int) => bcond ((i9 : Int) == (((wordsE (enumV 0 p.told_lines)).map fun q => q.2).length : Int)) (andThen (law17_works_v) fun (r6 : Bool) => some r6) (some false)) (wordsE (enumV 0 p.told_lines)).length 0 (Nat.zero_add _)
    rw [List.drop_zero] at this
    refine this.trans ?_
    exact condTI (by rw [List.length_map]; exact beq_self_eq_true _) (thenI works_v rfl)
theorem poemWords_any (s : ByteArray) (k : Int) (w : World) (h1 : s.size ≤ 140737488351232) (h2 : -9223372036854775808 ≤ k) (h3 : k ≤ 9223372036854775807) : Calls Tryd.prog 10 #[.string s, .int .i64 k] w fun e w' => e = .returned (.bool true) ∧ Below w.heap.size w w' :=
  law17_PoemWords_fn (poemWords_v s.data.toList k) w
end Go.Proofs.YtgfkogafkhbgnaaDoor
