/-
  Texts laid together: LfU, Qe, LfW2, LfS, Qf, Qg, Qh, LfL. Nothing is assumed.
-/
import Derived.Test.YthjkafeklflgbaaFb4
namespace Go.Proofs.Ythjkafeklflgbaa
open Go.RowKit Go.Lib
set_option linter.unusedVariables false
set_option linter.unusedSimpArgs false
def fold_units_s2 (j3 : Int → Int → Int → (List Int) → (List Int) → Option (List Gfold_unit)) (r6 : (List Int)) (ag2 : Int → Int → Int → (List Int) → (List Int) → Int → Option (List Gfold_unit)) (u23 : Int) (u24 : Int) (u25 : Int) (u26 : List Int) (u27 : List Int) (x6 : Int) : Option (List Gfold_unit) := bcond (decide ((x6 : Int) < ((cutL r6 1 (r6.length : Int)).length : Int))) ( andThen (getO (cutL r6 1 (r6.length : Int)) x6) fun (q2 : Int) => andThen (fold_unit_mark_v (⟨u23, u24, u25, u26, u27⟩ : Gfold_unit) q2) fun (r7 : Gfold_unit) => grd (I64 (x6 + 1)) <| ag2 r7.at_ r7.broken r7.base r7.low r7.high (x6 + 1)
) ( j3 u23 u24 u25 u26 u27
)
def fold_units_s1 (s1 : ByteArray) (r1 : ((List (Gfold_pair × Int)) × (List (Int × Gfold_pair)))) (x1 : Gapi_Piece) (ag1 : (List Gfold_unit) → Option (List Gfold_unit)) (l4 : List Gfold_unit) : Option (List Gfold_unit) := bcond (x1.Broken) ( andThen (getB s1 x1.At) fun (c1 : Int) => grd (l4.length + 1 ≤ 2147483648) <| ag1 (l4 ++ [(⟨x1.At, c1, (-1), ([] : List Int), ([] : List Int)⟩ : Gfold_unit)])
) ( joinK (fun (j2 : Option (List Gfold_unit)) => bcond (decide ((0 : Int) < (l4.length : Int))) ( grd (I64 ((l4.length : Int) - 1)) <| andThen (getO l4 ((l4.length : Int) - 1)) fun (x2 : Gfold_unit) => andThen (fold_unit_letter_v x2) fun (r3 : Bool) => bcond (r3) ( grd (I32 x1.Rune) <| bcond (((kind x1.Rune) : Int) == 2) ( grd (I64 ((l4.length : Int) - 1)) <| andThen (getO l4 ((l4.length : Int) - 1)) fun (x3 : Gfold_unit) => andThen (fold_unit_mark_v x3 x1.Rune) fun (r4 : Gfold_unit) => ag1 (l4.set ((l4.length : Int) - 1 : Int).toNat r4)
) ( j2
)
) ( j2
)
) ( j2
)
) ( joinK (fun (j3 : Int → Int → Int → (List Int) → (List Int) → Option (List Gfold_unit)) => andThen (fold_unit_letter_v (⟨x1.At, 0, x1.Rune, ([] : List Int), ([] : List Int)⟩ : Gfold_unit)) fun (r5 : Bool) => bcond (r5) ( andThen (fold_parted_v r1.2 x1.Rune) fun (r6 : (List Int)) => andThen (getO r6 0) fun (q1 : Int) => grd (0 ≤ (1 : Int) ∧ (1 : Int) ≤ (r6.length : Int) ∧ ((r6.length : Int) : Int) ≤ (r6.length : Int)) <| loopG (fun _ _ _ _ _ _ => none) (fold_units_s2 j3 r6) fuel x1.At 0 q1 ([] : List Int) ([] : List Int) 0
) ( j3 x1.At 0 x1.Rune ([] : List Int) ([] : List Int)
)
) (fun (u1 : Int) (u2 : Int) (u3 : Int) (u4 : List Int) (u5 : List Int) => grd (l4.length + 1 ≤ 2147483648) <| ag1 (l4 ++ [(⟨u1, u2, u3, u4, u5⟩ : Gfold_unit)])
)
)
)
def fold_units_v (s1 : ByteArray) : Option (List Gfold_unit) := joinK (fun (j1 : (List Gfold_unit) → Option (List Gfold_unit)) => andThen (fold_tables_v) fun (r1 : ((List (Gfold_pair × Int)) × (List (Int × Gfold_pair)))) => andThen (runes_Pieces_v s1) fun (r2 : ByteArray) => andThen (runes_Pieces_1_v r2) fun (its1 : (List Gapi_Piece)) => joinK (fun (d1 : (List Gfold_unit) → Option (List Gfold_unit)) => rangeG d1 (fold_units_s1 s1 r1) its1 ([] : List Gfold_unit)
) (fun (l4 : List Gfold_unit) => j1 l4
)
) (fun (l1 : List Gfold_unit) => some l1
)
set_option maxRecDepth 100000 in
set_option maxHeartbeats 4000000 in
theorem fold_units_fn {s1 : ByteArray} {r : (List Gfold_unit)} (h : fold_units_v s1 = some r) : Fn Try.prog 45 [.string s1] [] (fun v0 : Value => v0) (fun v0 => [vecN encN_Gfold_unit nest_Gfold_unit 73 5 v0 r]) := by
 unfold fold_units_v at h
 refine Fn.intro Try.func45 rfl Try.ntmps45 (by simp) ?_
 intro w0 K
 refine TC.star0 ?_
 show TC _ _ _ _ _ _ _ _ _ [star ((([] : List Nat) : List Nat).map mark)]
 refine TC.seq (TC.region ?_)
 refine TO.box rfl dc rfl (fun b1 => ?_)
 refine TO.assign rfl dc rfl (TO.nil (TX.next ?_))
 refine TC.scope (β := Unit) (l := 0) (fun _ => False) (fun _ => []) (fun _ => []) rfl ?_ ?_
 ·
  obtain ⟨j1, hj1, h⟩ := joinE h
  refine TC.cutN (β := (List Gfold_unit) × Nat × Hd × (List Nat)) 3 rfl (fun b => j1 b.1 = some r) (fun b => marksOf b.2.2.2) (fun b => [(5, .pointer (some ⟨b.2.1, 0, none⟩))]) (fun b => [cells b.2.1 [b.2.2.1.v] 70, vecN encN_Gfold_unit nest_Gfold_unit 73 5 b.2.2.1.v b.1, star ((b.2.2.2 : List Nat).map mark)]) (fun cut => ?_) ?_
  ·
   refine TC.seq (TC.region ?_)
   obtain ⟨r1, hq1, h⟩ := andE h
   refine TO.call (vs := []) rfl dc rfl rfl rfl en_43 (fold_tables_fn hq1) Splits.nil ?_
   rintro ⟨b3, b4⟩
   show TO _ _ _ _ _ _ _ _ _ _ [star ((([] : List Nat) : List Nat).map mark), cells b1 [.string s1] 9, mapA (fun p : Gfold_pair => Value.agg #[.int .i32 p.e0, .int .i32 p.e1]) (fun n : Int => Value.int .i32 n) b3 r1.1, mapA (fun n : Int => Value.int .i32 n) (fun p : Gfold_pair => Value.agg #[.int .i32 p.e0, .int .i32 p.e1]) b4 r1.2]
   refine TO.weakenL (L' := [star ((([] : List Nat) : List Nat).map mark), cells b1 [.string s1] 9, mapA (fun p : Gfold_pair => Value.agg #[.int .i32 p.e0, .int .i32 p.e1]) (fun n : Int => Value.int .i32 n) b3 r1.1, mapA (fun n : Int => Value.int .i32 n) (fun p : Gfold_pair => Value.agg #[.int .i32 p.e0, .int .i32 p.e1]) b4 r1.2]) (Splits.of [0, 1, 2, 3] kr rfl) ?_
   refine TO.move rfl dc rfl (TO.extract rfl dc rfl rfl (TO.extract rfl dc rfl rfl ?_))
   refine TO.alloc zr_63 rfl dc (fun b5 => ?_)
   refine TO.assign rfl dc rfl ?_
   refine TO.store (k := 4) (l' := [.map (some b4)]) sz_63 rfl rfl rfl rfl rfl (fun _ _ => rfl) rfl ?_
   show TO _ _ _ _ _ _ _ _ _ _ [star ((([] : List Nat) : List Nat).map mark), cells b1 [.string s1] 9, mapA (fun p : Gfold_pair => Value.agg #[.int .i32 p.e0, .int .i32 p.e1]) (fun n : Int => Value.int .i32 n) b3 r1.1, mapA (fun n : Int => Value.int .i32 n) (fun p : Gfold_pair => Value.agg #[.int .i32 p.e0, .int .i32 p.e1]) b4 r1.2, cells b5 [.map (some b4)] 63]
   refine TO.nil (TX.next (TC.seq (TC.region ?_)))
   refine TO.alloc zr_70 rfl dc (fun b6 => ?_)
   refine TO.nil (TX.next (TC.seq (TC.label (TX.next (cut (TC.seq (TC.region (TO.load (k := 1) sc_9 rfl dc rfl rfl rfl ?_))))))))
   obtain ⟨r2, hq2, h⟩ := andE h
   refine TO.call (vs := [.string s1]) rfl dc rfl rfl rfl en_67 (runes_Pieces_fn hq2) Splits.nil ?_
   rintro b7
   show TO _ _ _ _ _ _ _ _ _ _ [star ((([] : List Nat) : List Nat).map mark), cells b1 [.string s1] 9, mapA (fun p : Gfold_pair => Value.agg #[.int .i32 p.e0, .int .i32 p.e1]) (fun n : Int => Value.int .i32 n) b3 r1.1, mapA (fun n : Int => Value.int .i32 n) (fun p : Gfold_pair => Value.agg #[.int .i32 p.e0, .int .i32 p.e1]) b4 r1.2, cells b5 [.map (some b4)] 63, cells b6 [.slice none 0 0] 70, cells b7 [.string r2] 9]
   refine TO.weakenL (L' := [star ((([] : List Nat) : List Nat).map mark), cells b1 [.string s1] 9, mapA (fun p : Gfold_pair => Value.agg #[.int .i32 p.e0, .int .i32 p.e1]) (fun n : Int => Value.int .i32 n) b3 r1.1, mapA (fun n : Int => Value.int .i32 n) (fun p : Gfold_pair => Value.agg #[.int .i32 p.e0, .int .i32 p.e1]) b4 r1.2, cells b5 [.map (some b4)] 63, cells b6 [.slice none 0 0] 70, cells b7 [.string r2] 9]) (Splits.of [0, 1, 2, 3, 4, 5, 6] kr rfl) ?_
   refine TO.nil (TX.next (TC.block ?_))
   obtain ⟨its1, hq3, h⟩ := andE h
   refine TC.newN (enc := encN_Gfold_unit) (nest := nest_Gfold_unit) (e := 73) (size := 5) ?_
   show TC _ _ _ _ _ _ _ _ _ [star ((([] : List Nat) : List Nat).map mark), cells b1 [.string s1] 9, mapA (fun p : Gfold_pair => Value.agg #[.int .i32 p.e0, .int .i32 p.e1]) (fun n : Int => Value.int .i32 n) b3 r1.1, mapA (fun n : Int => Value.int .i32 n) (fun p : Gfold_pair => Value.agg #[.int .i32 p.e0, .int .i32 p.e1]) b4 r1.2, cells b5 [.map (some b4)] 63, cells b6 [.slice none 0 0] 70, cells b7 [.string r2] 9, vecN encN_Gfold_unit nest_Gfold_unit 73 5 (.slice none 0 0) ([] : List Gfold_unit)]
   obtain ⟨d1, hd1, h⟩ := joinE h
   refine TC.range (α := Gapi_Piece) (β := (List Gfold_unit) × Hd) (γ := Unit) (δ := Nat) (ps := [18]) Ro.nil rfl en_81 (runes_Pieces_1_itr hq3) (fun pre b => ∀ post, its1 = pre ++ post → rangeG d1 (fold_units_s1 s1 r1) post b.1 = some r) (fun pre b => [cells b1 [.string s1] 9, cells b5 [.map (some b4)] 63, mapA (fun n : Int => Value.int .i32 n) (fun p : Gfold_pair => Value.agg #[.int .i32 p.e0, .int .i32 p.e1]) b4 r1.2, cells b6 [b.2.v] 70, vecN encN_Gfold_unit nest_Gfold_unit 73 5 b.2.v b.1]) (fun c pre g => False) (fun c pre g => []) (fun pre x b j => [(1, .pointer (some ⟨b1, 0, none⟩)), (2, .slice none 0 0), (4, .pointer (some ⟨b5, 0, none⟩)), (5, .pointer (some ⟨b6, 0, none⟩)), (17, .func (.func 81) #[] #[.pointer (some ⟨b7, 0, none⟩)]), (6, .pointer (some ⟨j, 0, none⟩))]) (fun pre x b j => [cells b1 [.string s1] 9, cells b5 [.map (some b4)] 63, mapA (fun n : Int => Value.int .i32 n) (fun p : Gfold_pair => Value.agg #[.int .i32 p.e0, .int .i32 p.e1]) b4 r1.2, cells b6 [b.2.v] 70, vecN encN_Gfold_unit nest_Gfold_unit 73 5 b.2.v b.1, cells j [.int .i64 x.At, .int .i64 x.Width, .int .i32 x.Rune, .bool x.Broken] 89]) (([] : List Gfold_unit), Hd.nil) (fun post e => by rw [List.nil_append] at e; subst e; exact h) (Splits.of [1, 4, 3, 5, 7] kr rfl) ⟨.inl ⟨6, rfl⟩, trivial⟩ (fun _ => rfl) dc ?_ ?_ ?_ ?_
   ·
    rintro lp rc pre x1 post ⟨l4, hd4⟩ w1 K1 hxs1 hext hro hinv
    refine TC.region ?_
    refine TO.alloc zr_89 rfl dc (fun b8 => ?_)
    refine TO.stores (k := 5) (vs := [.int .i64 x1.At, .int .i64 x1.Width, .int .i32 x1.Rune, .bool x1.Broken]) (l' := [.int .i64 x1.At, .int .i64 x1.Width, .int .i32 x1.Rune, .bool x1.Broken]) sz_89 rfl rfl rfl rfl rfl (show _ ≤ _ by simp) rfl rfl ?_
    show TO _ _ _ _ _ _ _ _ _ _ [cells b1 [.string s1] 9, cells b5 [.map (some b4)] 63, mapA (fun n : Int => Value.int .i32 n) (fun p : Gfold_pair => Value.agg #[.int .i32 p.e0, .int .i32 p.e1]) b4 r1.2, cells b6 [hd4.v] 70, vecN encN_Gfold_unit nest_Gfold_unit 73 5 hd4.v l4, cells b8 [.int .i64 x1.At, .int .i64 x1.Width, .int .i32 x1.Rune, .bool x1.Broken] 89]
    refine TO.nil ?_
    exact fun a w ha hw => ⟨b8, (Sbs.cons rfl (Sbs.cons rfl (Sbs.cons rfl (Sbs.cons rfl (Sbs.cons rfl (Sbs.cons rfl (Sbs.nil))))))) _ _ _ ha, hw.weaken (Splits.of [0, 1, 2, 3, 4, 5] kr rfl)⟩
   ·
    rintro lp rc pre x1 post1 ⟨l4, hd4⟩ jb1 w1 K1 hxs1 hext hro hinv
    have h := hinv (x1 :: post1) hxs1
    obtain ⟨ag1, hag1⟩ : ∃ ag, ag = rangeG d1 (fold_units_s1 s1 r1) post1 := ⟨_, rfl⟩
    have h : fold_units_s1 s1 r1 x1 ag1 l4 = some r := by rw [hag1]; exact h
    unfold fold_units_s1 at h
    show TC _ _ _ _ _ _ _ _ [(1, .pointer (some ⟨b1, 0, none⟩)), (2, .slice none 0 0), (4, .pointer (some ⟨b5, 0, none⟩)), (5, .pointer (some ⟨b6, 0, none⟩)), (17, .func (.func 81) #[] #[.pointer (some ⟨b7, 0, none⟩)]), (6, .pointer (some ⟨jb1, 0, none⟩))] [cells b1 [.string s1] 9, cells b5 [.map (some b4)] 63, mapA (fun n : Int => Value.int .i32 n) (fun p : Gfold_pair => Value.agg #[.int .i32 p.e0, .int .i32 p.e1]) b4 r1.2, cells b6 [hd4.v] 70, vecN encN_Gfold_unit nest_Gfold_unit 73 5 hd4.v l4, cells jb1 [.int .i64 x1.At, .int .i64 x1.Width, .int .i32 x1.Rune, .bool x1.Broken] 89]
    refine TC.block (TC.seq (TC.seq (TC.region (TO.fieldAddr fl_89_3 rfl dc rfl (show _ = 3 from rfl) (TO.load (k := 5) sc_4 rfl dc rfl rfl rfl (TO.nil (TX.next ?_)))))))
    refine TC.condB rfl (fun hb1 => ?_) (fun hb1 => ?_)
    ·
     have h := condT hb1 h
     refine TC.seq ?_
     obtain ⟨c1, hq4, h⟩ := andE h
     obtain ⟨hg1, h⟩ := grdE h
     refine TC.drawB (β := Nat) 9 8 _ [(0, 21, hd4.v), (1, 22, .pointer (some ⟨jb1, 0, none⟩)), (2, 23, .int .i64 x1.At), (3, 24, .string s1), (4, 25, .pointer (some ⟨jb1, 0, none⟩)), (5, 26, .int .i64 x1.At), (6, 27, .int .u8 c1), (7, 28, .agg #[.int .i64 x1.At, .int .u8 c1, .int .i32 (-1), .slice none 0 0, .slice none 0 0])] (fun b9 => [(29, .slice (some ⟨b9, 0, none⟩) 1 1)]) (fun b9 => [cells b1 [.string s1] 9, cells b5 [.map (some b4)] 63, mapA (fun n : Int => Value.int .i32 n) (fun p : Gfold_pair => Value.agg #[.int .i32 p.e0, .int .i32 p.e1]) b4 r1.2, cells b6 [hd4.v] 70, vecN encN_Gfold_unit nest_Gfold_unit 73 5 hd4.v l4, cells jb1 [.int .i64 x1.At, .int .i64 x1.Width, .int .i32 x1.Rune, .bool x1.Broken] 89, cells b9 [.int .i64 x1.At, .int .u8 c1, .int .i32 (-1), .slice none 0 0, .slice none 0 0] 73]) mixed kr kr rfl dc dc (by rfl) kr kr (DrawPreX.cons ?_ (DrawPreX.cons ?_ (DrawPreX.cons ?_ (DrawPreX.cons ?_ (DrawPreX.cons ?_ (DrawPreX.cons ?_ (DrawPreX.cons ?_ (DrawPreX.cons ?_ (DrawPreX.here DrawPreX.nil))))))))) (fun b9 => (DrawPreX.cons ?_ (DrawPreX.cons ?_ (DrawPreX.cons ?_ (DrawPreX.cons ?_ (DrawPreX.cons ?_ (DrawPreX.cons ?_ (DrawPreX.cons ?_ (DrawPreX.cons ?_ (DrawPreX.here DrawPreX.nil)))))))))) ?_ ?_
     ·
      intro D hn hd hcl hu hi
      refine TO.load (k := 3) sc_70 rfl dc (dl_old (by rfl) rfl) rfl rfl ?_
      exact TX.quiet 0 hu hi rfl
     ·
      intro D hn hd hcl hu hi
      refine TO.fieldAddr fl_89_0 rfl dc (dl_old (by rfl) rfl) (show _ = 0 from rfl) ?_
      exact TX.quiet 1 hu hi rfl
     ·
      intro D hn hd hcl hu hi
      refine TO.load (k := 5) sc_3 rfl dc (dl_lookup (m := 1) hu rfl (hd 1 dc)) rfl rfl ?_
      exact TX.quiet 2 hu hi rfl
     ·
      intro D hn hd hcl hu hi
      refine TO.load (k := 0) sc_9 rfl dc (dl_old (by rfl) rfl) rfl rfl ?_
      exact TX.quiet 3 hu hi rfl
     ·
      intro D hn hd hcl hu hi
      refine TO.fieldAddr fl_89_0 rfl dc (dl_old (by rfl) rfl) (show _ = 0 from rfl) ?_
      exact TX.quiet 4 hu hi rfl
     ·
      intro D hn hd hcl hu hi
      refine TO.load (k := 5) sc_3 rfl dc (dl_lookup (m := 4) hu rfl (hd 4 dc)) rfl rfl ?_
      exact TX.quiet 5 hu hi rfl
     ·
      intro D hn hd hcl hu hi
      refine TO.index rfl dc (dl_lookup (m := 3) hu rfl (hd 3 dc)) (dl_lookup (m := 5) hu rfl (hd 5 dc)) (index_stringI Try.underlying9 hq4) ?_
      exact TX.quiet 6 hu hi rfl
     ·
      intro D hn hd hcl hu hi
      refine TO.build (v := .agg #[.int .i64 x1.At, .int .u8 c1, .int .i32 (-1), .slice none 0 0, .slice none 0 0]) (ps := [(0, .tmp 23), (1, .tmp 27), (2, .const (.int .i32 (-1)))]) rfl dc (evP.cons (dl_lookup (m := 2) hu rfl (hd 2 dc)) (evP.cons (dl_lookup (m := 6) hu rfl (hd 6 dc)) (evP.cons rfl evP.nil))) (fun _ => by kernel_rfl) ?_
      exact TX.quiet 7 hu hi rfl
     ·
      intro D hn hd hcl hu hi
      refine TO.load (k := 3) sc_70 rfl dc (dl_old (by rfl) rfl) rfl rfl ?_
      exact TX.quiet 0 hu hi rfl
     ·
      intro D hn hd hcl hu hi
      refine TO.fieldAddr fl_89_0 rfl dc (dl_old (by rfl) rfl) (show _ = 0 from rfl) ?_
      exact TX.quiet 1 hu hi rfl
     ·
      intro D hn hd hcl hu hi
      refine TO.load (k := 5) sc_3 rfl dc (dl_lookup (m := 1) hu rfl (hd 1 dc)) rfl rfl ?_
      exact TX.quiet 2 hu hi rfl
     ·
      intro D hn hd hcl hu hi
      refine TO.load (k := 0) sc_9 rfl dc (dl_old (by rfl) rfl) rfl rfl ?_
      exact TX.quiet 3 hu hi rfl
     ·
      intro D hn hd hcl hu hi
      refine TO.fieldAddr fl_89_0 rfl dc (dl_old (by rfl) rfl) (show _ = 0 from rfl) ?_
      exact TX.quiet 4 hu hi rfl
     ·
      intro D hn hd hcl hu hi
      refine TO.load (k := 5) sc_3 rfl dc (dl_lookup (m := 4) hu rfl (hd 4 dc)) rfl rfl ?_
      exact TX.quiet 5 hu hi rfl
     ·
      intro D hn hd hcl hu hi
      refine TO.index rfl dc (dl_lookup (m := 3) hu rfl (hd 3 dc)) (dl_lookup (m := 5) hu rfl (hd 5 dc)) (index_stringI Try.underlying9 hq4) ?_
      exact TX.quiet 6 hu hi rfl
     ·
      intro D hn hd hcl hu hi
      refine TO.build (v := .agg #[.int .i64 x1.At, .int .u8 c1, .int .i32 (-1), .slice none 0 0, .slice none 0 0]) (ps := [(0, .tmp 23), (1, .tmp 27), (2, .const (.int .i32 (-1)))]) rfl dc (evP.cons (dl_lookup (m := 2) hu rfl (hd 2 dc)) (evP.cons (dl_lookup (m := 6) hu rfl (hd 6 dc)) (evP.cons rfl evP.nil))) (fun _ => by kernel_rfl) ?_
      exact TX.quiet 7 hu hi rfl
     ·
      intro D hn hd hcl
      refine TO.buildSlice (cs := [.int .i64 x1.At, .int .u8 c1, .int .i32 (-1), .slice none 0 0, .slice none 0 0]) (te := 73) (ps := [(0, .tmp 28)]) rfl dc (evP.cons (dl_lookup (m := 7) kr rfl (hd 7 dc)) evP.nil) (fun _ => by kernel_rfl) (fun b9 => ?_)
      exact fun a w ha hw => ⟨b9, Sbs.mid (by rfl) _ _ _ ha, hw⟩
     intro b9
     show TO _ _ _ _ _ _ _ _ _ _ [cells b1 [.string s1] 9, cells b5 [.map (some b4)] 63, mapA (fun n : Int => Value.int .i32 n) (fun p : Gfold_pair => Value.agg #[.int .i32 p.e0, .int .i32 p.e1]) b4 r1.2, cells b6 [hd4.v] 70, vecN encN_Gfold_unit nest_Gfold_unit 73 5 hd4.v l4, cells jb1 [.int .i64 x1.At, .int .i64 x1.Width, .int .i32 x1.Rune, .bool x1.Broken] 89, cells b9 [.int .i64 x1.At, .int .u8 c1, .int .i32 (-1), .slice none 0 0, .slice none 0 0] 73]
     refine TO.newVec (enc := (encI (.i32))) (e := 21) (size := 1) ?_
     show TO _ _ _ _ _ _ _ _ _ _ [cells b1 [.string s1] 9, cells b5 [.map (some b4)] 63, mapA (fun n : Int => Value.int .i32 n) (fun p : Gfold_pair => Value.agg #[.int .i32 p.e0, .int .i32 p.e1]) b4 r1.2, cells b6 [hd4.v] 70, vecN encN_Gfold_unit nest_Gfold_unit 73 5 hd4.v l4, cells jb1 [.int .i64 x1.At, .int .i64 x1.Width, .int .i32 x1.Rune, .bool x1.Broken] 89, cells b9 [.int .i64 x1.At, .int .u8 c1, .int .i32 (-1), .slice none 0 0, .slice none 0 0] 73, vec (encI (.i32)) 21 1 (.slice none 0 0) ([] : List Int)]
     refine TO.newVec (enc := (encI (.i32))) (e := 21) (size := 1) ?_
     show TO _ _ _ _ _ _ _ _ _ _ [cells b1 [.string s1] 9, cells b5 [.map (some b4)] 63, mapA (fun n : Int => Value.int .i32 n) (fun p : Gfold_pair => Value.agg #[.int .i32 p.e0, .int .i32 p.e1]) b4 r1.2, cells b6 [hd4.v] 70, vecN encN_Gfold_unit nest_Gfold_unit 73 5 hd4.v l4, cells jb1 [.int .i64 x1.At, .int .i64 x1.Width, .int .i32 x1.Rune, .bool x1.Broken] 89, cells b9 [.int .i64 x1.At, .int .u8 c1, .int .i32 (-1), .slice none 0 0, .slice none 0 0] 73, vec (encI (.i32)) 21 1 (.slice none 0 0) ([] : List Int), vec (encI (.i32)) 21 1 (.slice none 0 0) ([] : List Int)]
     refine TO.unfold1 (k := 4) rfl openE (fun zs1 hz1 => ?_)
     show TO _ _ _ _ _ _ _ _ _ _ [cells b1 [.string s1] 9, cells b5 [.map (some b4)] 63, mapA (fun n : Int => Value.int .i32 n) (fun p : Gfold_pair => Value.agg #[.int .i32 p.e0, .int .i32 p.e1]) b4 r1.2, cells b6 [hd4.v] 70, vec encN_Gfold_unit 73 5 hd4.v zs1, cells jb1 [.int .i64 x1.At, .int .i64 x1.Width, .int .i32 x1.Rune, .bool x1.Broken] 89, cells b9 [.int .i64 x1.At, .int .u8 c1, .int .i32 (-1), .slice none 0 0, .slice none 0 0] 73, vec (encI (.i32)) 21 1 (.slice none 0 0) ([] : List Int), vec (encI (.i32)) 21 1 (.slice none 0 0) ([] : List Int), own nest_Gfold_unit zs1]
     refine TO.appendVec (k := 4) (k2 := 6) (ys := [((⟨x1.At, c1, (-1), ([] : List Int), ([] : List Int)⟩ : Gfold_unit), (Hd.nil, Hd.nil))]) Try.underlying70 el_73 encN_Gfold_unit_len encN_Gfold_unit_one rfl dc rfl rfl rfl rfl rfl rfl (by rw [zlen hz1]; exact hg1) (fun v1 => ?_)
     show TO _ _ _ _ _ _ _ _ _ _ [cells b1 [.string s1] 9, cells b5 [.map (some b4)] 63, mapA (fun n : Int => Value.int .i32 n) (fun p : Gfold_pair => Value.agg #[.int .i32 p.e0, .int .i32 p.e1]) b4 r1.2, cells b6 [hd4.v] 70, vec encN_Gfold_unit 73 5 v1 (zs1 ++ [((⟨x1.At, c1, (-1), ([] : List Int), ([] : List Int)⟩ : Gfold_unit), (Hd.nil, Hd.nil))]), cells jb1 [.int .i64 x1.At, .int .i64 x1.Width, .int .i32 x1.Rune, .bool x1.Broken] 89, cells b9 [.int .i64 x1.At, .int .u8 c1, .int .i32 (-1), .slice none 0 0, .slice none 0 0] 73, vec (encI (.i32)) 21 1 (.slice none 0 0) ([] : List Int), vec (encI (.i32)) 21 1 (.slice none 0 0) ([] : List Int), own nest_Gfold_unit zs1]
     refine TO.nameHd (k := 4) rfl (fun hd5 he1 => ?_)
     subst he1
     refine TO.fold1 (k := 9) rfl (Splits.of [7, 8] kr rfl) rfl (ownApp (nest := nest_Gfold_unit) (zs := zs1) (z := ((⟨x1.At, c1, (-1), ([] : List Int), ([] : List Int)⟩ : Gfold_unit), (Hd.nil, Hd.nil)))) ?_
     show TO _ _ _ _ _ _ _ _ _ _ [cells b1 [.string s1] 9, cells b5 [.map (some b4)] 63, mapA (fun n : Int => Value.int .i32 n) (fun p : Gfold_pair => Value.agg #[.int .i32 p.e0, .int .i32 p.e1]) b4 r1.2, cells b6 [hd4.v] 70, vec encN_Gfold_unit 73 5 hd5.v (zs1 ++ [((⟨x1.At, c1, (-1), ([] : List Int), ([] : List Int)⟩ : Gfold_unit), (Hd.nil, Hd.nil))]), cells jb1 [.int .i64 x1.At, .int .i64 x1.Width, .int .i32 x1.Rune, .bool x1.Broken] 89, cells b9 [.int .i64 x1.At, .int .u8 c1, .int .i32 (-1), .slice none 0 0, .slice none 0 0] 73, emp, emp, own nest_Gfold_unit (zs1 ++ [((⟨x1.At, c1, (-1), ([] : List Int), ([] : List Int)⟩ : Gfold_unit), (Hd.nil, Hd.nil))])]
     refine TO.fold1 (k := 4) rfl (Splits.of [9] kr rfl) rfl (closeE (enc := encN_Gfold_unit) (nest := nest_Gfold_unit) (zapp hz1)) ?_
     show TO _ _ _ _ _ _ _ _ _ _ [cells b1 [.string s1] 9, cells b5 [.map (some b4)] 63, mapA (fun n : Int => Value.int .i32 n) (fun p : Gfold_pair => Value.agg #[.int .i32 p.e0, .int .i32 p.e1]) b4 r1.2, cells b6 [hd4.v] 70, vecN encN_Gfold_unit nest_Gfold_unit 73 5 hd5.v (l4 ++ [(⟨x1.At, c1, (-1), ([] : List Int), ([] : List Int)⟩ : Gfold_unit)]), cells jb1 [.int .i64 x1.At, .int .i64 x1.Width, .int .i32 x1.Rune, .bool x1.Broken] 89, cells b9 [.int .i64 x1.At, .int .u8 c1, .int .i32 (-1), .slice none 0 0, .slice none 0 0] 73, emp, emp, emp]
     refine TO.weakenL (L' := [cells b1 [.string s1] 9, cells b5 [.map (some b4)] 63, mapA (fun n : Int => Value.int .i32 n) (fun p : Gfold_pair => Value.agg #[.int .i32 p.e0, .int .i32 p.e1]) b4 r1.2, cells b6 [hd4.v] 70, vecN encN_Gfold_unit nest_Gfold_unit 73 5 hd5.v (l4 ++ [(⟨x1.At, c1, (-1), ([] : List Int), ([] : List Int)⟩ : Gfold_unit)]), cells jb1 [.int .i64 x1.At, .int .i64 x1.Width, .int .i32 x1.Rune, .bool x1.Broken] 89, cells b9 [.int .i64 x1.At, .int .u8 c1, .int .i32 (-1), .slice none 0 0, .slice none 0 0] 73]) (Splits.of [0, 1, 2, 3, 4, 5, 6] kr rfl) ?_
     refine TO.store (k := 3) (l' := [hd5.v]) sz_70 rfl rfl rfl rfl rfl (fun _ _ => rfl) rfl ?_
     show TO _ _ _ _ _ _ _ _ _ _ [cells b1 [.string s1] 9, cells b5 [.map (some b4)] 63, mapA (fun n : Int => Value.int .i32 n) (fun p : Gfold_pair => Value.agg #[.int .i32 p.e0, .int .i32 p.e1]) b4 r1.2, cells b6 [hd5.v] 70, vecN encN_Gfold_unit nest_Gfold_unit 73 5 hd5.v (l4 ++ [(⟨x1.At, c1, (-1), ([] : List Int), ([] : List Int)⟩ : Gfold_unit)]), cells jb1 [.int .i64 x1.At, .int .i64 x1.Width, .int .i32 x1.Rune, .bool x1.Broken] 89, cells b9 [.int .i64 x1.At, .int .u8 c1, .int .i32 (-1), .slice none 0 0, .slice none 0 0] 73]
     refine TO.nil (TX.next (TC.exit (TX.thenExit (TX.blockHere ?_))))
     exact TX.round (l4 ++ [(⟨x1.At, c1, (-1), ([] : List Int), ([] : List Int)⟩ : Gfold_unit)], hd5) (fun post2 e2 => by have e9 := snoc_post hxs1 e2; subst e9; subst hag1; exact h) (Splits.of [0, 1, 2, 3, 4] kr rfl)
    ·
     have h := condF hb1 h
     refine TC.skip (TX.next ?_)
     obtain ⟨j2, hj2, h⟩ := joinE h
     refine TC.cutN (β := Unit) 0 rfl (fun b => j2 = some r) (fun b => []) (fun b => [(1, .pointer (some ⟨b1, 0, none⟩)), (2, .slice none 0 0), (4, .pointer (some ⟨b5, 0, none⟩)), (5, .pointer (some ⟨b6, 0, none⟩)), (6, .pointer (some ⟨jb1, 0, none⟩)), (17, .func (.func 81) #[] #[.pointer (some ⟨b7, 0, none⟩)])]) (fun b => [cells b1 [.string s1] 9, cells b5 [.map (some b4)] 63, mapA (fun n : Int => Value.int .i32 n) (fun p : Gfold_pair => Value.agg #[.int .i32 p.e0, .int .i32 p.e1]) b4 r1.2, cells b6 [hd4.v] 70, vecN encN_Gfold_unit nest_Gfold_unit 73 5 hd4.v l4, cells jb1 [.int .i64 x1.At, .int .i64 x1.Width, .int .i32 x1.Rune, .bool x1.Broken] 89]) (fun cut => ?_) ?_
     ·
      refine cut (TC.seq (TC.region (TO.load (k := 3) sc_70 rfl dc rfl rfl rfl (TO.lenVecN (k := 4) rfl dc rfl rfl Try.underlying70 (TO.assign rfl dc rfl (TO.nil (TX.next (TC.seq (TC.region (TO.move rfl dc rfl (TO.bin rfl dc rfl rfl bin_gtr (TO.move rfl dc rfl ?_))))))))))))
      refine TO.split (s := 35) rfl (fun hb2 => ?_) (fun hb2 => ?_)
      ·
       have h := condT hb2 h
       refine TO.load (k := 3) sc_70 rfl dc rfl rfl rfl (TO.move rfl dc rfl ?_)
       obtain ⟨hg2, h⟩ := grdE h
       refine TO.bin rfl dc rfl rfl (bin_sub (r := (l4.length : Int) - 1) (IntWalk.i64_in _ hg2)) ?_
       refine TO.unfold1 (k := 4) rfl openE (fun zs2 hz2 => ?_)
       show TO _ _ _ _ _ _ _ _ _ _ [cells b1 [.string s1] 9, cells b5 [.map (some b4)] 63, mapA (fun n : Int => Value.int .i32 n) (fun p : Gfold_pair => Value.agg #[.int .i32 p.e0, .int .i32 p.e1]) b4 r1.2, cells b6 [hd4.v] 70, vec encN_Gfold_unit 73 5 hd4.v zs2, cells jb1 [.int .i64 x1.At, .int .i64 x1.Width, .int .i32 x1.Rune, .bool x1.Broken] 89, own nest_Gfold_unit zs2]
       obtain ⟨x2, hq5, h⟩ := andE h
       obtain ⟨⟨eh1, eh2⟩, eq1⟩ := getO_z hz2 hq5
       refine TO.indexVecI (k := 4) eq1 Try.underlying70 sz_73 rfl dc rfl rfl rfl rfl (TO.loadsVec (i := ((l4.length : Int) - 1 : Int).toNat) (j := 0) (k := 4) (q := (x2, (eh1, eh2))) (cs := [.int .i64 x2.at_, .int .u8 x2.broken, .int .i32 x2.base, eh1.v, eh2.v]) rw_73 encN_Gfold_unit_len rfl dc rfl rfl (getO_get eq1) rfl rfl rfl ?_)
       refine TO.unfold1 (k := 6) rfl (pullE (getO_get eq1)) (fun _ _ => ?_)
       show TO _ _ _ _ _ _ _ _ _ _ [cells b1 [.string s1] 9, cells b5 [.map (some b4)] 63, mapA (fun n : Int => Value.int .i32 n) (fun p : Gfold_pair => Value.agg #[.int .i32 p.e0, .int .i32 p.e1]) b4 r1.2, cells b6 [hd4.v] 70, vec encN_Gfold_unit 73 5 hd4.v zs2, cells jb1 [.int .i64 x1.At, .int .i64 x1.Width, .int .i32 x1.Rune, .bool x1.Broken] 89, own nest_Gfold_unit (zs2.eraseIdx (((l4.length : Int) - 1 : Int).toNat)), vec (encI (.i32)) 21 1 eh1.v x2.low, vec (encI (.i32)) 21 1 eh2.v x2.high]
       obtain ⟨r3, hq6, h⟩ := andE h
       refine TO.callK (v := .bool r3) (vs := [.agg #[.int .i64 x2.at_, .int .u8 x2.broken, .int .i32 x2.base, eh1.v, eh2.v]]) rfl dc rfl rfl rfl en_52 (fold_unit_letter_fn (u1 := x2) (u1_h0 := eh1) (u1_h1 := eh2) hq6) [7, 8] kr rfl (TO.pick (b := true) rfl dc rfl rfl (TO.move rfl dc rfl ?_))
       refine TO.split (s := 43) rfl (fun hb3 => ?_) (fun hb3 => ?_)
       ·
        have h := condT hb3 h
        refine TO.fieldAddr fl_89_2 rfl dc rfl (show _ = 2 from rfl) (TO.load (k := 5) sc_21 rfl dc rfl rfl rfl ?_)
        obtain ⟨hg3, h⟩ := grdE h
        refine TO.callP (v := .int .i64 (kind x1.Rune)) (vs := [.int .i32 x1.Rune]) rfl dc rfl rfl rfl en_30 (FnP.of_same fun w => kind_any x1.Rune w hg3.1 hg3.2) ?_
        refine TO.bin rfl dc rfl rfl bin_eql (TO.pick (b := true) rfl dc rfl rfl (TO.nil (TX.next ?_)))
        refine TC.condB rfl (fun hb4 => ?_) (fun hb4 => ?_)
        ·
         have h := condT hb4 h
         refine TC.seq (TC.fold1 (k := 6) rfl (Splits.of [7, 8] kr rfl) rfl (pushE (nest := nest_Gfold_unit) (getO_get eq1) rfl) ?_)
         show TC _ _ _ _ _ _ _ _ _ [cells b1 [.string s1] 9, cells b5 [.map (some b4)] 63, mapA (fun n : Int => Value.int .i32 n) (fun p : Gfold_pair => Value.agg #[.int .i32 p.e0, .int .i32 p.e1]) b4 r1.2, cells b6 [hd4.v] 70, vec encN_Gfold_unit 73 5 hd4.v zs2, cells jb1 [.int .i64 x1.At, .int .i64 x1.Width, .int .i32 x1.Rune, .bool x1.Broken] 89, own nest_Gfold_unit zs2, emp, emp]
         obtain ⟨hg4, h⟩ := grdE h
         obtain ⟨x3, hq7, h⟩ := andE h
         obtain ⟨⟨eh3, eh4⟩, eq2⟩ := getO_z hz2 hq7
         obtain ⟨r4, hq8, h⟩ := andE h
         refine TC.drawN 6 [(0, 49, hd4.v), (1, 50, .int .i64 (l4.length : Int)), (2, 51, .int .i64 ((l4.length : Int) - 1)), (3, 52, .pointer (some ⟨vblk hd4.v, ((l4.length : Int) - 1 : Int).toNat * 5, none⟩)), (4, 53, .pointer (some ⟨jb1, 2, none⟩)), (5, 54, .int .i32 x1.Rune)] mixed kr kr dc (by rfl) kr kr (DrawPre.cons ?_ (DrawPre.cons ?_ (DrawPre.cons ?_ (DrawPre.cons ?_ (DrawPre.cons ?_ (DrawPre.cons ?_ DrawPre.nil)))))) ?_
         ·
          intro D hn hd hcl hu hi
          refine TO.load (k := 3) sc_70 rfl dc (dl_old (by rfl) rfl) rfl rfl ?_
          exact TX.quiet 0 hu hi rfl
         ·
          intro D hn hd hcl hu hi
          refine TO.move rfl dc (dl_old (by rfl) rfl) ?_
          exact TX.quiet 1 hu hi rfl
         ·
          intro D hn hd hcl hu hi
          refine TO.bin rfl dc (dl_lookup (m := 1) hu rfl (hd 1 dc)) rfl (bin_sub (r := (l4.length : Int) - 1) (IntWalk.i64_in _ hg4)) ?_
          exact TX.quiet 2 hu hi rfl
         ·
          intro D hn hd hcl hu hi
          refine TO.indexVecI (k := 4) eq2 Try.underlying70 sz_73 rfl dc (dl_lookup (m := 0) hu rfl (hd 0 dc)) (dl_lookup (m := 2) hu rfl (hd 2 dc)) rfl rfl ?_
          exact TX.quiet 3 hu hi rfl
         ·
          intro D hn hd hcl hu hi
          refine TO.fieldAddr fl_89_2 rfl dc (dl_old (by rfl) rfl) (show _ = 2 from rfl) ?_
          exact TX.quiet 4 hu hi rfl
         ·
          intro D hn hd hcl hu hi
          refine TO.load (k := 5) sc_21 rfl dc (dl_lookup (m := 4) hu rfl (hd 4 dc)) rfl rfl ?_
          exact TX.quiet 5 hu hi rfl
         refine TO.unfold1 (k := 6) rfl (pullE (getO_get eq2)) (fun _ _ => ?_)
         show TO _ _ _ _ _ _ _ _ _ _ [cells b1 [.string s1] 9, cells b5 [.map (some b4)] 63, mapA (fun n : Int => Value.int .i32 n) (fun p : Gfold_pair => Value.agg #[.int .i32 p.e0, .int .i32 p.e1]) b4 r1.2, cells b6 [hd4.v] 70, vec encN_Gfold_unit 73 5 hd4.v zs2, cells jb1 [.int .i64 x1.At, .int .i64 x1.Width, .int .i32 x1.Rune, .bool x1.Broken] 89, own nest_Gfold_unit (zs2.eraseIdx (((l4.length : Int) - 1 : Int).toNat)), emp, emp, vec (encI (.i32)) 21 1 eh3.v x3.low, vec (encI (.i32)) 21 1 eh4.v x3.high]
         refine TO.call (vs := [.pointer (some ⟨vblk hd4.v, ((l4.length : Int) - 1 : Int).toNat * 5, none⟩), .int .i32 x1.Rune]) rfl dc rfl rfl rfl en_68 (fold_unit_mark_fn (vu1 := hd4.v) (u1 := x3) (u1_h0 := eh3) (u1_h1 := eh4) (getO_get eq2) hq8) (Splits.of [4, 9, 10] kr rfl) ?_
         rintro ⟨hd6, hd7⟩
         show TO _ _ _ _ _ _ _ _ _ _ [cells b1 [.string s1] 9, cells b5 [.map (some b4)] 63, mapA (fun n : Int => Value.int .i32 n) (fun p : Gfold_pair => Value.agg #[.int .i32 p.e0, .int .i32 p.e1]) b4 r1.2, cells b6 [hd4.v] 70, emp, cells jb1 [.int .i64 x1.At, .int .i64 x1.Width, .int .i32 x1.Rune, .bool x1.Broken] 89, own nest_Gfold_unit (zs2.eraseIdx (((l4.length : Int) - 1 : Int).toNat)), emp, emp, emp, emp, vec encN_Gfold_unit 73 5 hd4.v (zs2.set (((l4.length : Int) - 1 : Int).toNat) (r4, (hd6, hd7))), vec (encI (.i32)) 21 1 hd6.v r4.low, vec (encI (.i32)) 21 1 hd7.v r4.high]
         refine TO.weakenL (L' := [cells b1 [.string s1] 9, cells b5 [.map (some b4)] 63, mapA (fun n : Int => Value.int .i32 n) (fun p : Gfold_pair => Value.agg #[.int .i32 p.e0, .int .i32 p.e1]) b4 r1.2, cells b6 [hd4.v] 70, vec encN_Gfold_unit 73 5 hd4.v (zs2.set (((l4.length : Int) - 1 : Int).toNat) (r4, (hd6, hd7))), cells jb1 [.int .i64 x1.At, .int .i64 x1.Width, .int .i32 x1.Rune, .bool x1.Broken] 89, own nest_Gfold_unit (zs2.eraseIdx (((l4.length : Int) - 1 : Int).toNat)), emp, emp, emp, emp, vec (encI (.i32)) 21 1 hd6.v r4.low, vec (encI (.i32)) 21 1 hd7.v r4.high]) (Splits.of [0, 1, 2, 3, 11, 5, 6, 7, 8, 9, 10, 12, 13] kr rfl) ?_
         refine TO.fold1 (k := 6) rfl (Splits.of [11, 12] kr rfl) rfl (pushE (nest := nest_Gfold_unit) (zs := zs2) (z := (r4, (hd6, hd7))) (set_get (getO_get eq2)) set_erase) ?_
         show TO _ _ _ _ _ _ _ _ _ _ [cells b1 [.string s1] 9, cells b5 [.map (some b4)] 63, mapA (fun n : Int => Value.int .i32 n) (fun p : Gfold_pair => Value.agg #[.int .i32 p.e0, .int .i32 p.e1]) b4 r1.2, cells b6 [hd4.v] 70, vec encN_Gfold_unit 73 5 hd4.v (zs2.set (((l4.length : Int) - 1 : Int).toNat) (r4, (hd6, hd7))), cells jb1 [.int .i64 x1.At, .int .i64 x1.Width, .int .i32 x1.Rune, .bool x1.Broken] 89, own nest_Gfold_unit (zs2.set (((l4.length : Int) - 1 : Int).toNat) (r4, (hd6, hd7))), emp, emp, emp, emp, emp, emp]
         refine TO.weakenL (L' := [cells b1 [.string s1] 9, cells b5 [.map (some b4)] 63, mapA (fun n : Int => Value.int .i32 n) (fun p : Gfold_pair => Value.agg #[.int .i32 p.e0, .int .i32 p.e1]) b4 r1.2, cells b6 [hd4.v] 70, vec encN_Gfold_unit 73 5 hd4.v (zs2.set (((l4.length : Int) - 1 : Int).toNat) (r4, (hd6, hd7))), cells jb1 [.int .i64 x1.At, .int .i64 x1.Width, .int .i32 x1.Rune, .bool x1.Broken] 89, own nest_Gfold_unit (zs2.set (((l4.length : Int) - 1 : Int).toNat) (r4, (hd6, hd7))), emp, emp]) (Splits.of [0, 1, 2, 3, 4, 5, 6, 7, 8] kr rfl) ?_
         refine TO.nil (TX.next (TC.exit (TX.thenExit (TX.blockHere (TX.fold1 (k := 4) rfl (Splits.of [6] kr rfl) rfl (closeE (enc := encN_Gfold_unit) (nest := nest_Gfold_unit) (zset hz2)) ?_)))))
         show TX _ _ _ _ _ _ _ [cells b1 [.string s1] 9, cells b5 [.map (some b4)] 63, mapA (fun n : Int => Value.int .i32 n) (fun p : Gfold_pair => Value.agg #[.int .i32 p.e0, .int .i32 p.e1]) b4 r1.2, cells b6 [hd4.v] 70, vecN encN_Gfold_unit nest_Gfold_unit 73 5 hd4.v (l4.set ((l4.length : Int) - 1 : Int).toNat r4), cells jb1 [.int .i64 x1.At, .int .i64 x1.Width, .int .i32 x1.Rune, .bool x1.Broken] 89, emp, emp, emp]
         exact TX.round (l4.set ((l4.length : Int) - 1 : Int).toNat r4, hd4) (fun post2 e2 => by have e9 := snoc_post hxs1 e2; subst e9; subst hag1; exact h) (Splits.of [0, 1, 2, 3, 4] kr rfl)
        ·
         have h := condF hb4 h
         refine TC.skip (TX.fold1 (k := 6) rfl (Splits.of [7, 8] kr rfl) rfl (pushE (nest := nest_Gfold_unit) (getO_get eq1) rfl) ?_)
         show TX _ _ _ _ _ _ _ [cells b1 [.string s1] 9, cells b5 [.map (some b4)] 63, mapA (fun n : Int => Value.int .i32 n) (fun p : Gfold_pair => Value.agg #[.int .i32 p.e0, .int .i32 p.e1]) b4 r1.2, cells b6 [hd4.v] 70, vec encN_Gfold_unit 73 5 hd4.v zs2, cells jb1 [.int .i64 x1.At, .int .i64 x1.Width, .int .i32 x1.Rune, .bool x1.Broken] 89, own nest_Gfold_unit zs2, emp, emp]
         refine TX.fold1 (k := 4) rfl (Splits.of [6] kr rfl) rfl (closeE (enc := encN_Gfold_unit) (nest := nest_Gfold_unit) hz2) ?_
         show TX _ _ _ _ _ _ _ [cells b1 [.string s1] 9, cells b5 [.map (some b4)] 63, mapA (fun n : Int => Value.int .i32 n) (fun p : Gfold_pair => Value.agg #[.int .i32 p.e0, .int .i32 p.e1]) b4 r1.2, cells b6 [hd4.v] 70, vecN encN_Gfold_unit nest_Gfold_unit 73 5 hd4.v l4, cells jb1 [.int .i64 x1.At, .int .i64 x1.Width, .int .i32 x1.Rune, .bool x1.Broken] 89, emp, emp, emp]
         exact TX.meetD () h rfl (Sbs.cons rfl (Sbs.cons rfl (Sbs.cons rfl (Sbs.cons rfl (Sbs.cons rfl (Sbs.cons rfl (Sbs.nil))))))) (Splits.of [0, 1, 2, 3, 4, 5] kr rfl)
       ·
        have h := condF hb3 h
        refine TO.skip rfl dc (TO.skip rfl dc (TO.skip rfl dc (TO.skip rfl dc (TO.pick (b := false) rfl dc rfl rfl (TO.nil (TX.next (TC.condF rfl (TC.skip (TX.fold1 (k := 6) rfl (Splits.of [7, 8] kr rfl) rfl (pushE (nest := nest_Gfold_unit) (getO_get eq1) rfl) ?_)))))))))
        show TX _ _ _ _ _ _ _ [cells b1 [.string s1] 9, cells b5 [.map (some b4)] 63, mapA (fun n : Int => Value.int .i32 n) (fun p : Gfold_pair => Value.agg #[.int .i32 p.e0, .int .i32 p.e1]) b4 r1.2, cells b6 [hd4.v] 70, vec encN_Gfold_unit 73 5 hd4.v zs2, cells jb1 [.int .i64 x1.At, .int .i64 x1.Width, .int .i32 x1.Rune, .bool x1.Broken] 89, own nest_Gfold_unit zs2, emp, emp]
        refine TX.fold1 (k := 4) rfl (Splits.of [6] kr rfl) rfl (closeE (enc := encN_Gfold_unit) (nest := nest_Gfold_unit) hz2) ?_
        show TX _ _ _ _ _ _ _ [cells b1 [.string s1] 9, cells b5 [.map (some b4)] 63, mapA (fun n : Int => Value.int .i32 n) (fun p : Gfold_pair => Value.agg #[.int .i32 p.e0, .int .i32 p.e1]) b4 r1.2, cells b6 [hd4.v] 70, vecN encN_Gfold_unit nest_Gfold_unit 73 5 hd4.v l4, cells jb1 [.int .i64 x1.At, .int .i64 x1.Width, .int .i32 x1.Rune, .bool x1.Broken] 89, emp, emp, emp]
        exact TX.meetD () h rfl (Sbs.cons rfl (Sbs.cons rfl (Sbs.cons rfl (Sbs.cons rfl (Sbs.cons rfl (Sbs.cons rfl (Sbs.nil))))))) (Splits.of [0, 1, 2, 3, 4, 5] kr rfl)
      ·
       have h := condF hb2 h
       refine TO.skip rfl dc (TO.skip rfl dc (TO.skip rfl dc (TO.skip rfl dc (TO.skip rfl dc (TO.skip rfl dc (TO.pick (b := false) rfl dc rfl rfl (TO.move rfl dc rfl (TO.skip rfl dc (TO.skip rfl dc (TO.skip rfl dc (TO.skip rfl dc (TO.pick (b := false) rfl dc rfl rfl (TO.nil ?_)))))))))))))
       refine TX.next (TC.condF rfl (TC.skip ?_))
       exact TX.meetD () h rfl (Sbs.cons rfl (Sbs.cons rfl (Sbs.cons rfl (Sbs.cons rfl (Sbs.cons rfl (Sbs.cons rfl (Sbs.nil))))))) (Splits.of [0, 1, 2, 3, 4, 5] kr rfl)
     ·
      rintro _ h
      rw [hj2] at h
      show TC _ _ _ _ _ ([]) _ _ [(1, .pointer (some ⟨b1, 0, none⟩)), (2, .slice none 0 0), (4, .pointer (some ⟨b5, 0, none⟩)), (5, .pointer (some ⟨b6, 0, none⟩)), (6, .pointer (some ⟨jb1, 0, none⟩)), (17, .func (.func 81) #[] #[.pointer (some ⟨b7, 0, none⟩)])] [cells b1 [.string s1] 9, cells b5 [.map (some b4)] 63, mapA (fun n : Int => Value.int .i32 n) (fun p : Gfold_pair => Value.agg #[.int .i32 p.e0, .int .i32 p.e1]) b4 r1.2, cells b6 [hd4.v] 70, vecN encN_Gfold_unit nest_Gfold_unit 73 5 hd4.v l4, cells jb1 [.int .i64 x1.At, .int .i64 x1.Width, .int .i32 x1.Rune, .bool x1.Broken] 89]
      obtain ⟨j3, hj3, h⟩ := joinE h
      refine TC.cutN (β := Int × Int × Int × (List Int) × (List Int) × Nat × Hd × Hd) 1 rfl (fun b => j3 b.1 b.2.1 b.2.2.1 b.2.2.2.1 b.2.2.2.2.1 = some r) (fun b => []) (fun b => [(1, .pointer (some ⟨b1, 0, none⟩)), (2, .slice none 0 0), (4, .pointer (some ⟨b5, 0, none⟩)), (5, .pointer (some ⟨b6, 0, none⟩)), (8, .pointer (some ⟨b.2.2.2.2.2.1, 0, none⟩)), (17, .func (.func 81) #[] #[.pointer (some ⟨b7, 0, none⟩)])]) (fun b => [cells b1 [.string s1] 9, cells b5 [.map (some b4)] 63, mapA (fun n : Int => Value.int .i32 n) (fun p : Gfold_pair => Value.agg #[.int .i32 p.e0, .int .i32 p.e1]) b4 r1.2, cells b6 [hd4.v] 70, vecN encN_Gfold_unit nest_Gfold_unit 73 5 hd4.v l4, cells b.2.2.2.2.2.1 [.int .i64 b.1, .int .u8 b.2.1, .int .i32 b.2.2.1, b.2.2.2.2.2.2.1.v, b.2.2.2.2.2.2.2.v] 73, vec (encI (.i32)) 21 1 b.2.2.2.2.2.2.1.v b.2.2.2.1, vec (encI (.i32)) 21 1 b.2.2.2.2.2.2.2.v b.2.2.2.2.1]) (fun cut => ?_) ?_
      ·
       refine TC.seq (TC.region (TO.fieldAddr fl_89_0 rfl dc rfl (show _ = 0 from rfl) (TO.load (k := 5) sc_3 rfl dc rfl rfl rfl (TO.fieldAddr fl_89_2 rfl dc rfl (show _ = 2 from rfl) (TO.load (k := 5) sc_21 rfl dc rfl rfl rfl ?_)))))
       refine TO.build (v := .agg #[.int .i64 x1.At, .int .u8 0, .int .i32 x1.Rune, .slice none 0 0, .slice none 0 0]) (ps := [(0, .tmp 57), (2, .tmp 59)]) rfl dc rfl (fun _ => by kernel_rfl) ?_
       refine TO.alloc zr_73 rfl dc (fun b11 => ?_)
       refine TO.stores (k := 6) (vs := [.int .i64 x1.At, .int .u8 0, .int .i32 x1.Rune, .slice none 0 0, .slice none 0 0]) (l' := [.int .i64 x1.At, .int .u8 0, .int .i32 x1.Rune, .slice none 0 0, .slice none 0 0]) sz_73 rfl rfl rfl rfl rfl (show _ ≤ _ by simp) rfl rfl ?_
       show TO _ _ _ _ _ _ _ _ _ _ [cells b1 [.string s1] 9, cells b5 [.map (some b4)] 63, mapA (fun n : Int => Value.int .i32 n) (fun p : Gfold_pair => Value.agg #[.int .i32 p.e0, .int .i32 p.e1]) b4 r1.2, cells b6 [hd4.v] 70, vecN encN_Gfold_unit nest_Gfold_unit 73 5 hd4.v l4, cells jb1 [.int .i64 x1.At, .int .i64 x1.Width, .int .i32 x1.Rune, .bool x1.Broken] 89, cells b11 [.int .i64 x1.At, .int .u8 0, .int .i32 x1.Rune, .slice none 0 0, .slice none 0 0] 73]
       refine TO.nil (TX.next (cut (TC.seq (TC.region (TO.loads (k := 6) (cs := [.int .i64 x1.At, .int .u8 0, .int .i32 x1.Rune, .slice none 0 0, .slice none 0 0]) rw_73 rfl dc rfl rfl rfl rfl (TO.newVec (enc := (encI (.i32))) (e := 21) (size := 1) ?_))))))
       show TO _ _ _ _ _ _ _ _ _ _ [cells b1 [.string s1] 9, cells b5 [.map (some b4)] 63, mapA (fun n : Int => Value.int .i32 n) (fun p : Gfold_pair => Value.agg #[.int .i32 p.e0, .int .i32 p.e1]) b4 r1.2, cells b6 [hd4.v] 70, vecN encN_Gfold_unit nest_Gfold_unit 73 5 hd4.v l4, cells jb1 [.int .i64 x1.At, .int .i64 x1.Width, .int .i32 x1.Rune, .bool x1.Broken] 89, cells b11 [.int .i64 x1.At, .int .u8 0, .int .i32 x1.Rune, .slice none 0 0, .slice none 0 0] 73, vec (encI (.i32)) 21 1 (.slice none 0 0) ([] : List Int)]
       refine TO.newVec (enc := (encI (.i32))) (e := 21) (size := 1) ?_
       show TO _ _ _ _ _ _ _ _ _ _ [cells b1 [.string s1] 9, cells b5 [.map (some b4)] 63, mapA (fun n : Int => Value.int .i32 n) (fun p : Gfold_pair => Value.agg #[.int .i32 p.e0, .int .i32 p.e1]) b4 r1.2, cells b6 [hd4.v] 70, vecN encN_Gfold_unit nest_Gfold_unit 73 5 hd4.v l4, cells jb1 [.int .i64 x1.At, .int .i64 x1.Width, .int .i32 x1.Rune, .bool x1.Broken] 89, cells b11 [.int .i64 x1.At, .int .u8 0, .int .i32 x1.Rune, .slice none 0 0, .slice none 0 0] 73, vec (encI (.i32)) 21 1 (.slice none 0 0) ([] : List Int), vec (encI (.i32)) 21 1 (.slice none 0 0) ([] : List Int)]
       obtain ⟨r5, hq9, h⟩ := andE h
       refine TO.callK (v := .bool r5) (vs := [.agg #[.int .i64 x1.At, .int .u8 0, .int .i32 x1.Rune, .slice none 0 0, .slice none 0 0]]) rfl dc rfl rfl rfl en_52 (fold_unit_letter_fn (u1 := (⟨x1.At, 0, x1.Rune, ([] : List Int), ([] : List Int)⟩ : Gfold_unit)) (u1_h0 := Hd.nil) (u1_h1 := Hd.nil) hq9) [7, 8] kr rfl (TO.nil (TX.next ?_))
       refine TC.condB rfl (fun hb5 => ?_) (fun hb5 => ?_)
       ·
        have h := condT hb5 h
        refine TC.seq (TC.region (TO.load (k := 1) sc_63 rfl dc rfl rfl rfl (TO.fieldAddr fl_89_2 rfl dc rfl (show _ = 2 from rfl) (TO.load (k := 5) sc_21 rfl dc rfl rfl rfl ?_))))
        obtain ⟨r6, hq10, h⟩ := andE h
        refine TO.call (vs := [.map (some b4), .int .i32 x1.Rune]) rfl dc rfl rfl rfl en_44 (fold_parted_fn hq10) (Splits.of [2] kr rfl) ?_
        rintro v2
        show TO _ _ _ _ _ _ _ _ _ _ [cells b1 [.string s1] 9, cells b5 [.map (some b4)] 63, emp, cells b6 [hd4.v] 70, vecN encN_Gfold_unit nest_Gfold_unit 73 5 hd4.v l4, cells jb1 [.int .i64 x1.At, .int .i64 x1.Width, .int .i32 x1.Rune, .bool x1.Broken] 89, cells b11 [.int .i64 x1.At, .int .u8 0, .int .i32 x1.Rune, .slice none 0 0, .slice none 0 0] 73, vec (encI (.i32)) 21 1 (.slice none 0 0) ([] : List Int), vec (encI (.i32)) 21 1 (.slice none 0 0) ([] : List Int), mapA (fun n : Int => Value.int .i32 n) (fun p : Gfold_pair => Value.agg #[.int .i32 p.e0, .int .i32 p.e1]) b4 r1.2, vec (encI (.i32)) 21 1 v2 r6]
        refine TO.weakenL (L' := [cells b1 [.string s1] 9, cells b5 [.map (some b4)] 63, mapA (fun n : Int => Value.int .i32 n) (fun p : Gfold_pair => Value.agg #[.int .i32 p.e0, .int .i32 p.e1]) b4 r1.2, cells b6 [hd4.v] 70, vecN encN_Gfold_unit nest_Gfold_unit 73 5 hd4.v l4, cells jb1 [.int .i64 x1.At, .int .i64 x1.Width, .int .i32 x1.Rune, .bool x1.Broken] 89, cells b11 [.int .i64 x1.At, .int .u8 0, .int .i32 x1.Rune, .slice none 0 0, .slice none 0 0] 73, vec (encI (.i32)) 21 1 (.slice none 0 0) ([] : List Int), vec (encI (.i32)) 21 1 (.slice none 0 0) ([] : List Int), vec (encI (.i32)) 21 1 v2 r6]) (Splits.of [0, 1, 9, 3, 4, 5, 6, 7, 8, 10] kr rfl) ?_
        refine TO.nameHd (k := 9) rfl (fun hd10 he2 => ?_)
        subst he2
        refine TO.assign rfl dc rfl (TO.nil (TX.next (TC.seq (TC.region (TO.move rfl dc rfl ?_)))))
        obtain ⟨q1, hq11, h⟩ := andE h
        refine TO.indexVecI (k := 9) hq11 Try.underlying25 sz_21 rfl dc rfl rfl rfl rfl (TO.loadVec (i := (0 : Int).toNat) (j := 0) (k := 9) (q := q1) sc_21 encI_len rfl dc rfl rfl (getO_get hq11) rfl dc rfl (TO.fieldAddr fl_73_2 rfl dc rfl (show _ = 2 from rfl) ?_))
        refine TO.store (k := 6) (l' := [.int .i64 x1.At, .int .u8 0, .int .i32 q1, .slice none 0 0, .slice none 0 0]) sz_21 rfl rfl rfl rfl rfl (fun _ _ => rfl) rfl ?_
        refine TO.nil (TX.next (TC.seq (TC.region (TO.move rfl dc rfl ?_))))
        refine TO.vecVw (k := 9) rfl (fun hw1 => ?_)
        obtain ⟨hg5, h⟩ := grdE h
        obtain ⟨v3, hv1, hs1⟩ := slice_Vw (lo := some (.int .i64 1)) (hi := none) hw1 Try.underlying25 sz_21 (.inr rfl) (.inl ⟨rfl, rfl⟩) hg5
        refine TO.slice rfl dc rfl rfl rfl hs1 (TO.lenVw hv1 rfl dc rfl Try.underlying25 (TO.move rfl dc rfl (TO.nil (TX.next (TC.block (TC.newVec (enc := (encI (.i32))) (e := 21) (size := 1) ?_))))))
        show TC _ _ _ _ _ _ _ _ _ [cells b1 [.string s1] 9, cells b5 [.map (some b4)] 63, mapA (fun n : Int => Value.int .i32 n) (fun p : Gfold_pair => Value.agg #[.int .i32 p.e0, .int .i32 p.e1]) b4 r1.2, cells b6 [hd4.v] 70, vecN encN_Gfold_unit nest_Gfold_unit 73 5 hd4.v l4, cells jb1 [.int .i64 x1.At, .int .i64 x1.Width, .int .i32 x1.Rune, .bool x1.Broken] 89, cells b11 [.int .i64 x1.At, .int .u8 0, .int .i32 q1, .slice none 0 0, .slice none 0 0] 73, vec (encI (.i32)) 21 1 (.slice none 0 0) ([] : List Int), vec (encI (.i32)) 21 1 (.slice none 0 0) ([] : List Int), vec (encI (.i32)) 21 1 hd10.v r6, vec (encI (.i32)) 21 1 (.slice none 0 0) ([] : List Int)]
        refine TC.newVec (enc := (encI (.i32))) (e := 21) (size := 1) ?_
        show TC _ _ _ _ _ _ _ _ _ [cells b1 [.string s1] 9, cells b5 [.map (some b4)] 63, mapA (fun n : Int => Value.int .i32 n) (fun p : Gfold_pair => Value.agg #[.int .i32 p.e0, .int .i32 p.e1]) b4 r1.2, cells b6 [hd4.v] 70, vecN encN_Gfold_unit nest_Gfold_unit 73 5 hd4.v l4, cells jb1 [.int .i64 x1.At, .int .i64 x1.Width, .int .i32 x1.Rune, .bool x1.Broken] 89, cells b11 [.int .i64 x1.At, .int .u8 0, .int .i32 q1, (.slice none 0 0), .slice none 0 0] 73, vec (encI (.i32)) 21 1 (.slice none 0 0) ([] : List Int), vec (encI (.i32)) 21 1 (.slice none 0 0) ([] : List Int), vec (encI (.i32)) 21 1 hd10.v r6, vec (encI (.i32)) 21 1 (.slice none 0 0) ([] : List Int), vec (encI (.i32)) 21 1 (.slice none 0 0) ([] : List Int)]
        refine TC.loopD (β := Nat × Int × Int × Int × (List Int) × (List Int) × Int × Hd × Hd) (fun b => loopG (fun _ _ _ _ _ _ => none) (fold_units_s2 j3 r6) b.1 b.2.1 b.2.2.1 b.2.2.2.1 b.2.2.2.2.1 b.2.2.2.2.2.1 b.2.2.2.2.2.2.1 = some r) (fun b => []) (fun b => [(1, .pointer (some ⟨b1, 0, none⟩)), (2, .slice none 0 0), (4, .pointer (some ⟨b5, 0, none⟩)), (5, .pointer (some ⟨b6, 0, none⟩)), (8, .pointer (some ⟨b11, 0, none⟩)), (17, .func (.func 81) #[] #[.pointer (some ⟨b7, 0, none⟩)]), (72, v3), (73, .int .i64 ((cutL r6 1 (r6.length : Int)).length : Int)), (74, .int .i64 b.2.2.2.2.2.2.1)]) (fun b => [cells b1 [.string s1] 9, cells b5 [.map (some b4)] 63, mapA (fun n : Int => Value.int .i32 n) (fun p : Gfold_pair => Value.agg #[.int .i32 p.e0, .int .i32 p.e1]) b4 r1.2, cells b6 [hd4.v] 70, vecN encN_Gfold_unit nest_Gfold_unit 73 5 hd4.v l4, cells b11 [.int .i64 b.2.1, .int .u8 b.2.2.1, .int .i32 b.2.2.2.1, b.2.2.2.2.2.2.2.1.v, b.2.2.2.2.2.2.2.2.v] 73, vec (encI (.i32)) 21 1 b.2.2.2.2.2.2.2.1.v b.2.2.2.2.1, vec (encI (.i32)) 21 1 b.2.2.2.2.2.2.2.2.v b.2.2.2.2.2.1, vec (encI (.i32)) 21 1 hd10.v r6]) (fun b => b.1) (fuel, x1.At, 0, q1, ([] : List Int), ([] : List Int), 0, Hd.nil, Hd.nil) h rfl (Sbs.cons rfl (Sbs.cons rfl (Sbs.cons rfl (Sbs.cons rfl (Sbs.cons rfl (Sbs.cons rfl (Sbs.cons rfl (Sbs.cons rfl (Sbs.cons rfl (Sbs.nil)))))))))) (Splits.of [0, 1, 2, 3, 4, 6, 10, 11, 9] kr rfl) ?_
        rintro ⟨n1, u23, u24, u25, u26, u27, x6, hd16, hd17⟩ h
        cases n1 with
        | zero => exact noneE h
        | succ n1 =>
         obtain ⟨ag2, hag2⟩ : ∃ ag, ag = loopG (fun _ _ _ _ _ _ => none) (fold_units_s2 j3 r6) n1 := ⟨_, rfl⟩
         have h : fold_units_s2 j3 r6 ag2 u23 u24 u25 u26 u27 x6 = some r := by rw [hag2]; exact h
         unfold fold_units_s2 at h
         show TC _ _ _ _ _ ([]) _ _ [(1, .pointer (some ⟨b1, 0, none⟩)), (2, .slice none 0 0), (4, .pointer (some ⟨b5, 0, none⟩)), (5, .pointer (some ⟨b6, 0, none⟩)), (8, .pointer (some ⟨b11, 0, none⟩)), (17, .func (.func 81) #[] #[.pointer (some ⟨b7, 0, none⟩)]), (72, v3), (73, .int .i64 ((cutL r6 1 (r6.length : Int)).length : Int)), (74, .int .i64 x6)] [cells b1 [.string s1] 9, cells b5 [.map (some b4)] 63, mapA (fun n : Int => Value.int .i32 n) (fun p : Gfold_pair => Value.agg #[.int .i32 p.e0, .int .i32 p.e1]) b4 r1.2, cells b6 [hd4.v] 70, vecN encN_Gfold_unit nest_Gfold_unit 73 5 hd4.v l4, cells b11 [.int .i64 u23, .int .u8 u24, .int .i32 u25, hd16.v, hd17.v] 73, vec (encI (.i32)) 21 1 hd16.v u26, vec (encI (.i32)) 21 1 hd17.v u27, vec (encI (.i32)) 21 1 hd10.v r6]
         refine TC.seq (TC.region (TO.bin rfl dc rfl rfl bin_lss (TO.nil (TX.next (TC.seq ?_)))))
         refine TC.condB rfl (fun hb6 => ?_) (fun hb6 => ?_)
         ·
          have h := condT hb6 h
          refine TC.skip (TX.next (TC.seq (TC.block (TC.seq (TC.region ?_)))))
          obtain ⟨q2, hq12, h⟩ := andE h
          refine TO.indexVw hv1 hq12 Try.underlying25 sz_21 rfl dc rfl rfl rfl (TO.loadVec (i := 0 + (1 : Int).toNat + (x6 : Int).toNat) (j := 0) (k := 8) (q := q2) sc_21 encI_len rfl dc rfl rfl (Vw.get hv1 hq12) rfl dc rfl (TO.assign rfl dc rfl (TO.nil (TX.next (TC.region (TO.move rfl dc rfl (TO.toVec (enc := encN_Gfold_unit) [((⟨u23, u24, u25, u26, u27⟩ : Gfold_unit), (hd16, hd17))] (k := 5) rfl encN_Gfold_unit_len rfl (show 1 ≤ maxLen by decide) ?_)))))))
          show TO _ _ _ _ _ _ _ _ _ _ [cells b1 [.string s1] 9, cells b5 [.map (some b4)] 63, mapA (fun n : Int => Value.int .i32 n) (fun p : Gfold_pair => Value.agg #[.int .i32 p.e0, .int .i32 p.e1]) b4 r1.2, cells b6 [hd4.v] 70, vecN encN_Gfold_unit nest_Gfold_unit 73 5 hd4.v l4, vec encN_Gfold_unit 73 5 (.slice (some ⟨b11, 0, none⟩) 1 1) [((⟨u23, u24, u25, u26, u27⟩ : Gfold_unit), (hd16, hd17))], vec (encI (.i32)) 21 1 hd16.v u26, vec (encI (.i32)) 21 1 hd17.v u27, vec (encI (.i32)) 21 1 hd10.v r6]
          obtain ⟨r7, hq13, h⟩ := andE h
          refine TO.call (vs := [.pointer (some ⟨b11, 0, none⟩), .int .i32 q2]) rfl dc rfl rfl rfl en_68 (fold_unit_mark_fn (vu1 := (.slice (some ⟨b11, 0, none⟩) 1 1)) (u1 := (⟨u23, u24, u25, u26, u27⟩ : Gfold_unit)) (u1_h0 := hd16) (u1_h1 := hd17) (show [((⟨u23, u24, u25, u26, u27⟩ : Gfold_unit), (hd16, hd17))][0]? = some ((⟨u23, u24, u25, u26, u27⟩ : Gfold_unit), (hd16, hd17)) from rfl) hq13) (Splits.of [5, 6, 7] kr rfl) ?_
          rintro ⟨hd18, hd19⟩
          show TO _ _ _ _ _ _ _ _ _ _ [cells b1 [.string s1] 9, cells b5 [.map (some b4)] 63, mapA (fun n : Int => Value.int .i32 n) (fun p : Gfold_pair => Value.agg #[.int .i32 p.e0, .int .i32 p.e1]) b4 r1.2, cells b6 [hd4.v] 70, vecN encN_Gfold_unit nest_Gfold_unit 73 5 hd4.v l4, emp, emp, emp, vec (encI (.i32)) 21 1 hd10.v r6, vec encN_Gfold_unit 73 5 (.slice (some ⟨b11, 0, none⟩) 1 1) [(r7, (hd18, hd19))], vec (encI (.i32)) 21 1 hd18.v r7.low, vec (encI (.i32)) 21 1 hd19.v r7.high]
          refine TO.weakenL (L' := [cells b1 [.string s1] 9, cells b5 [.map (some b4)] 63, mapA (fun n : Int => Value.int .i32 n) (fun p : Gfold_pair => Value.agg #[.int .i32 p.e0, .int .i32 p.e1]) b4 r1.2, cells b6 [hd4.v] 70, vecN encN_Gfold_unit nest_Gfold_unit 73 5 hd4.v l4, vec encN_Gfold_unit 73 5 (.slice (some ⟨b11, 0, none⟩) 1 1) [(r7, (hd18, hd19))], emp, emp, vec (encI (.i32)) 21 1 hd10.v r6, vec (encI (.i32)) 21 1 hd18.v r7.low, vec (encI (.i32)) 21 1 hd19.v r7.high]) (Splits.of [0, 1, 2, 3, 4, 9, 6, 7, 8, 10, 11] kr rfl) ?_
          refine TO.ent (k := 5) rfl (boxE encN_Gfold_unit_len) ?_
          show TO _ _ _ _ _ _ _ _ _ _ [cells b1 [.string s1] 9, cells b5 [.map (some b4)] 63, mapA (fun n : Int => Value.int .i32 n) (fun p : Gfold_pair => Value.agg #[.int .i32 p.e0, .int .i32 p.e1]) b4 r1.2, cells b6 [hd4.v] 70, vecN encN_Gfold_unit nest_Gfold_unit 73 5 hd4.v l4, cells b11 [.int .i64 r7.at_, .int .u8 r7.broken, .int .i32 r7.base, hd18.v, hd19.v] 73, emp, emp, vec (encI (.i32)) 21 1 hd10.v r6, vec (encI (.i32)) 21 1 hd18.v r7.low, vec (encI (.i32)) 21 1 hd19.v r7.high]
          refine TO.nil (TX.blockNormal (TX.next (TC.region ?_)))
          obtain ⟨hg6, h⟩ := grdE h
          refine TO.bin rfl dc rfl rfl (bin_add (r := x6 + 1) (IntWalk.i64_in _ hg6)) (TO.move rfl dc rfl (TO.nil ?_))
          subst hag2
          exact TX.againD (n1, r7.at_, r7.broken, r7.base, r7.low, r7.high, x6 + 1, hd18, hd19) h (Nat.lt_succ_self _) rfl (Sbs.cons rfl (Sbs.cons rfl (Sbs.cons rfl (Sbs.cons rfl (Sbs.cons rfl (Sbs.cons rfl (Sbs.cons rfl (Sbs.cons rfl (Sbs.cons rfl (Sbs.nil)))))))))) (Splits.of [0, 1, 2, 3, 4, 5, 9, 10, 8] kr rfl)
         ·
          have h := condF hb6 h
          refine TC.exit (TX.thenExit (TX.thenExit (TX.blockHere ?_)))
          exact TX.meetD (u23, u24, u25, u26, u27, b11, hd16, hd17) h rfl (Sbs.cons rfl (Sbs.cons rfl (Sbs.cons rfl (Sbs.cons rfl (Sbs.cons rfl (Sbs.cons rfl (Sbs.nil))))))) (Splits.of [0, 1, 2, 3, 4, 5, 6, 7] kr rfl)
       ·
        have h := condF hb5 h
        refine TC.skip (TX.newVec (enc := (encI (.i32))) (e := 21) (size := 1) ?_)
        show TX _ _ _ _ _ _ _ [cells b1 [.string s1] 9, cells b5 [.map (some b4)] 63, mapA (fun n : Int => Value.int .i32 n) (fun p : Gfold_pair => Value.agg #[.int .i32 p.e0, .int .i32 p.e1]) b4 r1.2, cells b6 [hd4.v] 70, vecN encN_Gfold_unit nest_Gfold_unit 73 5 hd4.v l4, cells jb1 [.int .i64 x1.At, .int .i64 x1.Width, .int .i32 x1.Rune, .bool x1.Broken] 89, cells b11 [.int .i64 x1.At, .int .u8 0, .int .i32 x1.Rune, .slice none 0 0, .slice none 0 0] 73, vec (encI (.i32)) 21 1 (.slice none 0 0) ([] : List Int), vec (encI (.i32)) 21 1 (.slice none 0 0) ([] : List Int), vec (encI (.i32)) 21 1 (.slice none 0 0) ([] : List Int)]
        refine TX.newVec (enc := (encI (.i32))) (e := 21) (size := 1) ?_
        show TX _ _ _ _ _ _ _ [cells b1 [.string s1] 9, cells b5 [.map (some b4)] 63, mapA (fun n : Int => Value.int .i32 n) (fun p : Gfold_pair => Value.agg #[.int .i32 p.e0, .int .i32 p.e1]) b4 r1.2, cells b6 [hd4.v] 70, vecN encN_Gfold_unit nest_Gfold_unit 73 5 hd4.v l4, cells jb1 [.int .i64 x1.At, .int .i64 x1.Width, .int .i32 x1.Rune, .bool x1.Broken] 89, cells b11 [.int .i64 x1.At, .int .u8 0, .int .i32 x1.Rune, (.slice none 0 0), .slice none 0 0] 73, vec (encI (.i32)) 21 1 (.slice none 0 0) ([] : List Int), vec (encI (.i32)) 21 1 (.slice none 0 0) ([] : List Int), vec (encI (.i32)) 21 1 (.slice none 0 0) ([] : List Int), vec (encI (.i32)) 21 1 (.slice none 0 0) ([] : List Int)]
        exact TX.meetD (x1.At, 0, x1.Rune, ([] : List Int), ([] : List Int), b11, Hd.nil, Hd.nil) h rfl (Sbs.cons rfl (Sbs.cons rfl (Sbs.cons rfl (Sbs.cons rfl (Sbs.cons rfl (Sbs.cons rfl (Sbs.nil))))))) (Splits.of [0, 1, 2, 3, 4, 6, 9, 10] kr rfl)
      ·
       rintro ⟨u1, u2, u3, u4, u5, b10, hd8, hd9⟩ h
       rw [hj3] at h
       show TC _ _ _ _ _ ([]) _ _ [(1, .pointer (some ⟨b1, 0, none⟩)), (2, .slice none 0 0), (4, .pointer (some ⟨b5, 0, none⟩)), (5, .pointer (some ⟨b6, 0, none⟩)), (8, .pointer (some ⟨b10, 0, none⟩)), (17, .func (.func 81) #[] #[.pointer (some ⟨b7, 0, none⟩)])] [cells b1 [.string s1] 9, cells b5 [.map (some b4)] 63, mapA (fun n : Int => Value.int .i32 n) (fun p : Gfold_pair => Value.agg #[.int .i32 p.e0, .int .i32 p.e1]) b4 r1.2, cells b6 [hd4.v] 70, vecN encN_Gfold_unit nest_Gfold_unit 73 5 hd4.v l4, cells b10 [.int .i64 u1, .int .u8 u2, .int .i32 u3, hd8.v, hd9.v] 73, vec (encI (.i32)) 21 1 hd8.v u4, vec (encI (.i32)) 21 1 hd9.v u5]
       refine TC.region (TO.load (k := 3) sc_70 rfl dc rfl rfl rfl (TO.loads (k := 5) (cs := [.int .i64 u1, .int .u8 u2, .int .i32 u3, hd8.v, hd9.v]) rw_73 rfl dc rfl rfl rfl rfl ?_))
       refine TO.buildSlice (cs := [.int .i64 u1, .int .u8 u2, .int .i32 u3, hd8.v, hd9.v]) (te := 73) (ps := [(0, .tmp 82)]) rfl dc rfl (fun _ => by kernel_rfl) (fun b12 => ?_)
       refine TO.unfold1 (k := 4) rfl openE (fun zs3 hz3 => ?_)
       show TO _ _ _ _ _ _ _ _ _ _ [cells b1 [.string s1] 9, cells b5 [.map (some b4)] 63, mapA (fun n : Int => Value.int .i32 n) (fun p : Gfold_pair => Value.agg #[.int .i32 p.e0, .int .i32 p.e1]) b4 r1.2, cells b6 [hd4.v] 70, vec encN_Gfold_unit 73 5 hd4.v zs3, cells b10 [.int .i64 u1, .int .u8 u2, .int .i32 u3, hd8.v, hd9.v] 73, vec (encI (.i32)) 21 1 hd8.v u4, vec (encI (.i32)) 21 1 hd9.v u5, cells b12 [.int .i64 u1, .int .u8 u2, .int .i32 u3, hd8.v, hd9.v] 73, own nest_Gfold_unit zs3]
       obtain ⟨hg7, h⟩ := grdE h
       refine TO.appendVec (k := 4) (k2 := 8) (ys := [((⟨u1, u2, u3, u4, u5⟩ : Gfold_unit), (hd8, hd9))]) Try.underlying70 el_73 encN_Gfold_unit_len encN_Gfold_unit_one rfl dc rfl rfl rfl rfl rfl rfl (by rw [zlen hz3]; exact hg7) (fun v4 => ?_)
       show TO _ _ _ _ _ _ _ _ _ _ [cells b1 [.string s1] 9, cells b5 [.map (some b4)] 63, mapA (fun n : Int => Value.int .i32 n) (fun p : Gfold_pair => Value.agg #[.int .i32 p.e0, .int .i32 p.e1]) b4 r1.2, cells b6 [hd4.v] 70, vec encN_Gfold_unit 73 5 v4 (zs3 ++ [((⟨u1, u2, u3, u4, u5⟩ : Gfold_unit), (hd8, hd9))]), cells b10 [.int .i64 u1, .int .u8 u2, .int .i32 u3, hd8.v, hd9.v] 73, vec (encI (.i32)) 21 1 hd8.v u4, vec (encI (.i32)) 21 1 hd9.v u5, cells b12 [.int .i64 u1, .int .u8 u2, .int .i32 u3, hd8.v, hd9.v] 73, own nest_Gfold_unit zs3]
       refine TO.nameHd (k := 4) rfl (fun hd20 he3 => ?_)
       subst he3
       refine TO.fold1 (k := 9) rfl (Splits.of [6, 7] kr rfl) rfl (ownApp (nest := nest_Gfold_unit) (zs := zs3) (z := ((⟨u1, u2, u3, u4, u5⟩ : Gfold_unit), (hd8, hd9)))) ?_
       show TO _ _ _ _ _ _ _ _ _ _ [cells b1 [.string s1] 9, cells b5 [.map (some b4)] 63, mapA (fun n : Int => Value.int .i32 n) (fun p : Gfold_pair => Value.agg #[.int .i32 p.e0, .int .i32 p.e1]) b4 r1.2, cells b6 [hd4.v] 70, vec encN_Gfold_unit 73 5 hd20.v (zs3 ++ [((⟨u1, u2, u3, u4, u5⟩ : Gfold_unit), (hd8, hd9))]), cells b10 [.int .i64 u1, .int .u8 u2, .int .i32 u3, hd8.v, hd9.v] 73, emp, emp, cells b12 [.int .i64 u1, .int .u8 u2, .int .i32 u3, hd8.v, hd9.v] 73, own nest_Gfold_unit (zs3 ++ [((⟨u1, u2, u3, u4, u5⟩ : Gfold_unit), (hd8, hd9))])]
       refine TO.fold1 (k := 4) rfl (Splits.of [9] kr rfl) rfl (closeE (enc := encN_Gfold_unit) (nest := nest_Gfold_unit) (zapp hz3)) ?_
       show TO _ _ _ _ _ _ _ _ _ _ [cells b1 [.string s1] 9, cells b5 [.map (some b4)] 63, mapA (fun n : Int => Value.int .i32 n) (fun p : Gfold_pair => Value.agg #[.int .i32 p.e0, .int .i32 p.e1]) b4 r1.2, cells b6 [hd4.v] 70, vecN encN_Gfold_unit nest_Gfold_unit 73 5 hd20.v (l4 ++ [(⟨u1, u2, u3, u4, u5⟩ : Gfold_unit)]), cells b10 [.int .i64 u1, .int .u8 u2, .int .i32 u3, hd8.v, hd9.v] 73, emp, emp, cells b12 [.int .i64 u1, .int .u8 u2, .int .i32 u3, hd8.v, hd9.v] 73, emp]
       refine TO.weakenL (L' := [cells b1 [.string s1] 9, cells b5 [.map (some b4)] 63, mapA (fun n : Int => Value.int .i32 n) (fun p : Gfold_pair => Value.agg #[.int .i32 p.e0, .int .i32 p.e1]) b4 r1.2, cells b6 [hd4.v] 70, vecN encN_Gfold_unit nest_Gfold_unit 73 5 hd20.v (l4 ++ [(⟨u1, u2, u3, u4, u5⟩ : Gfold_unit)]), cells b10 [.int .i64 u1, .int .u8 u2, .int .i32 u3, hd8.v, hd9.v] 73, emp, emp, cells b12 [.int .i64 u1, .int .u8 u2, .int .i32 u3, hd8.v, hd9.v] 73]) (Splits.of [0, 1, 2, 3, 4, 5, 6, 7, 8] kr rfl) ?_
       refine TO.store (k := 3) (l' := [hd20.v]) sz_70 rfl rfl rfl rfl rfl (fun _ _ => rfl) rfl ?_
       show TO _ _ _ _ _ _ _ _ _ _ [cells b1 [.string s1] 9, cells b5 [.map (some b4)] 63, mapA (fun n : Int => Value.int .i32 n) (fun p : Gfold_pair => Value.agg #[.int .i32 p.e0, .int .i32 p.e1]) b4 r1.2, cells b6 [hd20.v] 70, vecN encN_Gfold_unit nest_Gfold_unit 73 5 hd20.v (l4 ++ [(⟨u1, u2, u3, u4, u5⟩ : Gfold_unit)]), cells b10 [.int .i64 u1, .int .u8 u2, .int .i32 u3, hd8.v, hd9.v] 73, emp, emp, cells b12 [.int .i64 u1, .int .u8 u2, .int .i32 u3, hd8.v, hd9.v] 73]
       refine TO.nil (TX.blockNormal ?_)
       exact TX.round (l4 ++ [(⟨u1, u2, u3, u4, u5⟩ : Gfold_unit)], hd20) (fun post2 e2 => by have e9 := snoc_post hxs1 e2; subst e9; subst hag1; exact h) (Splits.of [0, 1, 2, 3, 4] kr rfl)
   ·
    rintro dm1 ⟨l4, hd4⟩ hinv
    have h : d1 l4 = some r := hinv [] (List.append_nil _).symm
    rw [hd1] at h
    show TX _ _ _ _ _ _ _ [star ((([] : List Nat) : List Nat).map mark), emp, mapA (fun p : Gfold_pair => Value.agg #[.int .i32 p.e0, .int .i32 p.e1]) (fun n : Int => Value.int .i32 n) b3 r1.1, emp, emp, emp, cells b7 [.string r2] 9, emp, cells b1 [.string s1] 9, cells b5 [.map (some b4)] 63, mapA (fun n : Int => Value.int .i32 n) (fun p : Gfold_pair => Value.agg #[.int .i32 p.e0, .int .i32 p.e1]) b4 r1.2, cells b6 [hd4.v] 70, vecN encN_Gfold_unit nest_Gfold_unit 73 5 hd4.v l4, mark dm1]
    refine TX.starCons (k := 13) (j := 0) rfl rfl dc ?_
    show TX _ _ _ _ _ _ _ [star ((dm1 :: ([] : List Nat) : List Nat).map mark), emp, mapA (fun p : Gfold_pair => Value.agg #[.int .i32 p.e0, .int .i32 p.e1]) (fun n : Int => Value.int .i32 n) b3 r1.1, emp, emp, emp, cells b7 [.string r2] 9, emp, cells b1 [.string s1] 9, cells b5 [.map (some b4)] 63, mapA (fun n : Int => Value.int .i32 n) (fun p : Gfold_pair => Value.agg #[.int .i32 p.e0, .int .i32 p.e1]) b4 r1.2, cells b6 [hd4.v] 70, vecN encN_Gfold_unit nest_Gfold_unit 73 5 hd4.v l4, emp]
    refine TX.blockNormal ?_
    exact TX.meetD (l4, b6, hd4, dm1 :: ([] : List Nat)) h rfl (Sbs.cons rfl (Sbs.nil)) (Splits.of [11, 12, 0] kr rfl)
   ·
    rintro dm1 c pre x1 post g hxs hX
    exact (show False from hX).elim
  ·
   rintro ⟨l1, b2, hd1, ds1⟩ h
   rw [hj1] at h
   show TC _ _ _ _ _ (marksOf ds1) _ _ [(5, .pointer (some ⟨b2, 0, none⟩))] [cells b2 [hd1.v] 70, vecN encN_Gfold_unit nest_Gfold_unit 73 5 hd1.v l1, star ((ds1 : List Nat).map mark)]
   refine TC.seq (TC.region (TO.load (k := 0) sc_70 rfl dc rfl rfl rfl (TO.assign rfl dc rfl (TO.nil (TX.next (TC.ret (TX.jumpOn (by simp) ?_)))))))
   cases h
   exact TX.finM (rs := [.tmp 2]) ds1 hd1.v (.inl rfl) (Splits.open0 (k := 2) rfl) Try.results45 (.cons (.tmp rfl) .nil) rfl (Splits.of [1] kr rfl)
 ·
  exact fun b hb => hb.elim
end Go.Proofs.Ythjkafeklflgbaa
namespace Go.Proofs.Ythjkafeklflgbaa
open Go.RowKit Go.Lib
set_option linter.unusedVariables false
set_option linter.unusedSimpArgs false
theorem rg_inv {R A X : Type} {step : X → (A → Option R) → A → Option R} {f : A → X → A} {K : A → Option R} (Inv : Nat → A → Prop) (hI : ∀ k x a, Inv k a → Inv (k + 1) (f a x)) : ∀ (xs : List X) (k : Nat) (a : A), Inv k a → (∀ x ∈ xs, ∀ (j : Nat) ag a, j < k + xs.length → Inv j a → step x ag a = ag (f a x)) → rangeG K step xs a = K (xs.foldl f a)
  | [], k, a, _, _ => rfl
  | x :: xs, k, a, h, hs => by
    rw [rangeG_cons, hs x (List.mem_cons_self ..) k _ a (by simp) h, rg_inv Inv hI xs (k + 1) (f a x) (hI k x a h) (fun y hy j ag a hj hi => hs y (List.mem_cons_of_mem _ hy) j ag a (by simp; omega) hi)]; rfl
def byte0 (b : ByteArray) : Int := ((b.data.toList.headD 0).toNat : Int)
def toU (c : Itm × List Itm) : Gfold_unit := if c.1.Rune < 0 then ⟨c.1.At, byte0 c.1.Text, -1, [], []⟩ else ⟨c.1.At, 0, c.1.Rune, (loI c.2).map (·.Rune), (hiI c.2).map (·.Rune)⟩
def markU (u : Gfold_unit) (r : Int) : Gfold_unit := if lowR r then ⟨u.at_, u.broken, u.base, u.low ++ [r], u.high⟩ else ⟨u.at_, u.broken, u.base, u.low, u.high ++ [r]⟩
theorem mark_v (u : Gfold_unit) (r : Int) (h1 : u.low.length ≤ 2000000000) (h2 : u.high.length ≤ 2000000000) : fold_unit_mark_v u r = some (markU u r) := by
  unfold fold_unit_mark_v
  refine thenI (low_v r) ?_
  unfold markU
  cases lowR r with
  | true => exact condTI rfl (grdI (by omega) rfl)
  | false => exact condFI rfl (grdI (by omega) rfl)
theorem mark_toU (x : Itm) (hx : 0 ≤ x.Rune) (ms : List Itm) (y : Itm) : markU (toU (x, ms)) y.Rune = toU (x, ms ++ [y]) := by
  unfold markU toU loI hiI
  simp only [if_neg (show ¬ x.Rune < 0 by omega), List.filter_append]
  show (if isLo y then _ else _) = _
  cases h : isLo y <;> simp [h]
/-- The parts' marks, laid by package fold. -/
theorem marks_loop (u : Gfold_unit) (ms : List Int) (r6 : List Int) (b : Int) (hr : r6 = b :: ms) (hl : u.low.length + u.high.length + ms.length ≤ 1000000000) (J : Int → Int → Int → (List Int) → (List Int) → Option (List Gfold_unit)) :
    loopG (fun _ _ _ _ _ _ => none) (fold_units_s2 J r6) fuel u.at_ u.broken u.base u.low u.high 0 = J (ms.foldl markU u).at_ (ms.foldl markU u).broken (ms.foldl markU u).base (ms.foldl markU u).low (ms.foldl markU u).high := by
  have hc : cutL r6 1 (r6.length : Int) = ms := by
    subst hr; unfold cutL; simp
  have key : ∀ (n k : Nat) (u : Gfold_unit), k ≤ ms.length → ms.length - k < n → u.low.length + u.high.length + (ms.length - k) ≤ 1000000000 →
      loopG (fun _ _ _ _ _ _ => none) (fold_units_s2 J r6) n u.at_ u.broken u.base u.low u.high (k : Int) = J ((ms.drop k).foldl markU u).at_ ((ms.drop k).foldl markU u).broken ((ms.drop k).foldl markU u).base ((ms.drop k).foldl markU u).low ((ms.drop k).foldl markU u).high := by
    intro n
    induction n with
    | zero => intro k u _ h; omega
    | succ n ih =>
      intro k u hk hn hb
      rw [loopI]
      generalize loopG (fun _ _ _ _ _ _ => none) (fold_units_s2 J r6) n = ag at ih ⊢
      unfold fold_units_s2
      rw [hc]
      by_cases h : k < ms.length
      · have hx : ms[k]? = some ms[k] := List.getElem?_eq_getElem h
        refine condTI (lp_lt hx) (thenI (lp_get hx) (thenI (mark_v u _ (by omega) (by omega)) (grdI (lp_i64 (by omega)) ?_)))
        have hm : (markU u ms[k]).low.length + (markU u ms[k]).high.length = u.low.length + u.high.length + 1 := by
          unfold markU; split <;> simp <;> omega
        have := ih (k + 1) (markU u ms[k]) (by omega) (by omega) (by omega)
        push_cast at this
        rw [this, List.drop_eq_getElem_cons h]; rfl
      · have : k = ms.length := by omega
        subst this
        exact condFI lp_ge (by rw [List.drop_length]; rfl)
  have := key fuel 0 u (Nat.zero_le _) (by have := big_fuel (n := ms.length) (by omega); omega) (by omega)
  simpa using this
/-- One piece more. -/
def addU (s : ByteArray) (l : List Gfold_unit) (p : Gapi_Piece) : List Gfold_unit :=
  if p.Broken then l ++ [⟨p.At, (getB s p.At).getD 0, -1, [], []⟩]
  else match l.getLast? with
    | some u => if letter u.base && mrk p.Rune then l.set (l.length - 1) (markU u p.Rune) else l ++ [if letter p.Rune then (parts p.Rune).tail.foldl markU ⟨p.At, 0, (parts p.Rune).headD 0, [], []⟩ else ⟨p.At, 0, p.Rune, [], []⟩]
    | none => l ++ [if letter p.Rune then (parts p.Rune).tail.foldl markU ⟨p.At, 0, (parts p.Rune).headD 0, [], []⟩ else ⟨p.At, 0, p.Rune, [], []⟩]
def bigU (k : Nat) (l : List Gfold_unit) : Prop := l.length ≤ k ∧ ∀ u ∈ l, u.low.length + u.high.length ≤ 3 * k ∧ I32 u.base
theorem markU_len (u : Gfold_unit) (r : Int) : (markU u r).low.length + (markU u r).high.length = u.low.length + u.high.length + 1 ∧ (markU u r).base = u.base := by
  unfold markU; split <;> simp <;> omega
theorem marksU_len (ms : List Int) : ∀ u : Gfold_unit, (ms.foldl markU u).low.length + (ms.foldl markU u).high.length = u.low.length + u.high.length + ms.length ∧ (ms.foldl markU u).base = u.base := by
  induction ms with
  | nil => intro u; simp
  | cons m ms ih => intro u; have := ih (markU u m); have h2 := markU_len u m; rw [List.foldl_cons]; simp only [List.length_cons]; constructor; omega; rw [this.2, h2.2]
theorem newU_ok (p : Gapi_Piece) (hp : I32 p.Rune) (k : Nat) : ((if letter p.Rune then (parts p.Rune).tail.foldl markU ⟨p.At, 0, (parts p.Rune).headD 0, [], []⟩ else ⟨p.At, 0, p.Rune, [], []⟩ : Gfold_unit).low.length + (if letter p.Rune then (parts p.Rune).tail.foldl markU ⟨p.At, 0, (parts p.Rune).headD 0, [], []⟩ else ⟨p.At, 0, p.Rune, [], []⟩ : Gfold_unit).high.length ≤ 3 * (k + 1)) ∧ I32 (if letter p.Rune then (parts p.Rune).tail.foldl markU ⟨p.At, 0, (parts p.Rune).headD 0, [], []⟩ else ⟨p.At, 0, p.Rune, [], []⟩ : Gfold_unit).base := by
  cases h : letter p.Rune with
  | false => simp only [Bool.false_eq_true, if_false]; exact ⟨by simp, hp⟩
  | true =>
    simp only [if_true]
    have h1 := marksU_len (parts p.Rune).tail ⟨p.At, 0, (parts p.Rune).headD 0, [], []⟩
    have h2 := parts_len p.Rune
    have h3 : (parts p.Rune).tail.length ≤ 2 := by rw [List.length_tail]; omega
    refine ⟨by rw [h1.1]; simp; omega, ?_⟩
    rw [h1.2]
    have h4 := parts_i32 hp
    cases hq : parts p.Rune with
    | nil => rw [hq] at h2; simp at h2
    | cons b ms => exact h4 b (by rw [hq]; exact List.mem_cons_self ..)
theorem addU_big (s : ByteArray) (k : Nat) (p : Gapi_Piece) (l : List Gfold_unit) (hp : I32 p.Rune) (h : bigU k l) : bigU (k + 1) (addU s l p) := by
  obtain ⟨h1, h2⟩ := h
  have app : ∀ u : Gfold_unit, (u.low.length + u.high.length ≤ 3 * (k + 1) ∧ I32 u.base) → bigU (k + 1) (l ++ [u]) := fun u hu => ⟨by simp; omega, fun v hv => by
    rcases List.mem_append.1 hv with hv | hv
    · have := h2 v hv; exact ⟨by omega, this.2⟩
    · simp at hv; subst hv; exact hu⟩
  unfold addU
  split
  · exact app _ ⟨by simp, (show I32 (-1) from ⟨by omega, by omega⟩)⟩
  · split
    · rename_i u hu
      split
      · have hm := List.mem_of_getLast? hu
        refine ⟨by simp; omega, fun v hv => ?_⟩
        rcases List.mem_or_eq_of_mem_set hv with hv | rfl
        · have := h2 v hv; exact ⟨by omega, this.2⟩
        · have := h2 u hm; have h3 := markU_len u p.Rune; exact ⟨by omega, by rw [h3.2]; exact this.2⟩
      · exact app _ (newU_ok p hp k)
    · exact app _ (newU_ok p hp k)
theorem units_fold (s : ByteArray) (hs : s.size ≤ 65536) : fold_units_v s = some (((pcs s.data.toList).map pcG).foldl (addU s) []) := by
  unfold fold_units_v
  refine joinI (thenI tables_v (thenI (a := s) rfl (thenI (piecesI s (by omega)) (joinI ?_))))
  have hc := pcs_count_le s
  have hr : ∀ p ∈ (pcs s.data.toList).map pcG, I32 p.Rune ∧ (p.Broken = true → getB s p.At = some ((getB s p.At).getD 0)) := by
    intro p hp
    obtain ⟨q, hq, rfl⟩ := List.mem_map.1 hp
    obtain ⟨g1, g2, hok⟩ := pcs_pos s.data.toList q hq
    have hv := hok.valid
    have hlen : s.data.toList.length = s.size := by rw [Array.length_toList]; rfl
    refine ⟨⟨by simp only [pcG]; omega, by simp only [pcG]; omega⟩, fun _ => ?_⟩
    have hw := hok.pos
    rw [show (pcG q).At = (q.i : Int) from rfl, getB_of (n := q.i) rfl (by omega)]; rfl
  have key : ∀ (ps : List Gapi_Piece) (k : Nat) (l : List Gfold_unit), bigU k l → k + ps.length ≤ 65536 → (∀ p ∈ ps, I32 p.Rune ∧ (p.Broken = true → getB s p.At = some ((getB s p.At).getD 0))) → rangeG (some : List Gfold_unit → _) (fold_units_s1 s (tabP, tabS)) ps l = some (ps.foldl (addU s) l) := by
    intro ps
    induction ps with
    | nil => intro k l _ _ _; rfl
    | cons p ps ih =>
      intro k l hb hk hp
      obtain ⟨hp1, hp2⟩ := hp p (List.mem_cons_self ..)
      obtain ⟨hb1, hb2⟩ := hb
      simp only [List.length_cons] at hk
      rw [rangeG_cons, List.foldl_cons, ← ih (k + 1) (addU s l p) (addU_big s k p l hp1 ⟨hb1, hb2⟩) (by omega) (fun q hq => hp q (List.mem_cons_of_mem _ hq))]
      generalize rangeG (some : List Gfold_unit → _) (fold_units_s1 s (tabP, tabS)) ps = ag
      unfold fold_units_s1 addU
      cases hB : p.Broken with
      | true => exact condTI rfl (thenI (hp2 hB) (grdI (by omega) (by simp)))
      | false =>
        simp only [Bool.false_eq_true, if_false]
        refine condFI rfl (joinI ?_)
        have new : (joinK (fun (j3 : Int → Int → Int → (List Int) → (List Int) → Option (List Gfold_unit)) =>
            andThen (fold_unit_letter_v (⟨p.At, 0, p.Rune, ([] : List Int), ([] : List Int)⟩ : Gfold_unit)) fun (r5 : Bool) =>
            bcond (r5) (andThen (fold_parted_v (tabP, tabS).2 p.Rune) fun (r6 : (List Int)) =>
              andThen (getO r6 0) fun (q1 : Int) => grd (0 ≤ (1 : Int) ∧ (1 : Int) ≤ (r6.length : Int) ∧ ((r6.length : Int) : Int) ≤ (r6.length : Int)) <|
              loopG (fun _ _ _ _ _ _ => none) (fold_units_s2 j3 r6) fuel p.At 0 q1 ([] : List Int) ([] : List Int) 0) (j3 p.At 0 p.Rune ([] : List Int) ([] : List Int)))
            (fun (u1 : Int) (u2 : Int) (u3 : Int) (u4 : List Int) (u5 : List Int) => grd (l.length + 1 ≤ 2147483648) <| ag (l ++ [(⟨u1, u2, u3, u4, u5⟩ : Gfold_unit)]))) =
            ag (l ++ [if letter p.Rune then (parts p.Rune).tail.foldl markU ⟨p.At, 0, (parts p.Rune).headD 0, [], []⟩ else ⟨p.At, 0, p.Rune, [], []⟩]) := by
          refine joinI (thenI (letter_v _ hp1) ?_)
          show bcond (letter p.Rune) _ _ = _
          cases hL : letter p.Rune with
          | false => exact condFI rfl (grdI (by omega) (by simp))
          | true =>
            obtain ⟨b, ms, hq, _, _, _, hms⟩ := parts_shape hL
            refine condTI rfl (thenI (parted_v _) (thenI (a := b) (by rw [hq]; rfl) (grdI (by rw [hq]; simp only [List.length_cons]; omega) ?_)))
            refine (marks_loop (⟨p.At, 0, b, [], []⟩ : Gfold_unit) ms (parts p.Rune) b hq (by simp; omega) _).trans (grdI (by omega) ?_)
            rw [hq]; simp
        cases hl : l.getLast? with
        | none =>
          have : l = [] := List.getLast?_eq_none_iff.1 hl
          subst this
          exact condFI (by decide) new
        | some u =>
          have hne : l ≠ [] := by intro h; subst h; cases hl
          have hlen : 0 < l.length := List.length_pos_iff.2 hne
          have hm := List.mem_of_getLast? hl
          have hu := hb2 u hm
          have hg : getO l ((l.length : Int) - 1) = some u := getO_of (n := l.length - 1) (by omega) (by rw [← List.getLast?_eq_getElem?]; exact hl)
          refine condTI (decide_eq_true (by omega)) (grdI ⟨by omega, by omega⟩ (thenI hg (thenI (letter_v u hu.2) ?_)))
          cases hL : letter u.base with
          | false => exact condFI rfl (by simpa [hL] using new)
          | true =>
            refine condTI rfl (grdI hp1 ?_)
            rw [kind2]
            cases hM : mrk p.Rune with
            | false => exact condFI rfl (by simpa [hL, hM] using new)
            | true =>
              refine condTI rfl (grdI ⟨by omega, by omega⟩ (thenI hg (thenI (mark_v u _ (by omega) (by omega)) ?_)))
              simp only [Bool.and_self, if_true]
              rw [show ((l.length : Int) - 1).toNat = l.length - 1 by omega]
              simp [hL]
  have := key ((pcs s.data.toList).map pcG) 0 [] ⟨by simp, by simp⟩ (by simp; omega) hr
  exact this
/-! ### Units are clusters -/
theorem item_of {s : ByteArray} {p : Pc} (hp : p ∈ pcs s.data.toList) : (p.broken = true → (itG s p).Rune = -1 ∧ (itG s p).Text.size = 1 ∧ byte0 (itG s p).Text = (getB s p.i).getD 0) ∧ (p.broken = false → (itG s p).Rune = p.r ∧ (itG s p).Text = Utf8.encode (p.r : Int)) := by
  obtain ⟨g1, g2, hok⟩ := pcs_pos s.data.toList p hp
  have hlen : s.data.toList.length = s.size := by rw [Array.length_toList]; rfl
  have hf := pcs_fit hp
  have hw := hok.pos
  constructor
  · intro hb
    have hw1 : p.w = 1 := by unfold Pc.broken at hb; simp at hb; exact hb.2
    refine ⟨by simp [itG, hb], by simp [itG, hw1]; omega, ?_⟩
    have e : (itG s p).Text.data.toList = (s.data.toList.drop p.i).take p.w := by
      show (s.extract p.i (p.i + p.w)).data.toList = _
      rw [Lib.extract_data]; simp
    unfold byte0
    rw [e, hw1, getB_of (n := p.i) rfl (by omega)]
    have hi : p.i < s.data.toList.length := by omega
    rw [List.drop_eq_getElem_cons hi]
    simp
    rfl
  · intro hb
    refine ⟨by simp [itG, hb], ?_⟩
    have hnb : ¬ (p.r = 65533 ∧ p.w = 1) := by
      unfold Pc.broken at hb; simpa using hb
    apply ByteArray.ext; apply Array.toList_inj.1
    show (s.extract p.i (p.i + p.w)).data.toList = _
    rw [Lib.extract_data]
    have h1 := hok.bytes hnb
    rw [encode_list, h1]
    simp
theorem clF_push (cur : Option (Itm × List Itm)) (x : Itm) (xs : List Itm) (h : ∀ c, cur = some c → (isL c.1 && isM x) = false) : clF cur (x :: xs) = cur.toList ++ clF (some (x, [])) xs := by
  cases cur with
  | none => rfl
  | some c =>
    show (if isL c.1 && isM x then clF (some (c.1, c.2 ++ [x])) xs else c :: clF (some (x, [])) xs) = _
    rw [h c rfl]; rfl
theorem clF_marks (x : Itm) (hx : isL x = true) (xs : List Itm) : ∀ (ms ks : List Itm), (∀ m ∈ ms, isM m = true) → clF (some (x, ks)) (ms ++ xs) = clF (some (x, ks ++ ms)) xs
  | [], ks, _ => by simp
  | m :: ms, ks, h => by
    rw [List.cons_append]
    show (if isL x && isM m then clF (some (x, ks ++ [m])) (ms ++ xs) else _) = _
    rw [hx, h m (List.mem_cons_self ..)]
    simp only [Bool.and_self, if_true]
    rw [clF_marks x hx xs ms (ks ++ [m]) (fun z hz => h z (List.mem_cons_of_mem _ hz))]
    simp
theorem marks_toU (x : Itm) (hx : 0 ≤ x.Rune) : ∀ (ms ks : List Itm), (ms.map (·.Rune)).foldl markU (toU (x, ks)) = toU (x, ks ++ ms)
  | [], ks => by simp
  | m :: ms, ks => by
    rw [List.map_cons, List.foldl_cons, mark_toU x hx, marks_toU x hx ms]; simp
theorem toU_base (c : Itm × List Itm) (h : 0 ≤ c.1.Rune) : (toU c).base = c.1.Rune := by
  unfold toU; rw [if_neg (by omega)]
theorem toU_letter (c : Itm × List Itm) : letter (toU c).base = isL c.1 := by
  unfold toU isL
  split
  · rename_i h
    have h1 : letter (-1) = false := by decide
    have h2 : letter c.1.Rune = false := by
      cases e : letter c.1.Rune with
      | false => rfl
      | true => have := (letter_rng _ e).1; omega
    rw [h2]; exact h1
  · rfl
theorem units_cl (s : ByteArray) : ∀ (ps : List Pc) (cur : Option (Itm × List Itm)) (L : List Gfold_unit), (∀ p ∈ ps, p ∈ pcs s.data.toList) → (cur = none → L = []) →
    (ps.map pcG).foldl (addU s) (L ++ cur.toList.map toU) = L ++ (clF cur (apL (ps.map (itG s)))).map toU
  | [], cur, L, _, _ => by
    cases cur <;> simp [apL, clF]
  | p :: ps, cur, L, hp, hcur => by
    rw [List.map_cons, List.foldl_cons, List.map_cons]
    have hap : apL (itG s p :: ps.map (itG s)) = apI (itG s p) ++ apL (ps.map (itG s)) := by unfold apL; rw [List.flatMap_cons]
    rw [hap]
    obtain ⟨hb1, hb2⟩ := item_of (hp p (List.mem_cons_self ..))
    have tail := fun cur' L' hc => units_cl s ps cur' L' (fun q hq => hp q (List.mem_cons_of_mem _ hq)) hc
    have hv : p.broken = false → 0 ≤ (itG s p).Rune := fun h => by rw [(hb2 h).1]; omega
    -- a new unit
    have new : ∀ (x : Itm) (ms : List Itm), (isL x = false → ms = []) → (∀ m ∈ ms, isM m = true) → (∀ c, cur = some c → (isL c.1 && isM x) = false) → addU s (L ++ cur.toList.map toU) (pcG p) = (L ++ cur.toList.map toU) ++ [toU (x, ms)] → apI (itG s p) = x :: ms →
        (ps.map pcG).foldl (addU s) (addU s (L ++ cur.toList.map toU) (pcG p)) = L ++ (clF cur (apI (itG s p) ++ apL (ps.map (itG s)))).map toU := by
      intro x ms h1 h2 h3 h4 h5
      rw [h4, h5, List.cons_append, clF_push cur x _ h3]
      have h6 : clF (some (x, [])) (ms ++ apL (ps.map (itG s))) = clF (some (x, ms)) (apL (ps.map (itG s))) := by
        cases hx : isL x with
        | true => rw [clF_marks x hx _ ms [] h2]; rfl
        | false => rw [h1 hx]; rfl
      have := tail (some (x, ms)) (L ++ cur.toList.map toU) (by simp)
      rw [show (L ++ cur.toList.map toU) ++ [toU (x, ms)] = (L ++ cur.toList.map toU) ++ (some (x, ms)).toList.map toU from rfl, this, h6]
      simp
    cases hB : p.broken with
    | true =>
      obtain ⟨e1, e2, e3⟩ := hb1 hB
      have hL : isL (itG s p) = false := by unfold isL; rw [e1]; decide
      have hM : isM (itG s p) = false := by unfold isM; rw [e1]; decide
      refine new (itG s p) [] (fun _ => rfl) (by simp) (fun c _ => by rw [hM, Bool.and_false]) ?_ (by unfold apI; rw [hL]; rfl)
      unfold addU
      rw [show (pcG p).Broken = true from hB]
      simp only [if_true]
      have : toU (itG s p, []) = ⟨(itG s p).At, byte0 (itG s p).Text, -1, [], []⟩ := by unfold toU; rw [if_pos (by rw [e1]; omega)]
      rw [this, e3]; rfl
    | false =>
      obtain ⟨e1, e2⟩ := hb2 hB
      have h0 : 0 ≤ (itG s p).Rune := hv hB
      have hpr : (pcG p).Rune = (itG s p).Rune := by rw [e1]; rfl
      -- what the new unit is
      have hnew : ∃ x ms, apI (itG s p) = x :: ms ∧ (isL x = false → ms = []) ∧ (∀ m ∈ ms, isM m = true) ∧ isL x = isL (itG s p) ∧ isM x = isM (itG s p) ∧
          (if letter (pcG p).Rune then (parts (pcG p).Rune).tail.foldl markU ⟨(pcG p).At, 0, (parts (pcG p).Rune).headD 0, [], []⟩ else ⟨(pcG p).At, 0, (pcG p).Rune, [], []⟩) = toU (x, ms) := by
        rw [hpr]
        cases hL : isL (itG s p) with
        | false =>
          have hL' : letter (itG s p).Rune = false := hL
          refine ⟨itG s p, [], by unfold apI; rw [hL]; rfl, fun _ => rfl, by simp, hL, rfl, ?_⟩
          rw [hL']
          unfold toU
          rw [if_neg (show ¬ (itG s p, ([] : List Itm)).1.Rune < 0 by show ¬ (itG s p).Rune < 0; omega)]
          rfl
        | true =>
          have hL' : letter (itG s p).Rune = true := hL
          obtain ⟨b, ms, hq, hb, _, hms, _⟩ := parts_shape hL'
          have hb0 := (letter_rng b hb).1
          refine ⟨⟨b, Utf8.encode b, (itG s p).At⟩, ms.map fun r => ⟨r, Utf8.encode r, (itG s p).At⟩, by unfold apI; rw [hL, hq]; rfl, (fun h => by rw [show isL (⟨b, Utf8.encode b, (itG s p).At⟩ : Itm) = true from hb] at h; cases h), ?_, hb, ?_, ?_⟩
          · intro m hm
            obtain ⟨r, hr, rfl⟩ := List.mem_map.1 hm
            exact hms r hr
          · have hM1 : isM (itG s p) = false := by
              cases e : isM (itG s p) with
              | false => rfl
              | true => have := mrk_not_letter (show mrk (itG s p).Rune = true from e); rw [hL'] at this; cases this
            have hM2 : isM (⟨b, Utf8.encode b, (itG s p).At⟩ : Itm) = false := by
              cases e : isM (⟨b, Utf8.encode b, (itG s p).At⟩ : Itm) with
              | false => rfl
              | true => have := mrk_not_letter (show mrk b = true from e); rw [hb] at this; cases this
            rw [hM1, hM2]
          · rw [hL', hq]
            have := marks_toU ⟨b, Utf8.encode b, (itG s p).At⟩ hb0 (ms.map fun r => ⟨r, Utf8.encode r, (itG s p).At⟩) []
            have hm : (ms.map fun r => (⟨r, Utf8.encode r, (itG s p).At⟩ : Itm)).map (·.Rune) = ms := by rw [List.map_map]; simp [Function.comp_def]
            rw [hm] at this
            rw [List.nil_append] at this
            rw [← this]
            have ht : toU (⟨b, Utf8.encode b, (itG s p).At⟩, []) = ⟨(itG s p).At, 0, b, [], []⟩ := by
              unfold toU; rw [if_neg (show ¬ b < 0 by omega)]; rfl
            rw [ht]; rfl
      obtain ⟨x, ms, ha, hm1, hm2, hm3, hm4, hnew⟩ := hnew
      cases cur with
      | none =>
        have hL := hcur rfl
        subst hL
        refine new x ms hm1 hm2 (fun c h => by cases h) ?_ ha
        unfold addU
        rw [show (pcG p).Broken = false from hB]
        simp only [Bool.false_eq_true, if_false, Option.toList_none, List.map_nil, List.append_nil, List.getLast?_nil]
        rw [hnew]
      | some c =>
        have hlast : (L ++ [toU c]).getLast? = some (toU c) := by simp
        cases hk : (isL c.1 && isM x) with
        | false =>
          refine new x ms hm1 hm2 (fun c' h => by cases h; exact hk) ?_ ha
          show addU s (L ++ [toU c]) (pcG p) = (L ++ [toU c]) ++ [toU (x, ms)]
          unfold addU
          rw [show (pcG p).Broken = false from hB, hlast]
          simp only [Bool.false_eq_true, if_false]
          rw [toU_letter, show mrk (pcG p).Rune = isM x by rw [hm4, hpr]; rfl, hk, hnew]
          simp
        | true =>
          have hk' := hk
          rw [Bool.and_eq_true] at hk'
          have hMx : isM (itG s p) = true := by rw [← hm4]; exact hk'.2
          have hLx : isL (itG s p) = false := mrk_not_letter hMx
          have hax : apI (itG s p) = [itG s p] := by unfold apI; rw [hLx]; rfl
          rw [hax, List.singleton_append]
          have hadd : addU s (L ++ (some c).toList.map toU) (pcG p) = L ++ (some (c.1, c.2 ++ [itG s p])).toList.map toU := by
            show addU s (L ++ [toU c]) (pcG p) = L ++ [toU (c.1, c.2 ++ [itG s p])]
            unfold addU
            rw [show (pcG p).Broken = false from hB, hlast]
            simp only [Bool.false_eq_true, if_false]
            rw [toU_letter, show mrk (pcG p).Rune = isM x by rw [hm4, hpr]; rfl, hk]
            simp only [if_true]
            have h0c : 0 ≤ c.1.Rune := (letter_rng _ hk'.1).1
            rw [hpr, mark_toU c.1 h0c c.2 (itG s p)]
            simp
          rw [hadd, tail _ _ (by simp)]
          congr 2
          show _ = clF (some c) (itG s p :: apL (ps.map (itG s)))
          show _ = (if isL c.1 && isM (itG s p) then clF (some (c.1, c.2 ++ [itG s p])) (apL (ps.map (itG s))) else _)
          rw [hk'.1, hMx]; rfl
/-- The clusters of a text. -/
def clus (s : ByteArray) : List (Itm × List Itm) := cl (apL (itemsP s))
theorem units_v (s : ByteArray) (hs : s.size ≤ 65536) : fold_units_v s = some ((clus s).map toU) := by
  rw [units_fold s hs]
  have := units_cl s (pcs s.data.toList) none [] (fun p hp => hp) (fun _ => rfl)
  simp only [Option.toList_none, List.map_nil, List.append_nil, List.nil_append] at this
  rw [this]; rfl
end Go.Proofs.Ythjkafeklflgbaa
namespace Go.Proofs.Ythjkafeklflgbaa
open Go.RowKit Go.Lib
set_option linter.unusedVariables false
set_option linter.unusedSimpArgs false
def fold_written_plain_s1 (l1 : List Gfold_unit) (j1 : ByteArray → Option ByteArray) (ag1 : ByteArray → Int → Option ByteArray) (b4 : ByteArray) (x3 : Int) : Option ByteArray := bcond (decide ((x3 : Int) < (l1.length : Int))) ( joinK (fun (j2 : ByteArray → Option ByteArray) => andThen (getO l1 x3) fun (x4 : Gfold_unit) => bcond (decide ((x4.base : Int) < 0)) ( grd (b4.size + 1 ≤ 140737488355328) <| grd (∀ x ∈ ([x4.broken] : List Int), U8 x) <| j2 (b4 ++ (bytesOf [x4.broken]))
) ( andThen (fold_plain_v x4) fun (r1 : ByteArray) => grd (b4.size + r1.size ≤ 140737488355328) <| j2 (b4 ++ r1)
)
) (fun (b5 : ByteArray) => grd (I64 (x3 + 1)) <| ag1 b5 (x3 + 1)
)
) ( j1 b4
)
def fold_written_plain_v (l1 : List Gfold_unit) : Option ByteArray := joinK (fun (j1 : ByteArray → Option ByteArray) => loopG (fun _ _ => none) (fold_written_plain_s1 l1 j1) fuel ByteArray.empty 0
) (fun (b1 : ByteArray) => some b1
)
set_option maxRecDepth 100000 in
set_option maxHeartbeats 4000000 in
theorem fold_written_plain_fn {vvl1 vl1 : Value} {Zl1 : List (Gfold_unit × Hd × Hd)} {kl1 : Nat} {zl1 : List (Gfold_unit × Hd × Hd)} {l1 : List Gfold_unit} (hwl1 : Vw vvl1 Zl1 5 kl1 vl1 zl1) (hzl1 : zl1.map Prod.fst = l1) {r : ByteArray} (h : fold_written_plain_v l1 = some r) : Fn Try.prog 46 [vl1, .func (.func 47) #[] #[]] [vec encN_Gfold_unit 73 5 vvl1 Zl1, own nest_Gfold_unit Zl1] (fun _b : Unit => .string r) (fun _b => [vec encN_Gfold_unit 73 5 vvl1 Zl1, own nest_Gfold_unit Zl1]) := by
 unfold fold_written_plain_v at h
 refine Fn.intro Try.func46 rfl Try.ntmps46 (by simp) ?_
 intro w0 K
 obtain ⟨j1, hj1, h⟩ := joinE h
 refine TC.cutN (β := ByteArray × Value) 2 rfl (fun b => j1 b.1 = some r) (fun b => []) (fun b => [(5, b.2)]) (fun b => [vec encN_Gfold_unit 73 5 vvl1 Zl1, own nest_Gfold_unit Zl1, byt 5 b.2 b.1]) (fun cut => ?_) ?_
 ·
  refine TC.seq (TC.region (TO.assign rfl dc rfl (TO.nil (TX.next (TC.seq (TC.region (TO.assign rfl dc rfl (TO.nil (TX.next (cut (TC.seq (TC.region (TO.move rfl dc rfl ?_)))))))))))))
  refine TO.lenVwZ hzl1 hwl1 rfl dc rfl Try.underlying70 (TO.move rfl dc rfl (TO.nil (TX.next (TC.block (TC.newByt (e := 5) ?_)))))
  show TC _ _ _ _ _ _ _ _ _ [vec encN_Gfold_unit 73 5 vvl1 Zl1, own nest_Gfold_unit Zl1, byt 5 (.slice none 0 0) ByteArray.empty]
  refine TC.loopD (β := Nat × ByteArray × Int × Value) (fun b => loopG (fun _ _ => none) (fold_written_plain_s1 l1 j1) b.1 b.2.1 b.2.2.1 = some r) (fun b => []) (fun b => [(1, .func (.func 47) #[] #[]), (5, b.2.2.2), (8, vl1), (9, .int .i64 (l1.length : Int)), (10, .int .i64 b.2.2.1)]) (fun b => [vec encN_Gfold_unit 73 5 vvl1 Zl1, own nest_Gfold_unit Zl1, byt 5 b.2.2.2 b.2.1]) (fun b => b.1) (fuel, ByteArray.empty, 0, (.slice none 0 0)) h rfl (Sbs.cons rfl (Sbs.cons rfl (Sbs.cons rfl (Sbs.cons rfl (Sbs.cons rfl (Sbs.nil)))))) (Splits.of [0, 1, 2] kr rfl) ?_
  rintro ⟨n1, b4, x3, v4⟩ h
  cases n1 with
  | zero => exact noneE h
  | succ n1 =>
   obtain ⟨ag1, hag1⟩ : ∃ ag, ag = loopG (fun _ _ => none) (fold_written_plain_s1 l1 j1) n1 := ⟨_, rfl⟩
   have h : fold_written_plain_s1 l1 j1 ag1 b4 x3 = some r := by rw [hag1]; exact h
   unfold fold_written_plain_s1 at h
   show TC _ _ _ _ _ ([]) _ _ [(1, .func (.func 47) #[] #[]), (5, v4), (8, vl1), (9, .int .i64 (l1.length : Int)), (10, .int .i64 x3)] [vec encN_Gfold_unit 73 5 vvl1 Zl1, own nest_Gfold_unit Zl1, byt 5 v4 b4]
   refine TC.seq (TC.region (TO.bin rfl dc rfl rfl bin_lss (TO.nil (TX.next (TC.seq ?_)))))
   refine TC.condB rfl (fun hb1 => ?_) (fun hb1 => ?_)
   ·
    have h := condT hb1 h
    refine TC.skip (TX.next ?_)
    obtain ⟨j2, hj2, h⟩ := joinE h
    refine TC.cutN (β := ByteArray × Value) 0 rfl (fun b => j2 b.1 = some r) (fun b => []) (fun b => [(1, .func (.func 47) #[] #[]), (5, b.2), (8, vl1), (9, .int .i64 (l1.length : Int)), (10, .int .i64 x3)]) (fun b => [vec encN_Gfold_unit 73 5 vvl1 Zl1, own nest_Gfold_unit Zl1, byt 5 b.2 b.1]) (fun cut => ?_) ?_
    ·
     refine cut (TC.block (TC.seq (TC.region ?_)))
     obtain ⟨x4, hq1, h⟩ := andE h
     obtain ⟨⟨eh1, eh2⟩, eq1⟩ := getO_z hzl1 hq1
     refine TO.indexVw hwl1 eq1 Try.underlying70 sz_73 rfl dc rfl rfl rfl (TO.loadsVec (i := kl1 + (x3 : Int).toNat) (j := 0) (k := 0) (q := (x4, (eh1, eh2))) (cs := [.int .i64 x4.at_, .int .u8 x4.broken, .int .i32 x4.base, eh1.v, eh2.v]) rw_73 encN_Gfold_unit_len rfl dc rfl rfl (Vw.get hwl1 eq1) rfl rfl rfl ?_)
     refine TO.alloc zr_73 rfl dc (fun b6 => ?_)
     refine TO.stores (k := 3) (vs := [.int .i64 x4.at_, .int .u8 x4.broken, .int .i32 x4.base, eh1.v, eh2.v]) (l' := [.int .i64 x4.at_, .int .u8 x4.broken, .int .i32 x4.base, eh1.v, eh2.v]) sz_73 rfl rfl rfl rfl rfl (show _ ≤ _ by simp) rfl rfl ?_
     show TO _ _ _ _ _ _ _ _ _ _ [vec encN_Gfold_unit 73 5 vvl1 Zl1, own nest_Gfold_unit Zl1, byt 5 v4 b4, cells b6 [.int .i64 x4.at_, .int .u8 x4.broken, .int .i32 x4.base, eh1.v, eh2.v] 73]
     refine TO.nil (TX.next (TC.seq (TC.region (TO.fieldAddr fl_73_2 rfl dc rfl (show _ = 2 from rfl) (TO.load (k := 3) sc_21 rfl dc rfl rfl rfl (TO.bin rfl dc rfl rfl bin_lss (TO.nil (TX.next ?_))))))))
     refine TC.condB rfl (fun hb2 => ?_) (fun hb2 => ?_)
     ·
      have h := condT hb2 h
      refine TC.region (TO.move rfl dc rfl (TO.fieldAddr fl_73_1 rfl dc rfl (show _ = 1 from rfl) (TO.load (k := 3) sc_5 rfl dc rfl rfl rfl ?_)))
      refine TO.buildSlice (cs := [.int .u8 x4.broken]) (te := 5) (ps := [(0, .tmp 19)]) rfl dc rfl (fun _ => by kernel_rfl) (fun b7 => ?_)
      obtain ⟨hg1, h⟩ := grdE h
      obtain ⟨hg2, h⟩ := grdE h
      refine TO.appendByt (k := 2) (k2 := 4) (ys := (bytesOf [x4.broken])) Try.underlying69 by_5 rfl dc rfl rfl rfl rfl (strCells_of hg2) rfl hg1 (fun v6 => ?_)
      show TO _ _ _ _ _ _ _ _ _ _ [vec encN_Gfold_unit 73 5 vvl1 Zl1, own nest_Gfold_unit Zl1, byt 5 v6 (b4 ++ (bytesOf [x4.broken])), cells b6 [.int .i64 x4.at_, .int .u8 x4.broken, .int .i32 x4.base, eh1.v, eh2.v] 73, cells b7 [.int .u8 x4.broken] 5]
      refine TO.assign rfl dc rfl (TO.nil (TX.blockNormal ?_))
      exact TX.meetD (b4 ++ (bytesOf [x4.broken]), v6) h rfl (Sbs.cons rfl (Sbs.cons rfl (Sbs.cons rfl (Sbs.cons rfl (Sbs.cons rfl (Sbs.nil)))))) (Splits.of [0, 1, 2] kr rfl)
     ·
      have h := condF hb2 h
      refine TC.region (TO.move rfl dc rfl (TO.move rfl dc rfl (TO.loads (k := 3) (cs := [.int .i64 x4.at_, .int .u8 x4.broken, .int .i32 x4.base, eh1.v, eh2.v]) rw_73 rfl dc rfl rfl rfl rfl ?_)))
      refine TO.unfold1 (k := 1) rfl (pullE (Vw.get hwl1 eq1)) (fun _ _ => ?_)
      show TO _ _ _ _ _ _ _ _ _ _ [vec encN_Gfold_unit 73 5 vvl1 Zl1, own nest_Gfold_unit (Zl1.eraseIdx (kl1 + (x3 : Int).toNat)), byt 5 v4 b4, cells b6 [.int .i64 x4.at_, .int .u8 x4.broken, .int .i32 x4.base, eh1.v, eh2.v] 73, vec (encI (.i32)) 21 1 eh1.v x4.low, vec (encI (.i32)) 21 1 eh2.v x4.high]
      obtain ⟨r1, hq2, h⟩ := andE h
      refine TO.callK (v := .string r1) (vs := [.agg #[.int .i64 x4.at_, .int .u8 x4.broken, .int .i32 x4.base, eh1.v, eh2.v]]) rfl dc rfl rfl rfl en_47 (fold_plain_fn (u1 := x4) (u1_h0 := eh1) (u1_h1 := eh2) hq2) [4, 5] kr rfl ?_
      obtain ⟨hg3, h⟩ := grdE h
      refine TO.appendStr (k := 2) Try.underlying69 Try.underlying9 by_5 rfl dc rfl rfl rfl hg3 (fun v7 => ?_)
      refine TO.assign rfl dc rfl (TO.nil (TX.blockNormal (TX.fold1 (k := 1) rfl (Splits.of [4, 5] kr rfl) rfl (pushE (nest := nest_Gfold_unit) (Vw.get hwl1 eq1) rfl) ?_)))
      show TX _ _ _ _ _ _ _ [vec encN_Gfold_unit 73 5 vvl1 Zl1, own nest_Gfold_unit Zl1, byt 5 v7 (b4 ++ r1), cells b6 [.int .i64 x4.at_, .int .u8 x4.broken, .int .i32 x4.base, eh1.v, eh2.v] 73, emp, emp]
      exact TX.meetD (b4 ++ r1, v7) h rfl (Sbs.cons rfl (Sbs.cons rfl (Sbs.cons rfl (Sbs.cons rfl (Sbs.cons rfl (Sbs.nil)))))) (Splits.of [0, 1, 2] kr rfl)
    ·
     rintro ⟨b5, v5⟩ h
     rw [hj2] at h
     show TC _ _ _ _ _ ([]) _ _ [(1, .func (.func 47) #[] #[]), (5, v5), (8, vl1), (9, .int .i64 (l1.length : Int)), (10, .int .i64 x3)] [vec encN_Gfold_unit 73 5 vvl1 Zl1, own nest_Gfold_unit Zl1, byt 5 v5 b5]
     refine TC.region ?_
     obtain ⟨hg4, h⟩ := grdE h
     refine TO.bin rfl dc rfl rfl (bin_add (r := x3 + 1) (IntWalk.i64_in _ hg4)) (TO.move rfl dc rfl (TO.nil ?_))
     subst hag1
     exact TX.againD (n1, b5, x3 + 1, v5) h (Nat.lt_succ_self _) rfl (Sbs.cons rfl (Sbs.cons rfl (Sbs.cons rfl (Sbs.cons rfl (Sbs.cons rfl (Sbs.nil)))))) (Splits.of [0, 1, 2] kr rfl)
   ·
    have h := condF hb1 h
    refine TC.exit (TX.thenExit (TX.thenExit (TX.blockHere ?_)))
    exact TX.meetD (b4, v4) h rfl (Sbs.cons rfl (Sbs.nil)) (Splits.of [0, 1, 2] kr rfl)
 ·
  rintro ⟨b1, v1⟩ h
  rw [hj1] at h
  show TC _ _ _ _ _ ([]) _ _ [(5, v1)] [vec encN_Gfold_unit 73 5 vvl1 Zl1, own nest_Gfold_unit Zl1, byt 5 v1 b1]
  refine TC.seq (TC.region (TO.move rfl dc rfl (TO.bytStr (k := 2) rfl dc rfl rfl Try.underlying69 Try.underlying5 Try.underlying9 (TO.assign rfl dc rfl (TO.nil (TX.next (TC.ret ?_)))))))
  cases h
  exact TX.fin (rs := [.tmp 4]) () (.inl rfl) Try.results46 (.cons (.tmp rfl) .nil) rfl (Splits.of [0, 1] kr rfl)
end Go.Proofs.Ythjkafeklflgbaa
namespace Go.Proofs.Ythjkafeklflgbaa
open Go.RowKit Go.Lib
set_option linter.unusedVariables false
set_option linter.unusedSimpArgs false
def fold_Fold_v (s1 : ByteArray) : Option ByteArray := andThen (fold_units_v s1) fun (r1 : (List Gfold_unit)) => andThen (fold_written_plain_v r1) fun (r2 : ByteArray) => some r2
set_option maxRecDepth 100000 in
set_option maxHeartbeats 4000000 in
theorem fold_Fold_fn {s1 : ByteArray} {r : ByteArray} (h : fold_Fold_v s1 = some r) : FnP Try.prog 27 [.string s1] (.string r) := by
 unfold fold_Fold_v at h
 refine FnP.intro Try.func27 rfl Try.ntmps27 (by simp) ?_
 intro w0 K
 refine TC.seq (TC.region (TO.assign rfl dc rfl (TO.nil (TX.next (TC.seq (TC.region (TO.move rfl dc rfl ?_)))))))
 obtain ⟨r1, hq1, h⟩ := andE h
 refine TO.call (vs := [.string s1]) rfl dc rfl rfl rfl en_45 (fold_units_fn hq1) Splits.nil ?_
 rintro v1
 show TO _ _ _ _ _ _ _ _ _ _ [vecN encN_Gfold_unit nest_Gfold_unit 73 5 v1 r1]
 refine TO.weakenL (L' := [vecN encN_Gfold_unit nest_Gfold_unit 73 5 v1 r1]) (Splits.of [0] kr rfl) ?_
 refine TO.nameHdN (k := 0) rfl (fun hd1 he1 => ?_)
 subst he1
 refine TO.unfold1 (k := 0) rfl openE (fun zs1 hz1 => ?_)
 show TO _ _ _ _ _ _ _ _ _ _ [vec encN_Gfold_unit 73 5 hd1.v zs1, own nest_Gfold_unit zs1]
 refine TO.vecVw (k := 0) rfl (fun hw1 => ?_)
 obtain ⟨r2, hq2, h⟩ := andE h
 refine TO.callK (v := .string r2) (vs := [hd1.v, .func (.func 47) #[] #[]]) rfl dc rfl rfl rfl en_46 (fold_written_plain_fn hw1 hz1 hq2) [0, 1] kr rfl (TO.assign rfl dc rfl (TO.nil (TX.next (TC.ret ?_))))
 cases h
 exact TX.fin (rs := [.tmp 2]) () (.inl rfl) Try.results27 (.cons (.tmp rfl) .nil) rfl Splits.nil
def fold_FoldRune_v (r1 : Int) : Option ByteArray := andThen (runes_Encode_v r1) fun (r2 : ByteArray) => andThen (fold_Fold_v r2) fun (r3 : ByteArray) => some r3
set_option maxRecDepth 100000 in
set_option maxHeartbeats 4000000 in
theorem fold_FoldRune_fn {r1 : Int} {r : ByteArray} (h : fold_FoldRune_v r1 = some r) : FnP Try.prog 37 [.int .i32 r1] (.string r) := by
 unfold fold_FoldRune_v at h
 refine FnP.intro Try.func37 rfl Try.ntmps37 (by simp) ?_
 intro w0 K
 refine TC.seq (TC.region (TO.assign rfl dc rfl (TO.nil (TX.next (TC.seq (TC.region (TO.move rfl dc rfl ?_)))))))
 obtain ⟨r2, hq1, h⟩ := andE h
 refine TO.callP (v := .string r2) (vs := [.int .i32 r1]) rfl dc rfl rfl rfl en_63 (runes_Encode_fn hq1) ?_
 obtain ⟨r3, hq2, h⟩ := andE h
 refine TO.callP (v := .string r3) (vs := [.string r2]) rfl dc rfl rfl rfl en_27 (fold_Fold_fn hq2) (TO.assign rfl dc rfl (TO.nil (TX.next (TC.ret ?_))))
 cases h
 exact TX.fin (rs := [.tmp 2]) () (.inl rfl) Try.results37 (.cons (.tmp rfl) .nil) rfl Splits.nil
def fold_Same_v (a1 : ByteArray) (b1 : ByteArray) : Option Bool := andThen (fold_Fold_v a1) fun (r1 : ByteArray) => andThen (fold_Fold_v b1) fun (r2 : ByteArray) => some (decide (r1 = r2))
set_option maxRecDepth 100000 in
set_option maxHeartbeats 4000000 in
theorem fold_Same_fn {a1 : ByteArray} {b1 : ByteArray} {r : Bool} (h : fold_Same_v a1 b1 = some r) : FnP Try.prog 13 [.string a1, .string b1] (.bool r) := by
 unfold fold_Same_v at h
 refine FnP.intro Try.func13 rfl Try.ntmps13 (by simp) ?_
 intro w0 K
 refine TC.seq (TC.region (TO.assign rfl dc rfl (TO.nil (TX.next (TC.seq (TC.region (TO.move rfl dc rfl ?_)))))))
 obtain ⟨r1, hq1, h⟩ := andE h
 refine TO.callP (v := .string r1) (vs := [.string a1]) rfl dc rfl rfl rfl en_27 (fold_Fold_fn hq1) (TO.move rfl dc rfl ?_)
 obtain ⟨r2, hq2, h⟩ := andE h
 refine TO.callP (v := .string r2) (vs := [.string b1]) rfl dc rfl rfl rfl en_27 (fold_Fold_fn hq2) (TO.bin rfl dc rfl rfl bin_seql (TO.assign rfl dc rfl (TO.nil (TX.next (TC.ret ?_)))))
 cases h
 exact TX.fin (rs := [.tmp 4]) () (.inl rfl) Try.results13 (.cons (.tmp rfl) .nil) rfl Splits.nil
end Go.Proofs.Ythjkafeklflgbaa
namespace Go.Proofs.Ythjkafeklflgbaa
open Go.RowKit Go.Lib
set_option linter.unusedVariables false
set_option linter.unusedSimpArgs false
/-! ### Texts laid together -/
section
variable {α β : Type}
def J (f : α → ByteArray) (l : List α) : ByteArray := l.foldl (fun s x => s ++ f x) ByteArray.empty
theorem J_acc (f : α → ByteArray) : ∀ (l : List α) (b : ByteArray), l.foldl (fun s x => s ++ f x) b = b ++ J f l
  | [], b => by simp [J]
  | x :: l, b => by
    unfold J
    rw [List.foldl_cons, J_acc f l, List.foldl_cons, J_acc f l (ByteArray.empty ++ f x), ByteArray.empty_append, ByteArray.append_assoc]
theorem J_nil (f : α → ByteArray) : J f [] = ByteArray.empty := rfl
theorem J_cons (f : α → ByteArray) (x : α) (l : List α) : J f (x :: l) = f x ++ J f l := by
  show (l.foldl _ (ByteArray.empty ++ f x)) = _
  rw [J_acc, ByteArray.empty_append]
theorem J_append (f : α → ByteArray) : ∀ (a b : List α), J f (a ++ b) = J f a ++ J f b
  | [], b => by rw [List.nil_append, J_nil, ByteArray.empty_append]
  | x :: a, b => by rw [List.cons_append, J_cons, J_cons, J_append f a, ByteArray.append_assoc]
theorem J_flat (f : β → ByteArray) (g : α → List β) : ∀ l : List α, J f (l.flatMap g) = J (fun x => J f (g x)) l
  | [] => rfl
  | x :: l => by rw [List.flatMap_cons, J_append, J_cons, J_flat f g l]
theorem J_map (f : β → ByteArray) (g : α → β) : ∀ l : List α, J f (l.map g) = J (fun x => f (g x)) l
  | [] => rfl
  | x :: l => by rw [List.map_cons, J_cons, J_cons, J_map f g l]
theorem J_congr {f g : α → ByteArray} : ∀ {l : List α}, (∀ x ∈ l, f x = g x) → J f l = J g l
  | [], _ => rfl
  | x :: l, h => by rw [J_cons, J_cons, h x (List.mem_cons_self ..), J_congr (fun y hy => h y (List.mem_cons_of_mem _ hy))]
theorem J_size (f : α → ByteArray) (m : Nat) : ∀ {l : List α}, (∀ x ∈ l, (f x).size ≤ m) → (J f l).size ≤ l.length * m
  | [], _ => by simp [J]
  | x :: l, h => by
    rw [J_cons, ByteArray.size_append, List.length_cons, Nat.add_mul, Nat.one_mul]
    have := J_size f m (fun y hy => h y (List.mem_cons_of_mem _ hy))
    have := h x (List.mem_cons_self ..)
    omega
end
theorem strOf_J (l : List Int) : strOf l = J Utf8.encode l := rfl
theorem catI_J (l : List Itm) : catI l = J (·.Text) l := rfl
theorem enc_size4 (r : Int) : (Utf8.encode r).size ≤ 4 := by
  rw [encode_size]; exact (encodeRune_len r).2
def wr (of : Gfold_unit → ByteArray) (u : Gfold_unit) : ByteArray := if u.base < 0 then bytesOf [u.broken] else of u
theorem wr_plain (of : Gfold_unit → ByteArray) (l : List Gfold_unit) (hl : l.length ≤ 1048576) (h : ∀ u ∈ l, u.base < 0 ∧ U8 u.broken ∨ 0 ≤ u.base ∧ fold_plain_v u = some (of u) ∧ (of u).size ≤ 1048576) : fold_written_plain_v l = some (J (wr of) l) := by
  unfold fold_written_plain_v
  refine joinI ((loop1 (xs := l) (f := fun b u => b ++ wr of u) (J := some) (fun k b => b.size ≤ k * 1048576) ?_ ?_ ?_ (big_fuel (by omega)) (by decide)).trans rfl)
  · intro ag k u b hu hb
    have hk := lp_lt' hu
    unfold fold_written_plain_s1
    refine condTI (lp_lt hu) (joinI (thenI (lp_get hu) ?_))
    rcases h u (List.mem_of_getElem? hu) with ⟨h1, h2⟩ | ⟨h1, h2, h3⟩
    · exact condTI (decide_eq_true h1) (grdI (by omega) (grdI (by simpa using h2) (grdI (lp_i64 (by omega)) (by simp only [wr, if_pos h1]))))
    · exact condFI (decide_eq_false (by omega)) (thenI h2 (grdI (by omega) (grdI (lp_i64 (by omega)) (by simp only [wr, if_neg (show ¬ u.base < 0 by omega)]))))
  · intro k u b hu hb
    have hw : (wr of u).size ≤ 1048576 := by
      rcases h u (List.mem_of_getElem? hu) with ⟨h1, h2⟩ | ⟨h1, h2, h3⟩
      · unfold wr; rw [if_pos h1, bytesOf_size]; simp
      · unfold wr; rw [if_neg (by omega)]; exact h3
    rw [ByteArray.size_append]; omega
  · intro ag b _; unfold fold_written_plain_s1; exact condFI lp_ge rfl
/-! ### Items in order -/
def okT (x : Itm) : Prop := I32 x.Rune ∧ ((x.Rune < 0 ∧ x.Text.size = 1) ∨ (0 ≤ x.Rune ∧ x.Text = Utf8.encode x.Rune))
theorem okT_item {s : ByteArray} : ∀ x ∈ itemsP s, okT x := by
  intro x hx
  unfold itemsP at hx
  obtain ⟨p, hp, rfl⟩ := List.mem_map.1 hx
  obtain ⟨h1, h2⟩ := item_of hp
  obtain ⟨g1, g2, hok⟩ := pcs_pos s.data.toList p hp
  have hv := hok.valid
  cases hb : p.broken with
  | true => obtain ⟨e1, e2, _⟩ := h1 hb; exact ⟨by rw [e1]; exact ⟨by omega, by omega⟩, .inl ⟨by omega, e2⟩⟩
  | false =>
    obtain ⟨e1, e2⟩ := h2 hb
    refine ⟨by rw [e1]; exact ⟨by omega, by omega⟩, .inr ⟨by omega, by rw [e2, e1]⟩⟩
theorem okT_ap {l : List Itm} (h : ∀ x ∈ l, okT x) : ∀ x ∈ apL l, okT x := by
  intro y hy
  unfold apL at hy
  obtain ⟨x, hx, hy⟩ := List.mem_flatMap.1 hy
  unfold apI at hy
  split at hy
  · rename_i hL
    obtain ⟨r, hr, rfl⟩ := List.mem_map.1 hy
    obtain ⟨b, ms, hq, hb, _, hms, _⟩ := parts_shape (show letter x.Rune = true from hL)
    have h0 : 0 ≤ r := by
      rw [hq] at hr
      rcases List.mem_cons.1 hr with rfl | hr
      · exact (letter_rng _ hb).1
      · have := hms r hr; unfold mrk at this; simp at this; omega
    exact ⟨parts_i32 (h x hx).1 r hr, .inr ⟨h0, rfl⟩⟩
  · simp at hy; subst hy; exact h _ hx
theorem clF_mem : ∀ (xs : List Itm) (cur : Option (Itm × List Itm)) (c : Itm × List Itm), c ∈ clF cur xs → (∀ d, cur = some d → isL d.1 = false → d.2 = []) → ((c.1 ∈ xs ∨ ∃ d, cur = some d ∧ c.1 = d.1) ∧ (∀ m ∈ c.2, (isM m = true ∧ m ∈ xs) ∨ ∃ d, cur = some d ∧ m ∈ d.2) ∧ (isL c.1 = false → c.2 = []))
  | [], none, c, h, _ => by cases h
  | [], some d, c, h, hd => by
    simp [clF] at h; subst h
    exact ⟨.inr ⟨c, rfl, rfl⟩, fun m hm => .inr ⟨c, rfl, hm⟩, hd c rfl⟩
  | x :: xs, none, c, h, _ => by
    obtain ⟨h1, h2, h3⟩ := clF_mem xs (some (x, [])) c h (fun d hd _ => by cases hd; rfl)
    refine ⟨.inl ?_, fun m hm => .inl ?_, h3⟩
    · rcases h1 with h1 | ⟨d, hd, h1⟩
      · exact List.mem_cons_of_mem _ h1
      · cases hd; rw [h1]; exact List.mem_cons_self ..
    · rcases h2 m hm with ⟨a, b⟩ | ⟨d, hd, h2⟩
      · exact ⟨a, List.mem_cons_of_mem _ b⟩
      · cases hd; cases h2
  | x :: xs, some d, c, h, hd => by
    have h' : c ∈ (if isL d.1 && isM x then clF (some (d.1, d.2 ++ [x])) xs else d :: clF (some (x, [])) xs) := h
    cases hk : (isL d.1 && isM x) with
    | true =>
      rw [hk] at h'
      rw [Bool.and_eq_true] at hk
      obtain ⟨h1, h2, h3⟩ := clF_mem xs (some (d.1, d.2 ++ [x])) c h' (fun e he hl => by cases he; rw [hk.1] at hl; cases hl)
      refine ⟨?_, fun m hm => ?_, h3⟩
      · rcases h1 with h1 | ⟨e, he, h1⟩
        · exact .inl (List.mem_cons_of_mem _ h1)
        · cases he; exact .inr ⟨d, rfl, h1⟩
      · rcases h2 m hm with ⟨a, b⟩ | ⟨e, he, h2⟩
        · exact .inl ⟨a, List.mem_cons_of_mem _ b⟩
        · cases he
          rcases List.mem_append.1 h2 with h2 | h2
          · exact .inr ⟨d, rfl, h2⟩
          · simp at h2; subst h2; exact .inl ⟨hk.2, List.mem_cons_self ..⟩
    | false =>
      rw [hk] at h'
      rcases List.mem_cons.1 h' with rfl | h'
      · exact ⟨.inr ⟨c, rfl, rfl⟩, fun m hm => .inr ⟨c, rfl, hm⟩, hd c rfl⟩
      · obtain ⟨h1, h2, h3⟩ := clF_mem xs (some (x, [])) c h' (fun e he _ => by cases he; rfl)
        refine ⟨.inl ?_, fun m hm => .inl ?_, h3⟩
        · rcases h1 with h1 | ⟨e, he, h1⟩
          · exact List.mem_cons_of_mem _ h1
          · cases he; rw [h1]; exact List.mem_cons_self ..
        · rcases h2 m hm with ⟨a, b⟩ | ⟨e, he, h2⟩
          · exact ⟨a, List.mem_cons_of_mem _ b⟩
          · cases he; cases h2
theorem cl_mem {xs : List Itm} {c : Itm × List Itm} (h : c ∈ cl xs) : c.1 ∈ xs ∧ (∀ m ∈ c.2, isM m = true ∧ m ∈ xs) ∧ (isL c.1 = false → c.2 = []) := by
  obtain ⟨h1, h2, h3⟩ := clF_mem xs none c h (fun d hd => by cases hd)
  refine ⟨?_, fun m hm => ?_, h3⟩
  · rcases h1 with h1 | ⟨d, hd, _⟩
    · exact h1
    · cases hd
  · rcases h2 m hm with h2 | ⟨d, hd, _⟩
    · exact h2
    · cases hd
theorem clF_len : ∀ (xs : List Itm) (cur : Option (Itm × List Itm)), (clF cur xs).length ≤ xs.length + cur.toList.length ∧ ∀ c ∈ clF cur xs, c.2.length ≤ xs.length + (cur.toList.map (·.2.length)).sum
  | [], none => by simp [clF]
  | [], some d => by simp [clF]
  | x :: xs, none => by
    have := clF_len xs (some (x, []))
    refine ⟨?_, fun c hc => ?_⟩
    · have h1 := this.1; show (clF (some (x, [])) xs).length ≤ _; simp at h1 ⊢; omega
    · have h1 := this.2 c hc; simp at h1 ⊢; omega
  | x :: xs, some d => by
    have a := clF_len xs (some (d.1, d.2 ++ [x]))
    have b := clF_len xs (some (x, []))
    show (if isL d.1 && isM x then clF (some (d.1, d.2 ++ [x])) xs else d :: clF (some (x, [])) xs).length ≤ _ ∧ _
    show _ ∧ ∀ c ∈ (if isL d.1 && isM x then clF (some (d.1, d.2 ++ [x])) xs else d :: clF (some (x, [])) xs), _
    split
    · refine ⟨by have := a.1; simp at this ⊢; omega, fun c hc => by have := a.2 c hc; simp at this ⊢; omega⟩
    · refine ⟨by have := b.1; simp at this ⊢; omega, fun c hc => ?_⟩
      rcases List.mem_cons.1 hc with rfl | hc
      · simp
      · have := b.2 c hc; simp at this ⊢; omega
theorem cl_len (xs : List Itm) : (cl xs).length ≤ xs.length ∧ ∀ c ∈ cl xs, c.2.length ≤ xs.length := by
  have := clF_len xs none
  simpa [cl] using this
theorem clus_ok {s : ByteArray} (hs : s.size ≤ 65536) : (clus s).length ≤ 196608 ∧ ∀ c ∈ clus s, okT c.1 ∧ (∀ m ∈ c.2, isM m = true ∧ okT m) ∧ (isL c.1 = false → c.2 = []) ∧ c.2.length ≤ 196608 := by
  have h1 := cl_len (apL (itemsP s))
  have h2 := apL_len (itemsP s)
  have h3 : (itemsP s).length ≤ s.size := by unfold itemsP; simpa using pcs_count_le s
  have hok := okT_ap (okT_item (s := s))
  refine ⟨by unfold clus; omega, fun c hc => ?_⟩
  obtain ⟨g1, g2, g3⟩ := cl_mem hc
  exact ⟨hok _ g1, fun m hm => ⟨(g2 m hm).1, hok _ (g2 m hm).2⟩, g3, by have := h1.2 c hc; omega⟩
theorem toU_cases (c : Itm × List Itm) (h : okT c.1) : (toU c).base < 0 ∧ U8 (toU c).broken ∧ c.1.Rune < 0 ∧ bytesOf [(toU c).broken] = c.1.Text ∨ 0 ≤ (toU c).base ∧ 0 ≤ c.1.Rune ∧ c.1.Text = Utf8.encode c.1.Rune ∧ toU c = ⟨c.1.At, 0, c.1.Rune, (loI c.2).map (·.Rune), (hiI c.2).map (·.Rune)⟩ := by
  rcases h.2 with ⟨h1, h2⟩ | ⟨h1, h2⟩
  · left
    have e : toU c = ⟨c.1.At, byte0 c.1.Text, -1, [], []⟩ := by unfold toU; rw [if_pos h1]
    rw [e]
    refine ⟨by show (-1 : Int) < 0; omega, ?_, h1, ?_⟩
    · show U8 (byte0 c.1.Text); unfold byte0; constructor
      · omega
      · have := (c.1.Text.data.toList.headD 0).toNat_lt; omega
    · show bytesOf [byte0 c.1.Text] = _
      apply ByteArray.ext; apply Array.toList_inj.1
      have hl : c.1.Text.data.toList.length = 1 := by rw [Array.length_toList]; exact h2
      cases hq : c.1.Text.data.toList with
      | nil => rw [hq] at hl; cases hl
      | cons b l =>
        rw [hq] at hl
        have : l = [] := List.eq_nil_of_length_eq_zero (by simpa using hl)
        subst this
        unfold bytesOf byte0
        rw [hq]; simp
  · right
    have e : toU c = ⟨c.1.At, 0, c.1.Rune, (loI c.2).map (·.Rune), (hiI c.2).map (·.Rune)⟩ := by unfold toU; rw [if_neg (by omega)]
    rw [e]
    exact ⟨h1, h1, h2, rfl⟩
end Go.Proofs.Ythjkafeklflgbaa
namespace Go.Proofs.Ythjkafeklflgbaa
open Go.RowKit Go.Lib
set_option linter.unusedVariables false
set_option linter.unusedSimpArgs false
def bareI (xs : List Itm) : List Itm := (cl xs).map Prod.fst
theorem bareI_nil : bareI [] = [] := rfl
theorem bareI_letter {x : Itm} (h : isL x = true) (xs : List Itm) : bareI (x :: xs) = x :: bareI (xs.dropWhile isM) := by unfold bareI; rw [cl_letter h]; rfl
theorem bareI_other {x : Itm} (h : isL x = false) (xs : List Itm) : bareI (x :: xs) = x :: bareI xs := by unfold bareI; rw [cl_other h]; rfl
theorem take_ord (P R : List Itm) (hP : ∀ m ∈ P, isM m = true) (hR : ∀ y, R.head? = some y → isM y = false) : (P ++ ordI R).takeWhile isM = P := by
  induction P with
  | nil =>
    cases R with
    | nil => rfl
    | cons y R =>
      have hy := hR y rfl
      rw [List.nil_append]
      cases hL : isL y with
      | true => rw [ordI_letter hL, List.takeWhile_cons, hy]; rfl
      | false => rw [ordI_other hL, List.takeWhile_cons, hy]; rfl
  | cons m P ih =>
    rw [List.cons_append, List.takeWhile_cons, hP m (List.mem_cons_self ..)]
    simp only [if_true]
    rw [ih (fun z hz => hP z (List.mem_cons_of_mem _ hz))]
theorem head_drop (xs : List Itm) : ∀ y, (xs.dropWhile isM).head? = some y → isM y = false := by
  intro y hy
  have := List.head?_dropWhile_not (p := isM) (l := xs)
  rw [hy] at this
  simpa using this
theorem ordI_len (xs : List Itm) : (ordI xs).length = xs.length := by
  obtain ⟨n, hn⟩ : ∃ n, xs.length ≤ n := ⟨_, Nat.le_refl _⟩
  induction n generalizing xs with
  | zero => have : xs = [] := List.eq_nil_of_length_eq_zero (by omega); subst this; rfl
  | succ n ih =>
    cases xs with
    | nil => rfl
    | cons x xs =>
      simp only [List.length_cons] at hn
      cases hL : isL x with
      | false => rw [ordI_other hL, List.length_cons, List.length_cons, ih xs (by omega)]
      | true =>
        have h1 := lohi_len (xs.takeWhile isM)
        have h2 : xs.length = (xs.takeWhile isM).length + (xs.dropWhile isM).length := by
          have := congrArg List.length (List.takeWhile_append_dropWhile (p := isM) (l := xs))
          rw [List.length_append] at this; exact this.symm
        rw [ordI_letter hL, List.length_cons, List.length_append, h1, ih _ (by omega), List.length_cons]; omega
theorem ordI_mem {xs : List Itm} {y : Itm} (h : y ∈ ordI xs) : y ∈ xs := by
  unfold ordI at h
  obtain ⟨c, hc, hy⟩ := List.mem_flatMap.1 h
  obtain ⟨h1, h2, _⟩ := cl_mem hc
  unfold ordC loI hiI at hy
  rcases List.mem_cons.1 hy with rfl | hy
  · exact h1
  · rw [List.mem_append, List.mem_filter, List.mem_filter] at hy
    rcases hy with hy | hy <;> exact (h2 y hy.1).2
theorem bare_loop (r1 : List Itm) (J : List Itm → Option (List Itm)) (hb : r1.length ≤ 1073741824) : ∀ (m n : Nat) (A B out : List Itm), B.length ≤ m → B.length < n → r1 = A ++ ordI B → okIs B → out.length ≤ A.length →
    loopG (fun _ _ => none) (ref04_bare_s1 J r1) n out (A.length : Int) = J (out ++ bareI B) := by
  intro m
  induction m with
  | zero =>
    intro n A B out hB hn he hok ho
    have : B = [] := List.eq_nil_of_length_eq_zero (by omega)
    subst this
    obtain ⟨n, rfl⟩ : ∃ k, n = k + 1 := ⟨n - 1, by omega⟩
    rw [ordI_nil, List.append_nil] at he
    rw [loopI]
    unfold ref04_bare_s1
    exact condFI (decide_eq_false (by rw [he]; omega)) (by rw [bareI_nil, List.append_nil])
  | succ m ih =>
    intro n A B out hB hn he hok ho
    obtain ⟨n, rfl⟩ : ∃ k, n = k + 1 := ⟨n - 1, by omega⟩
    cases B with
    | nil =>
      rw [ordI_nil, List.append_nil] at he
      rw [loopI]
      unfold ref04_bare_s1
      exact condFI (decide_eq_false (by rw [he]; omega)) (by rw [bareI_nil, List.append_nil])
    | cons x xs =>
      simp only [List.length_cons] at hB hn
      have hx32 := hok x (List.mem_cons_self ..)
      have hlen : r1.length = A.length + 1 + xs.length := by rw [he, List.length_append, ordI_len]; simp; omega
      rw [loopI]
      generalize hag : loopG (fun _ _ => none) (ref04_bare_s1 J r1) n = ag at ih ⊢
      unfold ref04_bare_s1
      have hget : getO r1 (A.length : Int) = some x := getO_nat (by
        rw [he]
        cases hL : isL x with
        | true => rw [ordI_letter hL]; exact get_at A x _
        | false => rw [ordI_other hL]; exact get_at A x _)
      refine condTI (decide_eq_true (by omega)) (joinI (thenI hget (grdI (by omega) (thenI hget (thenI (iletter_v x hx32) ?_)))))
      have hL' : letter x.Rune = isL x := rfl
      rw [hL']
      cases hL : isL x with
      | false =>
        rw [ordI_other hL] at he
        refine condFI rfl (grdI ⟨by omega, by omega⟩ ?_)
        have := ih n (A ++ [x]) xs (out ++ [x]) (by omega) (by omega) (by rw [he]; simp) (fun z hz => hok z (List.mem_cons_of_mem _ hz)) (by simp; omega)
        rw [hag] at this
        rw [show ((A.length : Int) + 1) = ((A ++ [x]).length : Int) by simp, this, bareI_other hL]; simp
      | true =>
        rw [ordI_letter hL] at he
        obtain ⟨M, R, hM, hR, hMR⟩ : ∃ M R, M = xs.takeWhile isM ∧ R = xs.dropWhile isM ∧ xs = M ++ R := ⟨_, _, rfl, rfl, (List.takeWhile_append_dropWhile).symm⟩
        rw [← hM, ← hR] at he
        have hl2 := lohi_len M
        have hxs : xs.length = M.length + R.length := by rw [hMR]; simp
        have hcut : cutL r1 ((A.length : Int) + 1) (r1.length : Int) = (loI M ++ hiI M) ++ ordI R := by
          rw [he]; exact cut_rest A x _ _ rfl
        refine condTI rfl (grdI ⟨by omega, by omega⟩ (grdI ⟨by omega, by omega, by omega⟩ ?_))
        rw [hcut]
        refine thenI (marks_v _ (by rw [List.length_append, ordI_len]; omega)) ?_
        have htw : (((loI M ++ hiI M) ++ ordI R).takeWhile fun x => mrk x.Rune) = loI M ++ hiI M := take_ord _ _ (lohi_marks (by rw [hM]; exact take_marks xs)) (by rw [hR]; exact head_drop xs)
        rw [htw, hl2]
        refine grdI ⟨by omega, by omega⟩ (grdI ⟨by omega, by omega⟩ ?_)
        have := ih n (A ++ [x] ++ (loI M ++ hiI M)) R (out ++ [x]) (by omega) (by omega) (by rw [he]; simp) (fun z hz => hok z (by rw [hMR]; exact List.mem_cons_of_mem _ (List.mem_append_right _ hz))) (by simp; omega)
        rw [hag] at this
        rw [show ((A.length : Int) + (M.length : Int) + 1) = ((A ++ [x] ++ (loI M ++ hiI M)).length : Int) by rw [List.length_append, hl2]; simp; omega, this, bareI_letter hL, ← hR]; simp
theorem bare_v (l : List Itm) (hok : okIs l) (hl : l.length ≤ 268435456) : ref04_bare_v l = some (bareI (apL l)) := by
  unfold ref04_bare_v
  refine joinI (thenI (apart_v l hok hl) ?_)
  have h1 := apL_len l
  have h2 := ordI_len (apL l)
  have := bare_loop (ordI (apL l)) some (by omega) (apL l).length fuel [] (apL l) [] (Nat.le_refl _) (big_fuel (by omega)) rfl (okIs_ap hok) (Nat.le_refl _)
  simpa using this
/-! ### Plain letters -/
def plT : List (Int × List UInt8) := [(223, [115, 115]), (230, [97, 101]), (248, [111]), (240, [100]), (254, [116, 104]), (273, [100]), (295, [104]), (305, [105]), (307, [105, 106]), (312, [113]), (320, [108]), (322, [108]), (329, [110]), (331, [110, 103]), (339, [111, 101]), (359, [116]), (383, [115]), (962, [207, 131])]
def plainR (r : Int) : ByteArray := match getM r plT with | some b => ⟨b.toArray⟩ | none => Utf8.encode r
theorem rplain_v (r : Int) (hr : I32 r) : ref04_plain_v r = some (plainR r) := by
  unfold plainR plT
  simp only [getM]
  unfold ref04_plain_v
  simp only [joinK]
  have e : ∀ n : Int, (((r : Int) == n) = decide (r = n)) := fun n => by rw [Bool.eq_iff_iff]; simp
  by_cases h1 : r = 223
  · subst h1; rfl
  by_cases h2 : r = 230
  · subst h2; rfl
  by_cases h3 : r = 248
  · subst h3; rfl
  by_cases h4 : r = 240
  · subst h4; rfl
  by_cases h5 : r = 273
  · subst h5; rfl
  by_cases h6 : r = 254
  · subst h6; rfl
  by_cases h7 : r = 295
  · subst h7; rfl
  by_cases h8 : r = 305
  · subst h8; rfl
  by_cases h9 : r = 307
  · subst h9; rfl
  by_cases h10 : r = 312
  · subst h10; rfl
  by_cases h11 : r = 320
  · subst h11; rfl
  by_cases h12 : r = 322
  · subst h12; rfl
  by_cases h13 : r = 329
  · subst h13; rfl
  by_cases h14 : r = 331
  · subst h14; rfl
  by_cases h15 : r = 339
  · subst h15; rfl
  by_cases h16 : r = 359
  · subst h16; rfl
  by_cases h17 : r = 383
  · subst h17; rfl
  by_cases h18 : r = 962
  · subst h18; rfl
  simp only [e, decide_eq_false h1, decide_eq_false h2, decide_eq_false h3, decide_eq_false h4, decide_eq_false h5, decide_eq_false h6, decide_eq_false h7, decide_eq_false h8, decide_eq_false h9, decide_eq_false h10, decide_eq_false h11, decide_eq_false h12, decide_eq_false h13, decide_eq_false h14, decide_eq_false h15, decide_eq_false h16, decide_eq_false h17, decide_eq_false h18, bcond, cond_false, h1, h2, h3, h4, h5, h6, h7, h8, h9, h10, h11, h12, h13, h14, h15, h16, h17, h18, if_false]
  exact thenI (encode_v r hr) rfl
theorem plainR_size (r : Int) : (plainR r).size ≤ 4 := by
  unfold plainR
  split
  · rename_i b hb
    have h : ∀ p ∈ plT, p.2.length ≤ 4 := by decide
    have := h _ (getM_mem hb)
    show (b.toArray).size ≤ 4; simpa using this
  · exact enc_size4 r
/-- Folded, one item. -/
def foldI (x : Itm) : Itm := if isL x then ⟨x.Rune, plainR (lower x.Rune), x.At⟩ else x
theorem lower_i32 (r : Int) (h : letter r = true) : I32 (lower r) := by
  have := letter_rng r h
  unfold lower
  constructor <;> ((repeat' split) <;> omega)
theorem folded_v (s : ByteArray) (hs : s.size ≤ 65536) : ref04_Folded_v s = some ((bareI (apL (itemsP s))).map foldI) := by
  unfold ref04_Folded_v
  have h3 : (itemsP s).length ≤ s.size := by unfold itemsP; simpa using pcs_count_le s
  have hok : okIs (itemsP s) := fun x hx => (okT_item x hx).1
  refine joinI (thenI (items_v s (by omega)) (thenI (bare_v _ hok (by omega)) ?_))
  have hokB : okIs (bareI (apL (itemsP s))) := by
    intro x hx
    unfold bareI at hx
    obtain ⟨c, hc, rfl⟩ := List.mem_map.1 hx
    exact okIs_ap hok _ (cl_mem hc).1
  have hlB : (bareI (apL (itemsP s))).length ≤ 196608 := by
    have h1 := (cl_len (apL (itemsP s))).1
    have h2 := apL_len (itemsP s)
    unfold bareI; rw [List.length_map]; omega
  generalize bareI (apL (itemsP s)) = B at hokB hlB
  have key : ∀ (n k : Nat), k ≤ B.length → B.length - k < n → loopG (fun _ _ => none) (ref04_Folded_s1 some B) n ((B.take k).map foldI ++ B.drop k) (k : Int) = some (B.map foldI) := by
    intro n
    induction n with
    | zero => intro k _ h; omega
    | succ n ih =>
      intro k hk hn
      rw [loopI]
      generalize loopG (fun _ _ => none) (ref04_Folded_s1 some B) n = ag at ih ⊢
      unfold ref04_Folded_s1
      by_cases h : k < B.length
      · have hx : B[k]? = some B[k] := List.getElem?_eq_getElem h
        have hd := List.drop_eq_getElem_cons h
        have h32 := hokB B[k] (List.mem_of_getElem? hx)
        have hnx := ih (k + 1) (by omega) (by omega)
        have ht : B.take (k + 1) = B.take k ++ [B[k]] := by rw [List.take_add_one, hx]; rfl
        generalize hxe : B[k] = x at *
        have hlA : ((B.take k).map foldI).length = k := by simp; omega
        have hg : getO ((B.take k).map foldI ++ B.drop k) (k : Int) = some x := getO_nat (by
          rw [hd]
          have := get_at ((B.take k).map foldI) x (B.drop (k + 1))
          rwa [hlA] at this)
        refine condTI (decide_eq_true (by omega)) (joinI (thenI hg (thenI (iletter_v x h32) ?_)))
        have hL' : letter x.Rune = isL x := rfl
        rw [hL']
        rw [ht, List.map_append] at hnx
        push_cast at hnx
        cases hL : isL x with
        | false =>
          refine condFI rfl (grdI (lp_i64 (by omega)) ?_)
          have hf : foldI x = x := by unfold foldI; rw [hL]; rfl
          rw [← hnx, hd]
          congr 1
          simp [hf]
        | true =>
          refine condTI rfl (grdI h32 (thenI (rplain_v _ (lower_i32 _ hL)) (thenI hg (grdI (lp_i64 (by omega)) ?_))))
          have hf : foldI x = ⟨x.Rune, plainR (lower x.Rune), x.At⟩ := by unfold foldI; rw [hL]; rfl
          rw [← hnx]
          congr 1
          rw [hd, show ((k : Int)).toNat = ((B.take k).map foldI).length by rw [hlA]; simp, List.set_append_right _ _ (Nat.le_refl _)]
          simp [hf]
      · have : k = B.length := by omega
        subst this
        exact condFI lp_ge (by rw [List.take_length, List.drop_length, List.append_nil])
  have := key fuel 0 (Nat.zero_le _) (by have := big_fuel (n := B.length) (by omega); omega)
  simpa using this
end Go.Proofs.Ythjkafeklflgbaa
namespace Go.Proofs.Ythjkafeklflgbaa
open Go.RowKit Go.Lib
set_option linter.unusedVariables false
set_option linter.unusedSimpArgs false
def plS (sm : Int) (j1 : Option ByteArray) (ag1 : Int → Bool → Nat → Option ByteArray) (from3 : Int) (head3 : Bool) (m3 : Nat) : Option ByteArray := bcond (decide (m3 < (pcs str_f9f7e721.data.toList).length)) ( andThen ((pcs str_f9f7e721.data.toList)[m3]?) fun (p1 : Pc) => joinK (fun (j2 : Int → Option ByteArray) => bcond (((p1.r : Int) : Int) == 32) ( bcond (decide ((0 : Int) ≤ from3)) ( grd (0 ≤ (from3 : Int) ∧ (from3 : Int) ≤ (p1.i : Int) ∧ ((p1.i : Int) : Int) ≤ (str_f9f7e721.size : Int)) <| some (cutB str_f9f7e721 from3 (p1.i : Int))
) ( bcond (((p1.r : Int) : Int) == 32) ( j2 from3
) ( bcond (head3) ( bcond (((p1.r : Int) : Int) == sm) ( grd (I64 ((p1.i : Int) + ((Utf8.encode (p1.r : Int)).size : Int))) <| j2 ((p1.i : Int) + ((Utf8.encode (p1.r : Int)).size : Int))
) ( j2 from3
)
) ( j2 from3
)
)
)
) ( bcond (((p1.r : Int) : Int) == 32) ( j2 from3
) ( bcond (head3) ( bcond (((p1.r : Int) : Int) == sm) ( grd (I64 ((p1.i : Int) + ((Utf8.encode (p1.r : Int)).size : Int))) <| j2 ((p1.i : Int) + ((Utf8.encode (p1.r : Int)).size : Int))
) ( j2 from3
)
) ( j2 from3
)
)
)
) (fun (from4 : Int) => ag1 from4 (((p1.r : Int) : Int) == 32) (m3 + 1)
)
) ( j1
)
def othP : List Pc := pcs str_f9f7e721.data.toList
def plL (sm : Int) : Option ByteArray := loopG (fun _ _ _ => none) (plS sm (some (Utf8.encode sm))) fuel (-1) true 0
def hds : List Pc → Bool → List Int
  | [], _ => []
  | p :: ps, h => (if (p.r == 32) then [] else if h then [(p.r : Int)] else []) ++ hds ps (p.r == 32)
set_option maxRecDepth 100000 in
theorem hds_eq : hds othP true = plT.map Prod.fst := by decide +kernel
set_option maxRecDepth 100000 in
theorem plL_keys : (plT.all fun p => decide (plL p.1 = some (plainR p.1))) = true := by decide +kernel
theorem plL_none (sm : Int) (J : Option ByteArray) : ∀ (n m : Nat) (h : Bool), m ≤ othP.length → othP.length - m < n → sm ∉ hds (othP.drop m) h → loopG (fun _ _ _ => none) (plS sm J) n (-1) h m = J := by
  intro n
  induction n with
  | zero => intro m h _ hn; omega
  | succ n ih =>
    intro m h hm hn hs
    rw [loopI]
    generalize loopG (fun _ _ _ => none) (plS sm J) n = ag at ih ⊢
    unfold plS
    by_cases hlt : m < othP.length
    · have hx : othP[m]? = some othP[m] := List.getElem?_eq_getElem hlt
      rw [List.drop_eq_getElem_cons hlt] at hs
      generalize othP[m] = p at hx hs
      unfold hds at hs
      rw [List.mem_append, not_or] at hs
      have e : ((p.r : Int) == 32) = (p.r == 32) := by rw [Bool.eq_iff_iff]; simp; omega
      refine condTI (decide_eq_true hlt) (thenI hx (joinI ?_))
      have nx : ag (-1) ((p.r : Int) == 32) (m + 1) = J := ih (m + 1) _ (by omega) (by omega) (by rw [e]; exact hs.2)
      cases h32 : ((p.r : Int) == 32) with
      | true =>
        rw [h32] at nx
        exact condTI rfl (condFI (by decide) (condTI rfl nx))
      | false =>
        rw [h32] at nx
        refine condFI rfl (condFI rfl ?_)
        cases h with
        | false => exact condFI rfl nx
        | true =>
          have h1 := hs.1
          rw [← e, h32] at h1
          refine condTI rfl (condFI ?_ nx)
          rw [beq_eq_false_iff_ne]
          intro e2
          exact h1 (by simp [e2])
    · exact condFI (decide_eq_false hlt) rfl
theorem plL_v (sm : Int) : plL sm = some (plainR sm) := by
  by_cases h : sm ∈ plT.map Prod.fst
  · obtain ⟨p, hp, rfl⟩ := List.mem_map.1 h
    exact of_decide_eq_true (List.all_eq_true.1 plL_keys p hp)
  · have : plL sm = some (Utf8.encode sm) := plL_none sm _ fuel 0 true (Nat.zero_le _) (by
      have : othP.length ≤ 100000 := by decide +kernel
      unfold fuel; omega) (by rw [List.drop_zero, hds_eq]; exact h)
    rw [this]
    unfold plainR
    cases hg : getM sm plT with
    | none => rfl
    | some b => exact absurd (List.mem_map.2 ⟨_, getM_mem hg, rfl⟩) h
theorem plain_v (u : Gfold_unit) (hu : I32 u.base) : fold_plain_v u = some (if letter u.base then plainR (lower u.base) else Utf8.encode u.base) := by
  unfold fold_plain_v
  refine thenI (letter_v u hu) ?_
  cases hL : letter u.base with
  | false => exact condTI rfl rfl
  | true => exact condFI rfl (joinI (grdI hu (plL_v (lower u.base))))
/-! ### Fold, Bare, Apart -/
def foldC (c : Itm × List Itm) : ByteArray := (foldI c.1).Text
def foldS (s : ByteArray) : ByteArray := J foldC (clus s)
theorem wr_of (of : Gfold_unit → ByteArray) (g : Itm × List Itm → ByteArray) (s : ByteArray) (hs : s.size ≤ 65536) (h : ∀ c ∈ clus s, 0 ≤ c.1.Rune → of (toU c) = g c) (hneg : ∀ c ∈ clus s, c.1.Rune < 0 → g c = c.1.Text) : J (wr of) ((clus s).map toU) = J g (clus s) := by
  rw [J_map]
  refine J_congr fun c hc => ?_
  obtain ⟨h1, h2, h3, _⟩ := (clus_ok hs).2 c hc
  unfold wr
  rcases toU_cases c h1 with ⟨g1, _, g3, g4⟩ | ⟨g1, g2, g3, g4⟩
  · rw [if_pos g1, g4, hneg c hc g3]
  · rw [if_neg (by omega), h c hc g2]
theorem not_letter_neg {x : Itm} (h : x.Rune < 0) : isL x = false := by
  cases e : isL x with
  | false => rfl
  | true => have := (letter_rng x.Rune e).1; omega
theorem foldC_eq (c : Itm × List Itm) (h : okT c.1) : (0 ≤ c.1.Rune → (if letter (toU c).base then plainR (lower (toU c).base) else Utf8.encode (toU c).base) = foldC c) ∧ (c.1.Rune < 0 → foldC c = c.1.Text) := by
  constructor
  · intro h0
    have hb := toU_base c h0
    rw [hb]
    unfold foldC foldI isL
    rcases h.2 with ⟨h1, _⟩ | ⟨_, h2⟩
    · omega
    · cases letter c.1.Rune with
      | true => rfl
      | false => simp [h2]
  · intro h0
    unfold foldC foldI; rw [not_letter_neg h0]; rfl
theorem fold_v (s : ByteArray) (hs : s.size ≤ 65536) : fold_Fold_v s = some (foldS s) := by
  unfold fold_Fold_v
  obtain ⟨hl, hc⟩ := clus_ok hs
  refine thenI (units_v s hs) (thenI (wr_plain (fun u => if letter u.base then plainR (lower u.base) else Utf8.encode u.base) _ (by rw [List.length_map]; omega) ?_) ?_)
  · intro u hu
    obtain ⟨c, hcm, rfl⟩ := List.mem_map.1 hu
    obtain ⟨h1, _⟩ := hc c hcm
    rcases toU_cases c h1 with ⟨g1, g2, _⟩ | ⟨g1, g2, g3, g4⟩
    · exact .inl ⟨g1, g2⟩
    · refine .inr ⟨g1, plain_v _ (by rw [toU_base c g2]; exact h1.1), ?_⟩
      split
      · have := plainR_size (lower (toU c).base); omega
      · have := enc_size4 (toU c).base; omega
  · rw [wr_of _ foldC s hs (fun c hcm h0 => (foldC_eq c (hc c hcm).1).1 h0) (fun c hcm h0 => (foldC_eq c (hc c hcm).1).2 h0)]; rfl
theorem sizeI_le {l : List Itm} {m : Nat} (h : ∀ x ∈ l, x.Text.size ≤ m) : sizeI l ≤ l.length * m := by
  unfold sizeI
  induction l with
  | nil => simp
  | cons x l ih =>
    have := ih (fun y hy => h y (List.mem_cons_of_mem _ hy))
    have := h x (List.mem_cons_self ..)
    simp only [List.map_cons, List.sum_cons, List.length_cons, Nat.add_mul, Nat.one_mul]; omega
theorem okT_size {x : Itm} (h : okT x) : x.Text.size ≤ 4 := by
  rcases h.2 with ⟨_, h⟩ | ⟨_, h⟩
  · omega
  · rw [h]; exact enc_size4 _
theorem foldI_size {x : Itm} (h : okT x) : (foldI x).Text.size ≤ 4 := by
  unfold foldI
  split
  · exact plainR_size _
  · exact okT_size h
theorem bareI_clus (s : ByteArray) : bareI (apL (itemsP s)) = (clus s).map Prod.fst := rfl
theorem rfold_v (s : ByteArray) (hs : s.size ≤ 65536) : ref04_Fold_v s = some (foldS s) := by
  unfold ref04_Fold_v
  obtain ⟨hl, hc⟩ := clus_ok hs
  refine thenI (folded_v s hs) ?_
  rw [bareI_clus, List.map_map]
  have hsz : sizeI ((clus s).map (foldI ∘ Prod.fst)) ≤ ((clus s).map (foldI ∘ Prod.fst)).length * 4 := sizeI_le (fun x hx => by
    obtain ⟨c, hcm, rfl⟩ := List.mem_map.1 hx
    exact foldI_size (hc c hcm).1)
  rw [List.length_map] at hsz
  refine thenI (text_v _ (by rw [List.length_map]; omega) (by omega)) ?_
  rw [catI_J, J_map]; rfl
theorem same_v (a b : ByteArray) (ha : a.size ≤ 65536) (hb : b.size ≤ 65536) : fold_Same_v a b = some (decide (foldS a = foldS b)) := thenI (fold_v a ha) (thenI (fold_v b hb) rfl)
end Go.Proofs.Ythjkafeklflgbaa
namespace Go.Proofs.Ythjkafeklflgbaa
open Go.RowKit Go.Lib
set_option linter.unusedVariables false
set_option linter.unusedSimpArgs false
def law04_wakes_v  : Option Bool := andThen (fold_Fold_v (⟨#[83, 116, 114, 97, 195, 159, 101, 204, 129]⟩ : ByteArray)) fun (r1 : ByteArray) => bcond (decide (r1 = (⟨#[115, 116, 114, 97, 115, 115, 101]⟩ : ByteArray))) ( andThen (fold_Same_v (⟨#[195, 137]⟩ : ByteArray) (⟨#[101]⟩ : ByteArray)) fun (r2 : Bool) => some r2
) ( some false
)
set_option maxRecDepth 100000 in
set_option maxHeartbeats 4000000 in
theorem law04_wakes_fn  {r : Bool} (h : law04_wakes_v = some r) : FnP Try.prog 12 [] (.bool r) := by
 unfold law04_wakes_v at h
 refine FnP.intro Try.func12 rfl Try.ntmps12 (by simp) ?_
 intro w0 K
 refine TC.seq (TC.region (TO.assign rfl dc rfl (TO.nil (TX.next (TC.seq (TC.region ?_))))))
 obtain ⟨r1, hq1, h⟩ := andE h
 refine TO.callP (v := .string r1) (vs := [.string (⟨#[83, 116, 114, 97, 195, 159, 101, 204, 129]⟩ : ByteArray)]) rfl dc rfl rfl rfl en_27 (fold_Fold_fn hq1) (TO.bin rfl dc rfl rfl bin_seql (TO.move rfl dc rfl ?_))
 refine TO.split (s := 3) rfl (fun hb1 => ?_) (fun hb1 => ?_)
 ·
  have h := condT hb1 h
  obtain ⟨r2, hq2, h⟩ := andE h
  refine TO.callP (v := .bool r2) (vs := [.string (⟨#[195, 137]⟩ : ByteArray), .string (⟨#[101]⟩ : ByteArray)]) rfl dc rfl rfl rfl en_13 (fold_Same_fn hq2) (TO.pick (b := true) rfl dc rfl rfl (TO.assign rfl dc rfl (TO.nil (TX.next (TC.ret ?_)))))
  cases h
  exact TX.fin (rs := [.tmp 0]) () (.inl rfl) Try.results12 (.cons (.tmp rfl) .nil) rfl Splits.nil
 ·
  have h := condF hb1 h
  refine TO.skip rfl dc (TO.pick (b := false) rfl dc rfl rfl (TO.assign rfl dc rfl (TO.nil (TX.next (TC.ret ?_)))))
  cases h
  exact TX.fin (rs := [.tmp 0]) () (.inl rfl) Try.results12 (.cons (.tmp rfl) .nil) rfl Splits.nil
end Go.Proofs.Ythjkafeklflgbaa
