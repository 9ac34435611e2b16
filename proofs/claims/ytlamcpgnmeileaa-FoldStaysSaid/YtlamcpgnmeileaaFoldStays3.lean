/-
  Texts laid together: LfU, Qe, LfW2, LfS, Qf, Qg, Qh, LfL, Qw, LfSt, LfFt, Qn, Qk, Qo, LfW0, LfW1, LfSa, LfFa, Qi, LfG2, LfW3, LfSg, LfF2, Qj, Qp, LfLk, Qs, Qv, Qu, Qz, SeqW, RefPcs, CaseW, RefW2, LawRunes, LawPcs, RefCase, Runs, Led, Fol, Lowered, Bytes. Nothing is assumed.
-/
import Derived.Test.YtlamcpgnmeileaaFoldStays2
import Derived.Test.YtlamcpgnmeileaaFoldStays1
import Derived.Lib.AppendStr
import Derived.Laws.IdiomStrings
import Derived.Lib.BufferRead
namespace Go.Proofs.Ytlamcpgnmeileaa
open Go.RowKit Go.Lib
set_option linter.unusedVariables false
set_option linter.unusedSimpArgs false
def fold_units_s2 (j3 : Int → Int → Int → (List Int) → (List Int) → Option (List Gfold_unit)) (r6 : (List Int)) (ag2 : Int → Int → Int → (List Int) → (List Int) → Int → Option (List Gfold_unit)) (u23 : Int) (u24 : Int) (u25 : Int) (u26 : List Int) (u27 : List Int) (x6 : Int) : Option (List Gfold_unit) := bcond (decide ((x6 : Int) < ((cutL r6 1 (r6.length : Int)).length : Int))) ( andThen (getO (cutL r6 1 (r6.length : Int)) x6) fun (q2 : Int) => andThen (fold_unit_mark_v (⟨u23, u24, u25, u26, u27⟩ : Gfold_unit) q2) fun (r7 : Gfold_unit) => grd (I64 (x6 + 1)) <| ag2 r7.at_ r7.broken r7.base r7.low r7.high (x6 + 1)
) ( j3 u23 u24 u25 u26 u27
)
def fold_units_s1 (s1 : ByteArray) (r1 : ((List (Gfold_pair × Int)) × (List (Int × Gfold_pair)))) (x1 : Gapi_Piece) (ag1 : (List Gfold_unit) → Option (List Gfold_unit)) (l4 : List Gfold_unit) : Option (List Gfold_unit) := bcond (x1.Broken) ( andThen (getB s1 x1.At) fun (c1 : Int) => grd (l4.length + 1 ≤ 2147483648) <| ag1 (l4 ++ [(⟨x1.At, c1, (-1), ([] : List Int), ([] : List Int)⟩ : Gfold_unit)])
) ( joinK (fun (j2 : Option (List Gfold_unit)) => bcond (decide ((0 : Int) < (l4.length : Int))) ( grd (I64 ((l4.length : Int) - 1)) <| andThen (getO l4 ((l4.length : Int) - 1)) fun (x2 : Gfold_unit) => andThen (fold_unit_letter_v x2) fun (r3 : Bool) => bcond (r3) ( grd (I32 x1.Rune) <| bcond (((kind x1.Rune) : Int) == 2) ( grd (I64 ((l4.length : Int) - 1)) <| andThen (getO l4 ((l4.length : Int) - 1)) fun (x3 : Gfold_unit) => andThen (fold_unit_mark_v x3 x1.Rune) fun (r4 : Gfold_unit) => ag1 (l4.set ((l4.length : Int) - 1 : Int).toNat r4)
) ( j2
)
) ( j2
)
) ( j2
)
) ( joinK (fun (j3 : Int → Int → Int → (List Int) → (List Int) → Option (List Gfold_unit)) => andThen (fold_unit_letter_v (⟨x1.At, 0, x1.Rune, ([] : List Int), ([] : List Int)⟩ : Gfold_unit)) fun (r5 : Bool) => bcond (r5) ( andThen (fold_parted_v r1.2 x1.Rune) fun (r6 : (List Int)) => andThen (getO r6 0) fun (q1 : Int) => grd (0 ≤ (1 : Int) ∧ (1 : Int) ≤ (r6.length : Int) ∧ ((r6.length : Int) : Int) ≤ (r6.length : Int)) <| loopG (fun _ _ _ _ _ _ => none) (fold_units_s2 j3 r6) fuel x1.At 0 q1 ([] : List Int) ([] : List Int) 0
) ( j3 x1.At 0 x1.Rune ([] : List Int) ([] : List Int)
)
) (fun (u1 : Int) (u2 : Int) (u3 : Int) (u4 : List Int) (u5 : List Int) => grd (l4.length + 1 ≤ 2147483648) <| ag1 (l4 ++ [(⟨u1, u2, u3, u4, u5⟩ : Gfold_unit)])
)
)
)
def fold_units_v (s1 : ByteArray) : Option (List Gfold_unit) := joinK (fun (j1 : (List Gfold_unit) → Option (List Gfold_unit)) => andThen (fold_tables_v) fun (r1 : ((List (Gfold_pair × Int)) × (List (Int × Gfold_pair)))) => andThen (runes_Pieces_v s1) fun (r2 : ByteArray) => andThen (runes_Pieces_1_v r2) fun (its1 : (List Gapi_Piece)) => joinK (fun (d1 : (List Gfold_unit) → Option (List Gfold_unit)) => rangeG d1 (fold_units_s1 s1 r1) its1 ([] : List Gfold_unit)
) (fun (l4 : List Gfold_unit) => j1 l4
)
) (fun (l1 : List Gfold_unit) => some l1
)
set_option maxRecDepth 100000 in
set_option maxHeartbeats 4000000 in
theorem fold_units_fn {s1 : ByteArray} {r : (List Gfold_unit)} (h : fold_units_v s1 = some r) : Fn Try.prog 24 [.string s1] [] (fun v0 : Value => v0) (fun v0 => [vecN encN_Gfold_unit nest_Gfold_unit 46 5 v0 r]) := by
 unfold fold_units_v at h
 refine Fn.intro Try.func24 rfl Try.ntmps24 (by simp) ?_
 intro w0 K
 refine TC.star0 ?_
 show TC _ _ _ _ _ _ _ _ _ [star ((([] : List Nat) : List Nat).map mark)]
 refine TC.seq (TC.region ?_)
 refine TO.box rfl dc rfl (fun b1 => ?_)
 refine TO.assign rfl dc rfl (TO.nil (TX.next ?_))
 refine TC.scope (β := Unit) (l := 0) (fun _ => False) (fun _ => []) (fun _ => []) rfl ?_ ?_
 ·
  obtain ⟨j1, hj1, h⟩ := joinE h
  refine TC.cutN (β := (List Gfold_unit) × Nat × Hd × (List Nat)) 3 rfl (fun b => j1 b.1 = some r) (fun b => marksOf b.2.2.2) (fun b => [(5, .pointer (some ⟨b.2.1, 0, none⟩))]) (fun b => [cells b.2.1 [b.2.2.1.v] 42, vecN encN_Gfold_unit nest_Gfold_unit 46 5 b.2.2.1.v b.1, star ((b.2.2.2 : List Nat).map mark)]) (fun cut => ?_) ?_
  ·
   refine TC.seq (TC.region ?_)
   obtain ⟨r1, hq1, h⟩ := andE h
   refine TO.call (vs := []) rfl dc rfl rfl rfl en_40 (fold_tables_fn hq1) Splits.nil ?_
   rintro ⟨b3, b4⟩
   show TO _ _ _ _ _ _ _ _ _ _ [star ((([] : List Nat) : List Nat).map mark), cells b1 [.string s1] 9, mapA (fun p : Gfold_pair => Value.agg #[.int .i32 p.e0, .int .i32 p.e1]) (fun n : Int => Value.int .i32 n) b3 r1.1, mapA (fun n : Int => Value.int .i32 n) (fun p : Gfold_pair => Value.agg #[.int .i32 p.e0, .int .i32 p.e1]) b4 r1.2]
   refine TO.weakenL (L' := [star ((([] : List Nat) : List Nat).map mark), cells b1 [.string s1] 9, mapA (fun p : Gfold_pair => Value.agg #[.int .i32 p.e0, .int .i32 p.e1]) (fun n : Int => Value.int .i32 n) b3 r1.1, mapA (fun n : Int => Value.int .i32 n) (fun p : Gfold_pair => Value.agg #[.int .i32 p.e0, .int .i32 p.e1]) b4 r1.2]) (Splits.of [0, 1, 2, 3] kr rfl) ?_
   refine TO.move rfl dc rfl (TO.extract rfl dc rfl rfl (TO.extract rfl dc rfl rfl ?_))
   refine TO.alloc zr_67 rfl dc (fun b5 => ?_)
   refine TO.assign rfl dc rfl ?_
   refine TO.store (k := 4) (l' := [.map (some b4)]) sz_67 rfl rfl rfl rfl rfl (fun _ _ => rfl) rfl ?_
   show TO _ _ _ _ _ _ _ _ _ _ [star ((([] : List Nat) : List Nat).map mark), cells b1 [.string s1] 9, mapA (fun p : Gfold_pair => Value.agg #[.int .i32 p.e0, .int .i32 p.e1]) (fun n : Int => Value.int .i32 n) b3 r1.1, mapA (fun n : Int => Value.int .i32 n) (fun p : Gfold_pair => Value.agg #[.int .i32 p.e0, .int .i32 p.e1]) b4 r1.2, cells b5 [.map (some b4)] 67]
   refine TO.nil (TX.next (TC.seq (TC.region ?_)))
   refine TO.alloc zr_42 rfl dc (fun b6 => ?_)
   refine TO.nil (TX.next (TC.seq (TC.label (TX.next (cut (TC.seq (TC.region (TO.load (k := 1) sc_9 rfl dc rfl rfl rfl ?_))))))))
   obtain ⟨r2, hq2, h⟩ := andE h
   refine TO.call (vs := [.string s1]) rfl dc rfl rfl rfl en_49 (runes_Pieces_fn hq2) Splits.nil ?_
   rintro b7
   show TO _ _ _ _ _ _ _ _ _ _ [star ((([] : List Nat) : List Nat).map mark), cells b1 [.string s1] 9, mapA (fun p : Gfold_pair => Value.agg #[.int .i32 p.e0, .int .i32 p.e1]) (fun n : Int => Value.int .i32 n) b3 r1.1, mapA (fun n : Int => Value.int .i32 n) (fun p : Gfold_pair => Value.agg #[.int .i32 p.e0, .int .i32 p.e1]) b4 r1.2, cells b5 [.map (some b4)] 67, cells b6 [.slice none 0 0] 42, cells b7 [.string r2] 9]
   refine TO.weakenL (L' := [star ((([] : List Nat) : List Nat).map mark), cells b1 [.string s1] 9, mapA (fun p : Gfold_pair => Value.agg #[.int .i32 p.e0, .int .i32 p.e1]) (fun n : Int => Value.int .i32 n) b3 r1.1, mapA (fun n : Int => Value.int .i32 n) (fun p : Gfold_pair => Value.agg #[.int .i32 p.e0, .int .i32 p.e1]) b4 r1.2, cells b5 [.map (some b4)] 67, cells b6 [.slice none 0 0] 42, cells b7 [.string r2] 9]) (Splits.of [0, 1, 2, 3, 4, 5, 6] kr rfl) ?_
   refine TO.nil (TX.next (TC.block ?_))
   obtain ⟨its1, hq3, h⟩ := andE h
   refine TC.newN (enc := encN_Gfold_unit) (nest := nest_Gfold_unit) (e := 46) (size := 5) ?_
   show TC _ _ _ _ _ _ _ _ _ [star ((([] : List Nat) : List Nat).map mark), cells b1 [.string s1] 9, mapA (fun p : Gfold_pair => Value.agg #[.int .i32 p.e0, .int .i32 p.e1]) (fun n : Int => Value.int .i32 n) b3 r1.1, mapA (fun n : Int => Value.int .i32 n) (fun p : Gfold_pair => Value.agg #[.int .i32 p.e0, .int .i32 p.e1]) b4 r1.2, cells b5 [.map (some b4)] 67, cells b6 [.slice none 0 0] 42, cells b7 [.string r2] 9, vecN encN_Gfold_unit nest_Gfold_unit 46 5 (.slice none 0 0) ([] : List Gfold_unit)]
   obtain ⟨d1, hd1, h⟩ := joinE h
   refine TC.range (α := Gapi_Piece) (β := (List Gfold_unit) × Hd) (γ := Unit) (δ := Nat) (ps := [18]) Ro.nil rfl en_73 (runes_Pieces_1_itr hq3) (fun pre b => ∀ post, its1 = pre ++ post → rangeG d1 (fold_units_s1 s1 r1) post b.1 = some r) (fun pre b => [cells b1 [.string s1] 9, cells b5 [.map (some b4)] 67, mapA (fun n : Int => Value.int .i32 n) (fun p : Gfold_pair => Value.agg #[.int .i32 p.e0, .int .i32 p.e1]) b4 r1.2, cells b6 [b.2.v] 42, vecN encN_Gfold_unit nest_Gfold_unit 46 5 b.2.v b.1]) (fun c pre g => False) (fun c pre g => []) (fun pre x b j => [(1, .pointer (some ⟨b1, 0, none⟩)), (2, .slice none 0 0), (4, .pointer (some ⟨b5, 0, none⟩)), (5, .pointer (some ⟨b6, 0, none⟩)), (17, .func (.func 73) #[] #[.pointer (some ⟨b7, 0, none⟩)]), (6, .pointer (some ⟨j, 0, none⟩))]) (fun pre x b j => [cells b1 [.string s1] 9, cells b5 [.map (some b4)] 67, mapA (fun n : Int => Value.int .i32 n) (fun p : Gfold_pair => Value.agg #[.int .i32 p.e0, .int .i32 p.e1]) b4 r1.2, cells b6 [b.2.v] 42, vecN encN_Gfold_unit nest_Gfold_unit 46 5 b.2.v b.1, cells j [.int .i64 x.At, .int .i64 x.Width, .int .i32 x.Rune, .bool x.Broken] 55]) (([] : List Gfold_unit), Hd.nil) (fun post e => by rw [List.nil_append] at e; subst e; exact h) (Splits.of [1, 4, 3, 5, 7] kr rfl) ⟨.inl ⟨6, rfl⟩, trivial⟩ (fun _ => rfl) dc ?_ ?_ ?_ ?_
   ·
    rintro lp rc pre x1 post ⟨l4, hd4⟩ w1 K1 hxs1 hext hro hinv
    refine TC.region ?_
    refine TO.alloc zr_55 rfl dc (fun b8 => ?_)
    refine TO.stores (k := 5) (vs := [.int .i64 x1.At, .int .i64 x1.Width, .int .i32 x1.Rune, .bool x1.Broken]) (l' := [.int .i64 x1.At, .int .i64 x1.Width, .int .i32 x1.Rune, .bool x1.Broken]) sz_55 rfl rfl rfl rfl rfl (show _ ≤ _ by simp) rfl rfl ?_
    show TO _ _ _ _ _ _ _ _ _ _ [cells b1 [.string s1] 9, cells b5 [.map (some b4)] 67, mapA (fun n : Int => Value.int .i32 n) (fun p : Gfold_pair => Value.agg #[.int .i32 p.e0, .int .i32 p.e1]) b4 r1.2, cells b6 [hd4.v] 42, vecN encN_Gfold_unit nest_Gfold_unit 46 5 hd4.v l4, cells b8 [.int .i64 x1.At, .int .i64 x1.Width, .int .i32 x1.Rune, .bool x1.Broken] 55]
    refine TO.nil ?_
    exact fun a w ha hw => ⟨b8, (Sbs.cons rfl (Sbs.cons rfl (Sbs.cons rfl (Sbs.cons rfl (Sbs.cons rfl (Sbs.cons rfl (Sbs.nil))))))) _ _ _ ha, hw.weaken (Splits.of [0, 1, 2, 3, 4, 5] kr rfl)⟩
   ·
    rintro lp rc pre x1 post1 ⟨l4, hd4⟩ jb1 w1 K1 hxs1 hext hro hinv
    have h := hinv (x1 :: post1) hxs1
    obtain ⟨ag1, hag1⟩ : ∃ ag, ag = rangeG d1 (fold_units_s1 s1 r1) post1 := ⟨_, rfl⟩
    have h : fold_units_s1 s1 r1 x1 ag1 l4 = some r := by rw [hag1]; exact h
    unfold fold_units_s1 at h
    show TC _ _ _ _ _ _ _ _ [(1, .pointer (some ⟨b1, 0, none⟩)), (2, .slice none 0 0), (4, .pointer (some ⟨b5, 0, none⟩)), (5, .pointer (some ⟨b6, 0, none⟩)), (17, .func (.func 73) #[] #[.pointer (some ⟨b7, 0, none⟩)]), (6, .pointer (some ⟨jb1, 0, none⟩))] [cells b1 [.string s1] 9, cells b5 [.map (some b4)] 67, mapA (fun n : Int => Value.int .i32 n) (fun p : Gfold_pair => Value.agg #[.int .i32 p.e0, .int .i32 p.e1]) b4 r1.2, cells b6 [hd4.v] 42, vecN encN_Gfold_unit nest_Gfold_unit 46 5 hd4.v l4, cells jb1 [.int .i64 x1.At, .int .i64 x1.Width, .int .i32 x1.Rune, .bool x1.Broken] 55]
    refine TC.block (TC.seq (TC.seq (TC.region (TO.fieldAddr fl_55_3 rfl dc rfl (show _ = 3 from rfl) (TO.load (k := 5) sc_4 rfl dc rfl rfl rfl (TO.nil (TX.next ?_)))))))
    refine TC.condB rfl (fun hb1 => ?_) (fun hb1 => ?_)
    ·
     have h := condT hb1 h
     refine TC.seq ?_
     obtain ⟨c1, hq4, h⟩ := andE h
     obtain ⟨hg1, h⟩ := grdE h
     refine TC.drawB (β := Nat) 9 8 _ [(0, 21, hd4.v), (1, 22, .pointer (some ⟨jb1, 0, none⟩)), (2, 23, .int .i64 x1.At), (3, 24, .string s1), (4, 25, .pointer (some ⟨jb1, 0, none⟩)), (5, 26, .int .i64 x1.At), (6, 27, .int .u8 c1), (7, 28, .agg #[.int .i64 x1.At, .int .u8 c1, .int .i32 (-1), .slice none 0 0, .slice none 0 0])] (fun b9 => [(29, .slice (some ⟨b9, 0, none⟩) 1 1)]) (fun b9 => [cells b1 [.string s1] 9, cells b5 [.map (some b4)] 67, mapA (fun n : Int => Value.int .i32 n) (fun p : Gfold_pair => Value.agg #[.int .i32 p.e0, .int .i32 p.e1]) b4 r1.2, cells b6 [hd4.v] 42, vecN encN_Gfold_unit nest_Gfold_unit 46 5 hd4.v l4, cells jb1 [.int .i64 x1.At, .int .i64 x1.Width, .int .i32 x1.Rune, .bool x1.Broken] 55, cells b9 [.int .i64 x1.At, .int .u8 c1, .int .i32 (-1), .slice none 0 0, .slice none 0 0] 46]) mixed kr kr rfl dc dc (by rfl) kr kr (DrawPreX.cons ?_ (DrawPreX.cons ?_ (DrawPreX.cons ?_ (DrawPreX.cons ?_ (DrawPreX.cons ?_ (DrawPreX.cons ?_ (DrawPreX.cons ?_ (DrawPreX.cons ?_ (DrawPreX.here DrawPreX.nil))))))))) (fun b9 => (DrawPreX.cons ?_ (DrawPreX.cons ?_ (DrawPreX.cons ?_ (DrawPreX.cons ?_ (DrawPreX.cons ?_ (DrawPreX.cons ?_ (DrawPreX.cons ?_ (DrawPreX.cons ?_ (DrawPreX.here DrawPreX.nil)))))))))) ?_ ?_
     ·
      intro D hn hd hcl hu hi
      refine TO.load (k := 3) sc_42 rfl dc (dl_old (by rfl) rfl) rfl rfl ?_
      exact TX.quiet 0 hu hi rfl
     ·
      intro D hn hd hcl hu hi
      refine TO.fieldAddr fl_55_0 rfl dc (dl_old (by rfl) rfl) (show _ = 0 from rfl) ?_
      exact TX.quiet 1 hu hi rfl
     ·
      intro D hn hd hcl hu hi
      refine TO.load (k := 5) sc_3 rfl dc (dl_lookup (m := 1) hu rfl (hd 1 dc)) rfl rfl ?_
      exact TX.quiet 2 hu hi rfl
     ·
      intro D hn hd hcl hu hi
      refine TO.load (k := 0) sc_9 rfl dc (dl_old (by rfl) rfl) rfl rfl ?_
      exact TX.quiet 3 hu hi rfl
     ·
      intro D hn hd hcl hu hi
      refine TO.fieldAddr fl_55_0 rfl dc (dl_old (by rfl) rfl) (show _ = 0 from rfl) ?_
      exact TX.quiet 4 hu hi rfl
     ·
      intro D hn hd hcl hu hi
      refine TO.load (k := 5) sc_3 rfl dc (dl_lookup (m := 4) hu rfl (hd 4 dc)) rfl rfl ?_
      exact TX.quiet 5 hu hi rfl
     ·
      intro D hn hd hcl hu hi
      refine TO.index rfl dc (dl_lookup (m := 3) hu rfl (hd 3 dc)) (dl_lookup (m := 5) hu rfl (hd 5 dc)) (index_stringI Try.underlying9 hq4) ?_
      exact TX.quiet 6 hu hi rfl
     ·
      intro D hn hd hcl hu hi
      refine TO.build (v := .agg #[.int .i64 x1.At, .int .u8 c1, .int .i32 (-1), .slice none 0 0, .slice none 0 0]) (ps := [(0, .tmp 23), (1, .tmp 27), (2, .const (.int .i32 (-1)))]) rfl dc (evP.cons (dl_lookup (m := 2) hu rfl (hd 2 dc)) (evP.cons (dl_lookup (m := 6) hu rfl (hd 6 dc)) (evP.cons rfl evP.nil))) (fun _ => by kernel_rfl) ?_
      exact TX.quiet 7 hu hi rfl
     ·
      intro D hn hd hcl hu hi
      refine TO.load (k := 3) sc_42 rfl dc (dl_old (by rfl) rfl) rfl rfl ?_
      exact TX.quiet 0 hu hi rfl
     ·
      intro D hn hd hcl hu hi
      refine TO.fieldAddr fl_55_0 rfl dc (dl_old (by rfl) rfl) (show _ = 0 from rfl) ?_
      exact TX.quiet 1 hu hi rfl
     ·
      intro D hn hd hcl hu hi
      refine TO.load (k := 5) sc_3 rfl dc (dl_lookup (m := 1) hu rfl (hd 1 dc)) rfl rfl ?_
      exact TX.quiet 2 hu hi rfl
     ·
      intro D hn hd hcl hu hi
      refine TO.load (k := 0) sc_9 rfl dc (dl_old (by rfl) rfl) rfl rfl ?_
      exact TX.quiet 3 hu hi rfl
     ·
      intro D hn hd hcl hu hi
      refine TO.fieldAddr fl_55_0 rfl dc (dl_old (by rfl) rfl) (show _ = 0 from rfl) ?_
      exact TX.quiet 4 hu hi rfl
     ·
      intro D hn hd hcl hu hi
      refine TO.load (k := 5) sc_3 rfl dc (dl_lookup (m := 4) hu rfl (hd 4 dc)) rfl rfl ?_
      exact TX.quiet 5 hu hi rfl
     ·
      intro D hn hd hcl hu hi
      refine TO.index rfl dc (dl_lookup (m := 3) hu rfl (hd 3 dc)) (dl_lookup (m := 5) hu rfl (hd 5 dc)) (index_stringI Try.underlying9 hq4) ?_
      exact TX.quiet 6 hu hi rfl
     ·
      intro D hn hd hcl hu hi
      refine TO.build (v := .agg #[.int .i64 x1.At, .int .u8 c1, .int .i32 (-1), .slice none 0 0, .slice none 0 0]) (ps := [(0, .tmp 23), (1, .tmp 27), (2, .const (.int .i32 (-1)))]) rfl dc (evP.cons (dl_lookup (m := 2) hu rfl (hd 2 dc)) (evP.cons (dl_lookup (m := 6) hu rfl (hd 6 dc)) (evP.cons rfl evP.nil))) (fun _ => by kernel_rfl) ?_
      exact TX.quiet 7 hu hi rfl
     ·
      intro D hn hd hcl
      refine TO.buildSlice (cs := [.int .i64 x1.At, .int .u8 c1, .int .i32 (-1), .slice none 0 0, .slice none 0 0]) (te := 46) (ps := [(0, .tmp 28)]) rfl dc (evP.cons (dl_lookup (m := 7) kr rfl (hd 7 dc)) evP.nil) (fun _ => by kernel_rfl) (fun b9 => ?_)
      exact fun a w ha hw => ⟨b9, Sbs.mid (by rfl) _ _ _ ha, hw⟩
     intro b9
     show TO _ _ _ _ _ _ _ _ _ _ [cells b1 [.string s1] 9, cells b5 [.map (some b4)] 67, mapA (fun n : Int => Value.int .i32 n) (fun p : Gfold_pair => Value.agg #[.int .i32 p.e0, .int .i32 p.e1]) b4 r1.2, cells b6 [hd4.v] 42, vecN encN_Gfold_unit nest_Gfold_unit 46 5 hd4.v l4, cells jb1 [.int .i64 x1.At, .int .i64 x1.Width, .int .i32 x1.Rune, .bool x1.Broken] 55, cells b9 [.int .i64 x1.At, .int .u8 c1, .int .i32 (-1), .slice none 0 0, .slice none 0 0] 46]
     refine TO.newVec (enc := (encI (.i32))) (e := 21) (size := 1) ?_
     show TO _ _ _ _ _ _ _ _ _ _ [cells b1 [.string s1] 9, cells b5 [.map (some b4)] 67, mapA (fun n : Int => Value.int .i32 n) (fun p : Gfold_pair => Value.agg #[.int .i32 p.e0, .int .i32 p.e1]) b4 r1.2, cells b6 [hd4.v] 42, vecN encN_Gfold_unit nest_Gfold_unit 46 5 hd4.v l4, cells jb1 [.int .i64 x1.At, .int .i64 x1.Width, .int .i32 x1.Rune, .bool x1.Broken] 55, cells b9 [.int .i64 x1.At, .int .u8 c1, .int .i32 (-1), .slice none 0 0, .slice none 0 0] 46, vec (encI (.i32)) 21 1 (.slice none 0 0) ([] : List Int)]
     refine TO.newVec (enc := (encI (.i32))) (e := 21) (size := 1) ?_
     show TO _ _ _ _ _ _ _ _ _ _ [cells b1 [.string s1] 9, cells b5 [.map (some b4)] 67, mapA (fun n : Int => Value.int .i32 n) (fun p : Gfold_pair => Value.agg #[.int .i32 p.e0, .int .i32 p.e1]) b4 r1.2, cells b6 [hd4.v] 42, vecN encN_Gfold_unit nest_Gfold_unit 46 5 hd4.v l4, cells jb1 [.int .i64 x1.At, .int .i64 x1.Width, .int .i32 x1.Rune, .bool x1.Broken] 55, cells b9 [.int .i64 x1.At, .int .u8 c1, .int .i32 (-1), .slice none 0 0, .slice none 0 0] 46, vec (encI (.i32)) 21 1 (.slice none 0 0) ([] : List Int), vec (encI (.i32)) 21 1 (.slice none 0 0) ([] : List Int)]
     refine TO.unfold1 (k := 4) rfl openE (fun zs1 hz1 => ?_)
     show TO _ _ _ _ _ _ _ _ _ _ [cells b1 [.string s1] 9, cells b5 [.map (some b4)] 67, mapA (fun n : Int => Value.int .i32 n) (fun p : Gfold_pair => Value.agg #[.int .i32 p.e0, .int .i32 p.e1]) b4 r1.2, cells b6 [hd4.v] 42, vec encN_Gfold_unit 46 5 hd4.v zs1, cells jb1 [.int .i64 x1.At, .int .i64 x1.Width, .int .i32 x1.Rune, .bool x1.Broken] 55, cells b9 [.int .i64 x1.At, .int .u8 c1, .int .i32 (-1), .slice none 0 0, .slice none 0 0] 46, vec (encI (.i32)) 21 1 (.slice none 0 0) ([] : List Int), vec (encI (.i32)) 21 1 (.slice none 0 0) ([] : List Int), own nest_Gfold_unit zs1]
     refine TO.appendVec (k := 4) (k2 := 6) (ys := [((⟨x1.At, c1, (-1), ([] : List Int), ([] : List Int)⟩ : Gfold_unit), (Hd.nil, Hd.nil))]) Try.underlying42 el_46 encN_Gfold_unit_len encN_Gfold_unit_one rfl dc rfl rfl rfl rfl rfl rfl (by rw [zlen hz1]; exact hg1) (fun v1 => ?_)
     show TO _ _ _ _ _ _ _ _ _ _ [cells b1 [.string s1] 9, cells b5 [.map (some b4)] 67, mapA (fun n : Int => Value.int .i32 n) (fun p : Gfold_pair => Value.agg #[.int .i32 p.e0, .int .i32 p.e1]) b4 r1.2, cells b6 [hd4.v] 42, vec encN_Gfold_unit 46 5 v1 (zs1 ++ [((⟨x1.At, c1, (-1), ([] : List Int), ([] : List Int)⟩ : Gfold_unit), (Hd.nil, Hd.nil))]), cells jb1 [.int .i64 x1.At, .int .i64 x1.Width, .int .i32 x1.Rune, .bool x1.Broken] 55, cells b9 [.int .i64 x1.At, .int .u8 c1, .int .i32 (-1), .slice none 0 0, .slice none 0 0] 46, vec (encI (.i32)) 21 1 (.slice none 0 0) ([] : List Int), vec (encI (.i32)) 21 1 (.slice none 0 0) ([] : List Int), own nest_Gfold_unit zs1]
     refine TO.nameHd (k := 4) rfl (fun hd5 he1 => ?_)
     subst he1
     refine TO.fold1 (k := 9) rfl (Splits.of [7, 8] kr rfl) rfl (ownApp (nest := nest_Gfold_unit) (zs := zs1) (z := ((⟨x1.At, c1, (-1), ([] : List Int), ([] : List Int)⟩ : Gfold_unit), (Hd.nil, Hd.nil)))) ?_
     show TO _ _ _ _ _ _ _ _ _ _ [cells b1 [.string s1] 9, cells b5 [.map (some b4)] 67, mapA (fun n : Int => Value.int .i32 n) (fun p : Gfold_pair => Value.agg #[.int .i32 p.e0, .int .i32 p.e1]) b4 r1.2, cells b6 [hd4.v] 42, vec encN_Gfold_unit 46 5 hd5.v (zs1 ++ [((⟨x1.At, c1, (-1), ([] : List Int), ([] : List Int)⟩ : Gfold_unit), (Hd.nil, Hd.nil))]), cells jb1 [.int .i64 x1.At, .int .i64 x1.Width, .int .i32 x1.Rune, .bool x1.Broken] 55, cells b9 [.int .i64 x1.At, .int .u8 c1, .int .i32 (-1), .slice none 0 0, .slice none 0 0] 46, emp, emp, own nest_Gfold_unit (zs1 ++ [((⟨x1.At, c1, (-1), ([] : List Int), ([] : List Int)⟩ : Gfold_unit), (Hd.nil, Hd.nil))])]
     refine TO.fold1 (k := 4) rfl (Splits.of [9] kr rfl) rfl (closeE (enc := encN_Gfold_unit) (nest := nest_Gfold_unit) (zapp hz1)) ?_
     show TO _ _ _ _ _ _ _ _ _ _ [cells b1 [.string s1] 9, cells b5 [.map (some b4)] 67, mapA (fun n : Int => Value.int .i32 n) (fun p : Gfold_pair => Value.agg #[.int .i32 p.e0, .int .i32 p.e1]) b4 r1.2, cells b6 [hd4.v] 42, vecN encN_Gfold_unit nest_Gfold_unit 46 5 hd5.v (l4 ++ [(⟨x1.At, c1, (-1), ([] : List Int), ([] : List Int)⟩ : Gfold_unit)]), cells jb1 [.int .i64 x1.At, .int .i64 x1.Width, .int .i32 x1.Rune, .bool x1.Broken] 55, cells b9 [.int .i64 x1.At, .int .u8 c1, .int .i32 (-1), .slice none 0 0, .slice none 0 0] 46, emp, emp, emp]
     refine TO.weakenL (L' := [cells b1 [.string s1] 9, cells b5 [.map (some b4)] 67, mapA (fun n : Int => Value.int .i32 n) (fun p : Gfold_pair => Value.agg #[.int .i32 p.e0, .int .i32 p.e1]) b4 r1.2, cells b6 [hd4.v] 42, vecN encN_Gfold_unit nest_Gfold_unit 46 5 hd5.v (l4 ++ [(⟨x1.At, c1, (-1), ([] : List Int), ([] : List Int)⟩ : Gfold_unit)]), cells jb1 [.int .i64 x1.At, .int .i64 x1.Width, .int .i32 x1.Rune, .bool x1.Broken] 55, cells b9 [.int .i64 x1.At, .int .u8 c1, .int .i32 (-1), .slice none 0 0, .slice none 0 0] 46]) (Splits.of [0, 1, 2, 3, 4, 5, 6] kr rfl) ?_
     refine TO.store (k := 3) (l' := [hd5.v]) sz_42 rfl rfl rfl rfl rfl (fun _ _ => rfl) rfl ?_
     show TO _ _ _ _ _ _ _ _ _ _ [cells b1 [.string s1] 9, cells b5 [.map (some b4)] 67, mapA (fun n : Int => Value.int .i32 n) (fun p : Gfold_pair => Value.agg #[.int .i32 p.e0, .int .i32 p.e1]) b4 r1.2, cells b6 [hd5.v] 42, vecN encN_Gfold_unit nest_Gfold_unit 46 5 hd5.v (l4 ++ [(⟨x1.At, c1, (-1), ([] : List Int), ([] : List Int)⟩ : Gfold_unit)]), cells jb1 [.int .i64 x1.At, .int .i64 x1.Width, .int .i32 x1.Rune, .bool x1.Broken] 55, cells b9 [.int .i64 x1.At, .int .u8 c1, .int .i32 (-1), .slice none 0 0, .slice none 0 0] 46]
     refine TO.nil (TX.next (TC.exit (TX.thenExit (TX.blockHere ?_))))
     exact TX.round (l4 ++ [(⟨x1.At, c1, (-1), ([] : List Int), ([] : List Int)⟩ : Gfold_unit)], hd5) (fun post2 e2 => by have e9 := snoc_post hxs1 e2; subst e9; subst hag1; exact h) (Splits.of [0, 1, 2, 3, 4] kr rfl)
    ·
     have h := condF hb1 h
     refine TC.skip (TX.next ?_)
     obtain ⟨j2, hj2, h⟩ := joinE h
     refine TC.cutN (β := Unit) 0 rfl (fun b => j2 = some r) (fun b => []) (fun b => [(1, .pointer (some ⟨b1, 0, none⟩)), (2, .slice none 0 0), (4, .pointer (some ⟨b5, 0, none⟩)), (5, .pointer (some ⟨b6, 0, none⟩)), (6, .pointer (some ⟨jb1, 0, none⟩)), (17, .func (.func 73) #[] #[.pointer (some ⟨b7, 0, none⟩)])]) (fun b => [cells b1 [.string s1] 9, cells b5 [.map (some b4)] 67, mapA (fun n : Int => Value.int .i32 n) (fun p : Gfold_pair => Value.agg #[.int .i32 p.e0, .int .i32 p.e1]) b4 r1.2, cells b6 [hd4.v] 42, vecN encN_Gfold_unit nest_Gfold_unit 46 5 hd4.v l4, cells jb1 [.int .i64 x1.At, .int .i64 x1.Width, .int .i32 x1.Rune, .bool x1.Broken] 55]) (fun cut => ?_) ?_
     ·
      refine cut (TC.seq (TC.region (TO.load (k := 3) sc_42 rfl dc rfl rfl rfl (TO.lenVecN (k := 4) rfl dc rfl rfl Try.underlying42 (TO.assign rfl dc rfl (TO.nil (TX.next (TC.seq (TC.region (TO.move rfl dc rfl (TO.bin rfl dc rfl rfl bin_gtr (TO.move rfl dc rfl ?_))))))))))))
      refine TO.split (s := 35) rfl (fun hb2 => ?_) (fun hb2 => ?_)
      ·
       have h := condT hb2 h
       refine TO.load (k := 3) sc_42 rfl dc rfl rfl rfl (TO.move rfl dc rfl ?_)
       obtain ⟨hg2, h⟩ := grdE h
       refine TO.bin rfl dc rfl rfl (bin_sub (r := (l4.length : Int) - 1) (IntWalk.i64_in _ hg2)) ?_
       refine TO.unfold1 (k := 4) rfl openE (fun zs2 hz2 => ?_)
       show TO _ _ _ _ _ _ _ _ _ _ [cells b1 [.string s1] 9, cells b5 [.map (some b4)] 67, mapA (fun n : Int => Value.int .i32 n) (fun p : Gfold_pair => Value.agg #[.int .i32 p.e0, .int .i32 p.e1]) b4 r1.2, cells b6 [hd4.v] 42, vec encN_Gfold_unit 46 5 hd4.v zs2, cells jb1 [.int .i64 x1.At, .int .i64 x1.Width, .int .i32 x1.Rune, .bool x1.Broken] 55, own nest_Gfold_unit zs2]
       obtain ⟨x2, hq5, h⟩ := andE h
       obtain ⟨⟨eh1, eh2⟩, eq1⟩ := getO_z hz2 hq5
       refine TO.indexVecI (k := 4) eq1 Try.underlying42 sz_46 rfl dc rfl rfl rfl rfl (TO.loadsVec (i := ((l4.length : Int) - 1 : Int).toNat) (j := 0) (k := 4) (q := (x2, (eh1, eh2))) (cs := [.int .i64 x2.at_, .int .u8 x2.broken, .int .i32 x2.base, eh1.v, eh2.v]) rw_46 encN_Gfold_unit_len rfl dc rfl rfl (getO_get eq1) rfl rfl rfl ?_)
       refine TO.unfold1 (k := 6) rfl (pullE (getO_get eq1)) (fun _ _ => ?_)
       show TO _ _ _ _ _ _ _ _ _ _ [cells b1 [.string s1] 9, cells b5 [.map (some b4)] 67, mapA (fun n : Int => Value.int .i32 n) (fun p : Gfold_pair => Value.agg #[.int .i32 p.e0, .int .i32 p.e1]) b4 r1.2, cells b6 [hd4.v] 42, vec encN_Gfold_unit 46 5 hd4.v zs2, cells jb1 [.int .i64 x1.At, .int .i64 x1.Width, .int .i32 x1.Rune, .bool x1.Broken] 55, own nest_Gfold_unit (zs2.eraseIdx (((l4.length : Int) - 1 : Int).toNat)), vec (encI (.i32)) 21 1 eh1.v x2.low, vec (encI (.i32)) 21 1 eh2.v x2.high]
       obtain ⟨r3, hq6, h⟩ := andE h
       refine TO.callK (v := .bool r3) (vs := [.agg #[.int .i64 x2.at_, .int .u8 x2.broken, .int .i32 x2.base, eh1.v, eh2.v]]) rfl dc rfl rfl rfl en_42 (fold_unit_letter_fn (u1 := x2) (u1_h0 := eh1) (u1_h1 := eh2) hq6) [7, 8] kr rfl (TO.pick (b := true) rfl dc rfl rfl (TO.move rfl dc rfl ?_))
       refine TO.split (s := 43) rfl (fun hb3 => ?_) (fun hb3 => ?_)
       ·
        have h := condT hb3 h
        refine TO.fieldAddr fl_55_2 rfl dc rfl (show _ = 2 from rfl) (TO.load (k := 5) sc_21 rfl dc rfl rfl rfl ?_)
        obtain ⟨hg3, h⟩ := grdE h
        refine TO.callP (v := .int .i64 (kind x1.Rune)) (vs := [.int .i32 x1.Rune]) rfl dc rfl rfl rfl en_16 (FnP.of_same fun w => kind_any x1.Rune w hg3.1 hg3.2) ?_
        refine TO.bin rfl dc rfl rfl bin_eql (TO.pick (b := true) rfl dc rfl rfl (TO.nil (TX.next ?_)))
        refine TC.condB rfl (fun hb4 => ?_) (fun hb4 => ?_)
        ·
         have h := condT hb4 h
         refine TC.seq (TC.fold1 (k := 6) rfl (Splits.of [7, 8] kr rfl) rfl (pushE (nest := nest_Gfold_unit) (getO_get eq1) rfl) ?_)
         show TC _ _ _ _ _ _ _ _ _ [cells b1 [.string s1] 9, cells b5 [.map (some b4)] 67, mapA (fun n : Int => Value.int .i32 n) (fun p : Gfold_pair => Value.agg #[.int .i32 p.e0, .int .i32 p.e1]) b4 r1.2, cells b6 [hd4.v] 42, vec encN_Gfold_unit 46 5 hd4.v zs2, cells jb1 [.int .i64 x1.At, .int .i64 x1.Width, .int .i32 x1.Rune, .bool x1.Broken] 55, own nest_Gfold_unit zs2, emp, emp]
         obtain ⟨hg4, h⟩ := grdE h
         obtain ⟨x3, hq7, h⟩ := andE h
         obtain ⟨⟨eh3, eh4⟩, eq2⟩ := getO_z hz2 hq7
         obtain ⟨r4, hq8, h⟩ := andE h
         refine TC.drawN 6 [(0, 49, hd4.v), (1, 50, .int .i64 (l4.length : Int)), (2, 51, .int .i64 ((l4.length : Int) - 1)), (3, 52, .pointer (some ⟨vblk hd4.v, ((l4.length : Int) - 1 : Int).toNat * 5, none⟩)), (4, 53, .pointer (some ⟨jb1, 2, none⟩)), (5, 54, .int .i32 x1.Rune)] mixed kr kr dc (by rfl) kr kr (DrawPre.cons ?_ (DrawPre.cons ?_ (DrawPre.cons ?_ (DrawPre.cons ?_ (DrawPre.cons ?_ (DrawPre.cons ?_ DrawPre.nil)))))) ?_
         ·
          intro D hn hd hcl hu hi
          refine TO.load (k := 3) sc_42 rfl dc (dl_old (by rfl) rfl) rfl rfl ?_
          exact TX.quiet 0 hu hi rfl
         ·
          intro D hn hd hcl hu hi
          refine TO.move rfl dc (dl_old (by rfl) rfl) ?_
          exact TX.quiet 1 hu hi rfl
         ·
          intro D hn hd hcl hu hi
          refine TO.bin rfl dc (dl_lookup (m := 1) hu rfl (hd 1 dc)) rfl (bin_sub (r := (l4.length : Int) - 1) (IntWalk.i64_in _ hg4)) ?_
          exact TX.quiet 2 hu hi rfl
         ·
          intro D hn hd hcl hu hi
          refine TO.indexVecI (k := 4) eq2 Try.underlying42 sz_46 rfl dc (dl_lookup (m := 0) hu rfl (hd 0 dc)) (dl_lookup (m := 2) hu rfl (hd 2 dc)) rfl rfl ?_
          exact TX.quiet 3 hu hi rfl
         ·
          intro D hn hd hcl hu hi
          refine TO.fieldAddr fl_55_2 rfl dc (dl_old (by rfl) rfl) (show _ = 2 from rfl) ?_
          exact TX.quiet 4 hu hi rfl
         ·
          intro D hn hd hcl hu hi
          refine TO.load (k := 5) sc_21 rfl dc (dl_lookup (m := 4) hu rfl (hd 4 dc)) rfl rfl ?_
          exact TX.quiet 5 hu hi rfl
         refine TO.unfold1 (k := 6) rfl (pullE (getO_get eq2)) (fun _ _ => ?_)
         show TO _ _ _ _ _ _ _ _ _ _ [cells b1 [.string s1] 9, cells b5 [.map (some b4)] 67, mapA (fun n : Int => Value.int .i32 n) (fun p : Gfold_pair => Value.agg #[.int .i32 p.e0, .int .i32 p.e1]) b4 r1.2, cells b6 [hd4.v] 42, vec encN_Gfold_unit 46 5 hd4.v zs2, cells jb1 [.int .i64 x1.At, .int .i64 x1.Width, .int .i32 x1.Rune, .bool x1.Broken] 55, own nest_Gfold_unit (zs2.eraseIdx (((l4.length : Int) - 1 : Int).toNat)), emp, emp, vec (encI (.i32)) 21 1 eh3.v x3.low, vec (encI (.i32)) 21 1 eh4.v x3.high]
         refine TO.call (vs := [.pointer (some ⟨vblk hd4.v, ((l4.length : Int) - 1 : Int).toNat * 5, none⟩), .int .i32 x1.Rune]) rfl dc rfl rfl rfl en_50 (fold_unit_mark_fn (vu1 := hd4.v) (u1 := x3) (u1_h0 := eh3) (u1_h1 := eh4) (getO_get eq2) hq8) (Splits.of [4, 9, 10] kr rfl) ?_
         rintro ⟨hd6, hd7⟩
         show TO _ _ _ _ _ _ _ _ _ _ [cells b1 [.string s1] 9, cells b5 [.map (some b4)] 67, mapA (fun n : Int => Value.int .i32 n) (fun p : Gfold_pair => Value.agg #[.int .i32 p.e0, .int .i32 p.e1]) b4 r1.2, cells b6 [hd4.v] 42, emp, cells jb1 [.int .i64 x1.At, .int .i64 x1.Width, .int .i32 x1.Rune, .bool x1.Broken] 55, own nest_Gfold_unit (zs2.eraseIdx (((l4.length : Int) - 1 : Int).toNat)), emp, emp, emp, emp, vec encN_Gfold_unit 46 5 hd4.v (zs2.set (((l4.length : Int) - 1 : Int).toNat) (r4, (hd6, hd7))), vec (encI (.i32)) 21 1 hd6.v r4.low, vec (encI (.i32)) 21 1 hd7.v r4.high]
         refine TO.weakenL (L' := [cells b1 [.string s1] 9, cells b5 [.map (some b4)] 67, mapA (fun n : Int => Value.int .i32 n) (fun p : Gfold_pair => Value.agg #[.int .i32 p.e0, .int .i32 p.e1]) b4 r1.2, cells b6 [hd4.v] 42, vec encN_Gfold_unit 46 5 hd4.v (zs2.set (((l4.length : Int) - 1 : Int).toNat) (r4, (hd6, hd7))), cells jb1 [.int .i64 x1.At, .int .i64 x1.Width, .int .i32 x1.Rune, .bool x1.Broken] 55, own nest_Gfold_unit (zs2.eraseIdx (((l4.length : Int) - 1 : Int).toNat)), emp, emp, emp, emp, vec (encI (.i32)) 21 1 hd6.v r4.low, vec (encI (.i32)) 21 1 hd7.v r4.high]) (Splits.of [0, 1, 2, 3, 11, 5, 6, 7, 8, 9, 10, 12, 13] kr rfl) ?_
         refine TO.fold1 (k := 6) rfl (Splits.of [11, 12] kr rfl) rfl (pushE (nest := nest_Gfold_unit) (zs := zs2) (z := (r4, (hd6, hd7))) (set_get (getO_get eq2)) set_erase) ?_
         show TO _ _ _ _ _ _ _ _ _ _ [cells b1 [.string s1] 9, cells b5 [.map (some b4)] 67, mapA (fun n : Int => Value.int .i32 n) (fun p : Gfold_pair => Value.agg #[.int .i32 p.e0, .int .i32 p.e1]) b4 r1.2, cells b6 [hd4.v] 42, vec encN_Gfold_unit 46 5 hd4.v (zs2.set (((l4.length : Int) - 1 : Int).toNat) (r4, (hd6, hd7))), cells jb1 [.int .i64 x1.At, .int .i64 x1.Width, .int .i32 x1.Rune, .bool x1.Broken] 55, own nest_Gfold_unit (zs2.set (((l4.length : Int) - 1 : Int).toNat) (r4, (hd6, hd7))), emp, emp, emp, emp, emp, emp]
         refine TO.weakenL (L' := [cells b1 [.string s1] 9, cells b5 [.map (some b4)] 67, mapA (fun n : Int => Value.int .i32 n) (fun p : Gfold_pair => Value.agg #[.int .i32 p.e0, .int .i32 p.e1]) b4 r1.2, cells b6 [hd4.v] 42, vec encN_Gfold_unit 46 5 hd4.v (zs2.set (((l4.length : Int) - 1 : Int).toNat) (r4, (hd6, hd7))), cells jb1 [.int .i64 x1.At, .int .i64 x1.Width, .int .i32 x1.Rune, .bool x1.Broken] 55, own nest_Gfold_unit (zs2.set (((l4.length : Int) - 1 : Int).toNat) (r4, (hd6, hd7))), emp, emp]) (Splits.of [0, 1, 2, 3, 4, 5, 6, 7, 8] kr rfl) ?_
         refine TO.nil (TX.next (TC.exit (TX.thenExit (TX.blockHere (TX.fold1 (k := 4) rfl (Splits.of [6] kr rfl) rfl (closeE (enc := encN_Gfold_unit) (nest := nest_Gfold_unit) (zset hz2)) ?_)))))
         show TX _ _ _ _ _ _ _ [cells b1 [.string s1] 9, cells b5 [.map (some b4)] 67, mapA (fun n : Int => Value.int .i32 n) (fun p : Gfold_pair => Value.agg #[.int .i32 p.e0, .int .i32 p.e1]) b4 r1.2, cells b6 [hd4.v] 42, vecN encN_Gfold_unit nest_Gfold_unit 46 5 hd4.v (l4.set ((l4.length : Int) - 1 : Int).toNat r4), cells jb1 [.int .i64 x1.At, .int .i64 x1.Width, .int .i32 x1.Rune, .bool x1.Broken] 55, emp, emp, emp]
         exact TX.round (l4.set ((l4.length : Int) - 1 : Int).toNat r4, hd4) (fun post2 e2 => by have e9 := snoc_post hxs1 e2; subst e9; subst hag1; exact h) (Splits.of [0, 1, 2, 3, 4] kr rfl)
        ·
         have h := condF hb4 h
         refine TC.skip (TX.fold1 (k := 6) rfl (Splits.of [7, 8] kr rfl) rfl (pushE (nest := nest_Gfold_unit) (getO_get eq1) rfl) ?_)
         show TX _ _ _ _ _ _ _ [cells b1 [.string s1] 9, cells b5 [.map (some b4)] 67, mapA (fun n : Int => Value.int .i32 n) (fun p : Gfold_pair => Value.agg #[.int .i32 p.e0, .int .i32 p.e1]) b4 r1.2, cells b6 [hd4.v] 42, vec encN_Gfold_unit 46 5 hd4.v zs2, cells jb1 [.int .i64 x1.At, .int .i64 x1.Width, .int .i32 x1.Rune, .bool x1.Broken] 55, own nest_Gfold_unit zs2, emp, emp]
         refine TX.fold1 (k := 4) rfl (Splits.of [6] kr rfl) rfl (closeE (enc := encN_Gfold_unit) (nest := nest_Gfold_unit) hz2) ?_
         show TX _ _ _ _ _ _ _ [cells b1 [.string s1] 9, cells b5 [.map (some b4)] 67, mapA (fun n : Int => Value.int .i32 n) (fun p : Gfold_pair => Value.agg #[.int .i32 p.e0, .int .i32 p.e1]) b4 r1.2, cells b6 [hd4.v] 42, vecN encN_Gfold_unit nest_Gfold_unit 46 5 hd4.v l4, cells jb1 [.int .i64 x1.At, .int .i64 x1.Width, .int .i32 x1.Rune, .bool x1.Broken] 55, emp, emp, emp]
         exact TX.meetD () h rfl (Sbs.cons rfl (Sbs.cons rfl (Sbs.cons rfl (Sbs.cons rfl (Sbs.cons rfl (Sbs.cons rfl (Sbs.nil))))))) (Splits.of [0, 1, 2, 3, 4, 5] kr rfl)
       ·
        have h := condF hb3 h
        refine TO.skip rfl dc (TO.skip rfl dc (TO.skip rfl dc (TO.skip rfl dc (TO.pick (b := false) rfl dc rfl rfl (TO.nil (TX.next (TC.condF rfl (TC.skip (TX.fold1 (k := 6) rfl (Splits.of [7, 8] kr rfl) rfl (pushE (nest := nest_Gfold_unit) (getO_get eq1) rfl) ?_)))))))))
        show TX _ _ _ _ _ _ _ [cells b1 [.string s1] 9, cells b5 [.map (some b4)] 67, mapA (fun n : Int => Value.int .i32 n) (fun p : Gfold_pair => Value.agg #[.int .i32 p.e0, .int .i32 p.e1]) b4 r1.2, cells b6 [hd4.v] 42, vec encN_Gfold_unit 46 5 hd4.v zs2, cells jb1 [.int .i64 x1.At, .int .i64 x1.Width, .int .i32 x1.Rune, .bool x1.Broken] 55, own nest_Gfold_unit zs2, emp, emp]
        refine TX.fold1 (k := 4) rfl (Splits.of [6] kr rfl) rfl (closeE (enc := encN_Gfold_unit) (nest := nest_Gfold_unit) hz2) ?_
        show TX _ _ _ _ _ _ _ [cells b1 [.string s1] 9, cells b5 [.map (some b4)] 67, mapA (fun n : Int => Value.int .i32 n) (fun p : Gfold_pair => Value.agg #[.int .i32 p.e0, .int .i32 p.e1]) b4 r1.2, cells b6 [hd4.v] 42, vecN encN_Gfold_unit nest_Gfold_unit 46 5 hd4.v l4, cells jb1 [.int .i64 x1.At, .int .i64 x1.Width, .int .i32 x1.Rune, .bool x1.Broken] 55, emp, emp, emp]
        exact TX.meetD () h rfl (Sbs.cons rfl (Sbs.cons rfl (Sbs.cons rfl (Sbs.cons rfl (Sbs.cons rfl (Sbs.cons rfl (Sbs.nil))))))) (Splits.of [0, 1, 2, 3, 4, 5] kr rfl)
      ·
       have h := condF hb2 h
       refine TO.skip rfl dc (TO.skip rfl dc (TO.skip rfl dc (TO.skip rfl dc (TO.skip rfl dc (TO.skip rfl dc (TO.pick (b := false) rfl dc rfl rfl (TO.move rfl dc rfl (TO.skip rfl dc (TO.skip rfl dc (TO.skip rfl dc (TO.skip rfl dc (TO.pick (b := false) rfl dc rfl rfl (TO.nil ?_)))))))))))))
       refine TX.next (TC.condF rfl (TC.skip ?_))
       exact TX.meetD () h rfl (Sbs.cons rfl (Sbs.cons rfl (Sbs.cons rfl (Sbs.cons rfl (Sbs.cons rfl (Sbs.cons rfl (Sbs.nil))))))) (Splits.of [0, 1, 2, 3, 4, 5] kr rfl)
     ·
      rintro _ h
      rw [hj2] at h
      show TC _ _ _ _ _ ([]) _ _ [(1, .pointer (some ⟨b1, 0, none⟩)), (2, .slice none 0 0), (4, .pointer (some ⟨b5, 0, none⟩)), (5, .pointer (some ⟨b6, 0, none⟩)), (6, .pointer (some ⟨jb1, 0, none⟩)), (17, .func (.func 73) #[] #[.pointer (some ⟨b7, 0, none⟩)])] [cells b1 [.string s1] 9, cells b5 [.map (some b4)] 67, mapA (fun n : Int => Value.int .i32 n) (fun p : Gfold_pair => Value.agg #[.int .i32 p.e0, .int .i32 p.e1]) b4 r1.2, cells b6 [hd4.v] 42, vecN encN_Gfold_unit nest_Gfold_unit 46 5 hd4.v l4, cells jb1 [.int .i64 x1.At, .int .i64 x1.Width, .int .i32 x1.Rune, .bool x1.Broken] 55]
      obtain ⟨j3, hj3, h⟩ := joinE h
      refine TC.cutN (β := Int × Int × Int × (List Int) × (List Int) × Nat × Hd × Hd) 1 rfl (fun b => j3 b.1 b.2.1 b.2.2.1 b.2.2.2.1 b.2.2.2.2.1 = some r) (fun b => []) (fun b => [(1, .pointer (some ⟨b1, 0, none⟩)), (2, .slice none 0 0), (4, .pointer (some ⟨b5, 0, none⟩)), (5, .pointer (some ⟨b6, 0, none⟩)), (8, .pointer (some ⟨b.2.2.2.2.2.1, 0, none⟩)), (17, .func (.func 73) #[] #[.pointer (some ⟨b7, 0, none⟩)])]) (fun b => [cells b1 [.string s1] 9, cells b5 [.map (some b4)] 67, mapA (fun n : Int => Value.int .i32 n) (fun p : Gfold_pair => Value.agg #[.int .i32 p.e0, .int .i32 p.e1]) b4 r1.2, cells b6 [hd4.v] 42, vecN encN_Gfold_unit nest_Gfold_unit 46 5 hd4.v l4, cells b.2.2.2.2.2.1 [.int .i64 b.1, .int .u8 b.2.1, .int .i32 b.2.2.1, b.2.2.2.2.2.2.1.v, b.2.2.2.2.2.2.2.v] 46, vec (encI (.i32)) 21 1 b.2.2.2.2.2.2.1.v b.2.2.2.1, vec (encI (.i32)) 21 1 b.2.2.2.2.2.2.2.v b.2.2.2.2.1]) (fun cut => ?_) ?_
      ·
       refine TC.seq (TC.region (TO.fieldAddr fl_55_0 rfl dc rfl (show _ = 0 from rfl) (TO.load (k := 5) sc_3 rfl dc rfl rfl rfl (TO.fieldAddr fl_55_2 rfl dc rfl (show _ = 2 from rfl) (TO.load (k := 5) sc_21 rfl dc rfl rfl rfl ?_)))))
       refine TO.build (v := .agg #[.int .i64 x1.At, .int .u8 0, .int .i32 x1.Rune, .slice none 0 0, .slice none 0 0]) (ps := [(0, .tmp 57), (2, .tmp 59)]) rfl dc rfl (fun _ => by kernel_rfl) ?_
       refine TO.alloc zr_46 rfl dc (fun b11 => ?_)
       refine TO.stores (k := 6) (vs := [.int .i64 x1.At, .int .u8 0, .int .i32 x1.Rune, .slice none 0 0, .slice none 0 0]) (l' := [.int .i64 x1.At, .int .u8 0, .int .i32 x1.Rune, .slice none 0 0, .slice none 0 0]) sz_46 rfl rfl rfl rfl rfl (show _ ≤ _ by simp) rfl rfl ?_
       show TO _ _ _ _ _ _ _ _ _ _ [cells b1 [.string s1] 9, cells b5 [.map (some b4)] 67, mapA (fun n : Int => Value.int .i32 n) (fun p : Gfold_pair => Value.agg #[.int .i32 p.e0, .int .i32 p.e1]) b4 r1.2, cells b6 [hd4.v] 42, vecN encN_Gfold_unit nest_Gfold_unit 46 5 hd4.v l4, cells jb1 [.int .i64 x1.At, .int .i64 x1.Width, .int .i32 x1.Rune, .bool x1.Broken] 55, cells b11 [.int .i64 x1.At, .int .u8 0, .int .i32 x1.Rune, .slice none 0 0, .slice none 0 0] 46]
       refine TO.nil (TX.next (cut (TC.seq (TC.region (TO.loads (k := 6) (cs := [.int .i64 x1.At, .int .u8 0, .int .i32 x1.Rune, .slice none 0 0, .slice none 0 0]) rw_46 rfl dc rfl rfl rfl rfl (TO.newVec (enc := (encI (.i32))) (e := 21) (size := 1) ?_))))))
       show TO _ _ _ _ _ _ _ _ _ _ [cells b1 [.string s1] 9, cells b5 [.map (some b4)] 67, mapA (fun n : Int => Value.int .i32 n) (fun p : Gfold_pair => Value.agg #[.int .i32 p.e0, .int .i32 p.e1]) b4 r1.2, cells b6 [hd4.v] 42, vecN encN_Gfold_unit nest_Gfold_unit 46 5 hd4.v l4, cells jb1 [.int .i64 x1.At, .int .i64 x1.Width, .int .i32 x1.Rune, .bool x1.Broken] 55, cells b11 [.int .i64 x1.At, .int .u8 0, .int .i32 x1.Rune, .slice none 0 0, .slice none 0 0] 46, vec (encI (.i32)) 21 1 (.slice none 0 0) ([] : List Int)]
       refine TO.newVec (enc := (encI (.i32))) (e := 21) (size := 1) ?_
       show TO _ _ _ _ _ _ _ _ _ _ [cells b1 [.string s1] 9, cells b5 [.map (some b4)] 67, mapA (fun n : Int => Value.int .i32 n) (fun p : Gfold_pair => Value.agg #[.int .i32 p.e0, .int .i32 p.e1]) b4 r1.2, cells b6 [hd4.v] 42, vecN encN_Gfold_unit nest_Gfold_unit 46 5 hd4.v l4, cells jb1 [.int .i64 x1.At, .int .i64 x1.Width, .int .i32 x1.Rune, .bool x1.Broken] 55, cells b11 [.int .i64 x1.At, .int .u8 0, .int .i32 x1.Rune, .slice none 0 0, .slice none 0 0] 46, vec (encI (.i32)) 21 1 (.slice none 0 0) ([] : List Int), vec (encI (.i32)) 21 1 (.slice none 0 0) ([] : List Int)]
       obtain ⟨r5, hq9, h⟩ := andE h
       refine TO.callK (v := .bool r5) (vs := [.agg #[.int .i64 x1.At, .int .u8 0, .int .i32 x1.Rune, .slice none 0 0, .slice none 0 0]]) rfl dc rfl rfl rfl en_42 (fold_unit_letter_fn (u1 := (⟨x1.At, 0, x1.Rune, ([] : List Int), ([] : List Int)⟩ : Gfold_unit)) (u1_h0 := Hd.nil) (u1_h1 := Hd.nil) hq9) [7, 8] kr rfl (TO.nil (TX.next ?_))
       refine TC.condB rfl (fun hb5 => ?_) (fun hb5 => ?_)
       ·
        have h := condT hb5 h
        refine TC.seq (TC.region (TO.load (k := 1) sc_67 rfl dc rfl rfl rfl (TO.fieldAddr fl_55_2 rfl dc rfl (show _ = 2 from rfl) (TO.load (k := 5) sc_21 rfl dc rfl rfl rfl ?_))))
        obtain ⟨r6, hq10, h⟩ := andE h
        refine TO.call (vs := [.map (some b4), .int .i32 x1.Rune]) rfl dc rfl rfl rfl en_51 (fold_parted_fn hq10) (Splits.of [2] kr rfl) ?_
        rintro v2
        show TO _ _ _ _ _ _ _ _ _ _ [cells b1 [.string s1] 9, cells b5 [.map (some b4)] 67, emp, cells b6 [hd4.v] 42, vecN encN_Gfold_unit nest_Gfold_unit 46 5 hd4.v l4, cells jb1 [.int .i64 x1.At, .int .i64 x1.Width, .int .i32 x1.Rune, .bool x1.Broken] 55, cells b11 [.int .i64 x1.At, .int .u8 0, .int .i32 x1.Rune, .slice none 0 0, .slice none 0 0] 46, vec (encI (.i32)) 21 1 (.slice none 0 0) ([] : List Int), vec (encI (.i32)) 21 1 (.slice none 0 0) ([] : List Int), mapA (fun n : Int => Value.int .i32 n) (fun p : Gfold_pair => Value.agg #[.int .i32 p.e0, .int .i32 p.e1]) b4 r1.2, vec (encI (.i32)) 21 1 v2 r6]
        refine TO.weakenL (L' := [cells b1 [.string s1] 9, cells b5 [.map (some b4)] 67, mapA (fun n : Int => Value.int .i32 n) (fun p : Gfold_pair => Value.agg #[.int .i32 p.e0, .int .i32 p.e1]) b4 r1.2, cells b6 [hd4.v] 42, vecN encN_Gfold_unit nest_Gfold_unit 46 5 hd4.v l4, cells jb1 [.int .i64 x1.At, .int .i64 x1.Width, .int .i32 x1.Rune, .bool x1.Broken] 55, cells b11 [.int .i64 x1.At, .int .u8 0, .int .i32 x1.Rune, .slice none 0 0, .slice none 0 0] 46, vec (encI (.i32)) 21 1 (.slice none 0 0) ([] : List Int), vec (encI (.i32)) 21 1 (.slice none 0 0) ([] : List Int), vec (encI (.i32)) 21 1 v2 r6]) (Splits.of [0, 1, 9, 3, 4, 5, 6, 7, 8, 10] kr rfl) ?_
        refine TO.nameHd (k := 9) rfl (fun hd10 he2 => ?_)
        subst he2
        refine TO.assign rfl dc rfl (TO.nil (TX.next (TC.seq (TC.region (TO.move rfl dc rfl ?_)))))
        obtain ⟨q1, hq11, h⟩ := andE h
        refine TO.indexVecI (k := 9) hq11 Try.underlying44 sz_21 rfl dc rfl rfl rfl rfl (TO.loadVec (i := (0 : Int).toNat) (j := 0) (k := 9) (q := q1) sc_21 encI_len rfl dc rfl rfl (getO_get hq11) rfl dc rfl (TO.fieldAddr fl_46_2 rfl dc rfl (show _ = 2 from rfl) ?_))
        refine TO.store (k := 6) (l' := [.int .i64 x1.At, .int .u8 0, .int .i32 q1, .slice none 0 0, .slice none 0 0]) sz_21 rfl rfl rfl rfl rfl (fun _ _ => rfl) rfl ?_
        refine TO.nil (TX.next (TC.seq (TC.region (TO.move rfl dc rfl ?_))))
        refine TO.vecVw (k := 9) rfl (fun hw1 => ?_)
        obtain ⟨hg5, h⟩ := grdE h
        obtain ⟨v3, hv1, hs1⟩ := slice_Vw (lo := some (.int .i64 1)) (hi := none) hw1 Try.underlying44 sz_21 (.inr rfl) (.inl ⟨rfl, rfl⟩) hg5
        refine TO.slice rfl dc rfl rfl rfl hs1 (TO.lenVw hv1 rfl dc rfl Try.underlying44 (TO.move rfl dc rfl (TO.nil (TX.next (TC.block (TC.newVec (enc := (encI (.i32))) (e := 21) (size := 1) ?_))))))
        show TC _ _ _ _ _ _ _ _ _ [cells b1 [.string s1] 9, cells b5 [.map (some b4)] 67, mapA (fun n : Int => Value.int .i32 n) (fun p : Gfold_pair => Value.agg #[.int .i32 p.e0, .int .i32 p.e1]) b4 r1.2, cells b6 [hd4.v] 42, vecN encN_Gfold_unit nest_Gfold_unit 46 5 hd4.v l4, cells jb1 [.int .i64 x1.At, .int .i64 x1.Width, .int .i32 x1.Rune, .bool x1.Broken] 55, cells b11 [.int .i64 x1.At, .int .u8 0, .int .i32 q1, .slice none 0 0, .slice none 0 0] 46, vec (encI (.i32)) 21 1 (.slice none 0 0) ([] : List Int), vec (encI (.i32)) 21 1 (.slice none 0 0) ([] : List Int), vec (encI (.i32)) 21 1 hd10.v r6, vec (encI (.i32)) 21 1 (.slice none 0 0) ([] : List Int)]
        refine TC.newVec (enc := (encI (.i32))) (e := 21) (size := 1) ?_
        show TC _ _ _ _ _ _ _ _ _ [cells b1 [.string s1] 9, cells b5 [.map (some b4)] 67, mapA (fun n : Int => Value.int .i32 n) (fun p : Gfold_pair => Value.agg #[.int .i32 p.e0, .int .i32 p.e1]) b4 r1.2, cells b6 [hd4.v] 42, vecN encN_Gfold_unit nest_Gfold_unit 46 5 hd4.v l4, cells jb1 [.int .i64 x1.At, .int .i64 x1.Width, .int .i32 x1.Rune, .bool x1.Broken] 55, cells b11 [.int .i64 x1.At, .int .u8 0, .int .i32 q1, (.slice none 0 0), .slice none 0 0] 46, vec (encI (.i32)) 21 1 (.slice none 0 0) ([] : List Int), vec (encI (.i32)) 21 1 (.slice none 0 0) ([] : List Int), vec (encI (.i32)) 21 1 hd10.v r6, vec (encI (.i32)) 21 1 (.slice none 0 0) ([] : List Int), vec (encI (.i32)) 21 1 (.slice none 0 0) ([] : List Int)]
        refine TC.loopD (β := Nat × Int × Int × Int × (List Int) × (List Int) × Int × Hd × Hd) (fun b => loopG (fun _ _ _ _ _ _ => none) (fold_units_s2 j3 r6) b.1 b.2.1 b.2.2.1 b.2.2.2.1 b.2.2.2.2.1 b.2.2.2.2.2.1 b.2.2.2.2.2.2.1 = some r) (fun b => []) (fun b => [(1, .pointer (some ⟨b1, 0, none⟩)), (2, .slice none 0 0), (4, .pointer (some ⟨b5, 0, none⟩)), (5, .pointer (some ⟨b6, 0, none⟩)), (8, .pointer (some ⟨b11, 0, none⟩)), (17, .func (.func 73) #[] #[.pointer (some ⟨b7, 0, none⟩)]), (72, v3), (73, .int .i64 ((cutL r6 1 (r6.length : Int)).length : Int)), (74, .int .i64 b.2.2.2.2.2.2.1)]) (fun b => [cells b1 [.string s1] 9, cells b5 [.map (some b4)] 67, mapA (fun n : Int => Value.int .i32 n) (fun p : Gfold_pair => Value.agg #[.int .i32 p.e0, .int .i32 p.e1]) b4 r1.2, cells b6 [hd4.v] 42, vecN encN_Gfold_unit nest_Gfold_unit 46 5 hd4.v l4, cells b11 [.int .i64 b.2.1, .int .u8 b.2.2.1, .int .i32 b.2.2.2.1, b.2.2.2.2.2.2.2.1.v, b.2.2.2.2.2.2.2.2.v] 46, vec (encI (.i32)) 21 1 b.2.2.2.2.2.2.2.1.v b.2.2.2.2.1, vec (encI (.i32)) 21 1 b.2.2.2.2.2.2.2.2.v b.2.2.2.2.2.1, vec (encI (.i32)) 21 1 hd10.v r6]) (fun b => b.1) (fuel, x1.At, 0, q1, ([] : List Int), ([] : List Int), 0, Hd.nil, Hd.nil) h rfl (Sbs.cons rfl (Sbs.cons rfl (Sbs.cons rfl (Sbs.cons rfl (Sbs.cons rfl (Sbs.cons rfl (Sbs.cons rfl (Sbs.cons rfl (Sbs.cons rfl (Sbs.nil)))))))))) (Splits.of [0, 1, 2, 3, 4, 6, 10, 11, 9] kr rfl) ?_
        rintro ⟨n1, u23, u24, u25, u26, u27, x6, hd16, hd17⟩ h
        cases n1 with
        | zero => exact noneE h
        | succ n1 =>
         obtain ⟨ag2, hag2⟩ : ∃ ag, ag = loopG (fun _ _ _ _ _ _ => none) (fold_units_s2 j3 r6) n1 := ⟨_, rfl⟩
         have h : fold_units_s2 j3 r6 ag2 u23 u24 u25 u26 u27 x6 = some r := by rw [hag2]; exact h
         unfold fold_units_s2 at h
         show TC _ _ _ _ _ ([]) _ _ [(1, .pointer (some ⟨b1, 0, none⟩)), (2, .slice none 0 0), (4, .pointer (some ⟨b5, 0, none⟩)), (5, .pointer (some ⟨b6, 0, none⟩)), (8, .pointer (some ⟨b11, 0, none⟩)), (17, .func (.func 73) #[] #[.pointer (some ⟨b7, 0, none⟩)]), (72, v3), (73, .int .i64 ((cutL r6 1 (r6.length : Int)).length : Int)), (74, .int .i64 x6)] [cells b1 [.string s1] 9, cells b5 [.map (some b4)] 67, mapA (fun n : Int => Value.int .i32 n) (fun p : Gfold_pair => Value.agg #[.int .i32 p.e0, .int .i32 p.e1]) b4 r1.2, cells b6 [hd4.v] 42, vecN encN_Gfold_unit nest_Gfold_unit 46 5 hd4.v l4, cells b11 [.int .i64 u23, .int .u8 u24, .int .i32 u25, hd16.v, hd17.v] 46, vec (encI (.i32)) 21 1 hd16.v u26, vec (encI (.i32)) 21 1 hd17.v u27, vec (encI (.i32)) 21 1 hd10.v r6]
         refine TC.seq (TC.region (TO.bin rfl dc rfl rfl bin_lss (TO.nil (TX.next (TC.seq ?_)))))
         refine TC.condB rfl (fun hb6 => ?_) (fun hb6 => ?_)
         ·
          have h := condT hb6 h
          refine TC.skip (TX.next (TC.seq (TC.block (TC.seq (TC.region ?_)))))
          obtain ⟨q2, hq12, h⟩ := andE h
          refine TO.indexVw hv1 hq12 Try.underlying44 sz_21 rfl dc rfl rfl rfl (TO.loadVec (i := 0 + (1 : Int).toNat + (x6 : Int).toNat) (j := 0) (k := 8) (q := q2) sc_21 encI_len rfl dc rfl rfl (Vw.get hv1 hq12) rfl dc rfl (TO.assign rfl dc rfl (TO.nil (TX.next (TC.region (TO.move rfl dc rfl (TO.toVec (enc := encN_Gfold_unit) [((⟨u23, u24, u25, u26, u27⟩ : Gfold_unit), (hd16, hd17))] (k := 5) rfl encN_Gfold_unit_len rfl (show 1 ≤ maxLen by decide) ?_)))))))
          show TO _ _ _ _ _ _ _ _ _ _ [cells b1 [.string s1] 9, cells b5 [.map (some b4)] 67, mapA (fun n : Int => Value.int .i32 n) (fun p : Gfold_pair => Value.agg #[.int .i32 p.e0, .int .i32 p.e1]) b4 r1.2, cells b6 [hd4.v] 42, vecN encN_Gfold_unit nest_Gfold_unit 46 5 hd4.v l4, vec encN_Gfold_unit 46 5 (.slice (some ⟨b11, 0, none⟩) 1 1) [((⟨u23, u24, u25, u26, u27⟩ : Gfold_unit), (hd16, hd17))], vec (encI (.i32)) 21 1 hd16.v u26, vec (encI (.i32)) 21 1 hd17.v u27, vec (encI (.i32)) 21 1 hd10.v r6]
          obtain ⟨r7, hq13, h⟩ := andE h
          refine TO.call (vs := [.pointer (some ⟨b11, 0, none⟩), .int .i32 q2]) rfl dc rfl rfl rfl en_50 (fold_unit_mark_fn (vu1 := (.slice (some ⟨b11, 0, none⟩) 1 1)) (u1 := (⟨u23, u24, u25, u26, u27⟩ : Gfold_unit)) (u1_h0 := hd16) (u1_h1 := hd17) (show [((⟨u23, u24, u25, u26, u27⟩ : Gfold_unit), (hd16, hd17))][0]? = some ((⟨u23, u24, u25, u26, u27⟩ : Gfold_unit), (hd16, hd17)) from rfl) hq13) (Splits.of [5, 6, 7] kr rfl) ?_
          rintro ⟨hd18, hd19⟩
          show TO _ _ _ _ _ _ _ _ _ _ [cells b1 [.string s1] 9, cells b5 [.map (some b4)] 67, mapA (fun n : Int => Value.int .i32 n) (fun p : Gfold_pair => Value.agg #[.int .i32 p.e0, .int .i32 p.e1]) b4 r1.2, cells b6 [hd4.v] 42, vecN encN_Gfold_unit nest_Gfold_unit 46 5 hd4.v l4, emp, emp, emp, vec (encI (.i32)) 21 1 hd10.v r6, vec encN_Gfold_unit 46 5 (.slice (some ⟨b11, 0, none⟩) 1 1) [(r7, (hd18, hd19))], vec (encI (.i32)) 21 1 hd18.v r7.low, vec (encI (.i32)) 21 1 hd19.v r7.high]
          refine TO.weakenL (L' := [cells b1 [.string s1] 9, cells b5 [.map (some b4)] 67, mapA (fun n : Int => Value.int .i32 n) (fun p : Gfold_pair => Value.agg #[.int .i32 p.e0, .int .i32 p.e1]) b4 r1.2, cells b6 [hd4.v] 42, vecN encN_Gfold_unit nest_Gfold_unit 46 5 hd4.v l4, vec encN_Gfold_unit 46 5 (.slice (some ⟨b11, 0, none⟩) 1 1) [(r7, (hd18, hd19))], emp, emp, vec (encI (.i32)) 21 1 hd10.v r6, vec (encI (.i32)) 21 1 hd18.v r7.low, vec (encI (.i32)) 21 1 hd19.v r7.high]) (Splits.of [0, 1, 2, 3, 4, 9, 6, 7, 8, 10, 11] kr rfl) ?_
          refine TO.ent (k := 5) rfl (boxE encN_Gfold_unit_len) ?_
          show TO _ _ _ _ _ _ _ _ _ _ [cells b1 [.string s1] 9, cells b5 [.map (some b4)] 67, mapA (fun n : Int => Value.int .i32 n) (fun p : Gfold_pair => Value.agg #[.int .i32 p.e0, .int .i32 p.e1]) b4 r1.2, cells b6 [hd4.v] 42, vecN encN_Gfold_unit nest_Gfold_unit 46 5 hd4.v l4, cells b11 [.int .i64 r7.at_, .int .u8 r7.broken, .int .i32 r7.base, hd18.v, hd19.v] 46, emp, emp, vec (encI (.i32)) 21 1 hd10.v r6, vec (encI (.i32)) 21 1 hd18.v r7.low, vec (encI (.i32)) 21 1 hd19.v r7.high]
          refine TO.nil (TX.blockNormal (TX.next (TC.region ?_)))
          obtain ⟨hg6, h⟩ := grdE h
          refine TO.bin rfl dc rfl rfl (bin_add (r := x6 + 1) (IntWalk.i64_in _ hg6)) (TO.move rfl dc rfl (TO.nil ?_))
          subst hag2
          exact TX.againD (n1, r7.at_, r7.broken, r7.base, r7.low, r7.high, x6 + 1, hd18, hd19) h (Nat.lt_succ_self _) rfl (Sbs.cons rfl (Sbs.cons rfl (Sbs.cons rfl (Sbs.cons rfl (Sbs.cons rfl (Sbs.cons rfl (Sbs.cons rfl (Sbs.cons rfl (Sbs.cons rfl (Sbs.nil)))))))))) (Splits.of [0, 1, 2, 3, 4, 5, 9, 10, 8] kr rfl)
         ·
          have h := condF hb6 h
          refine TC.exit (TX.thenExit (TX.thenExit (TX.blockHere ?_)))
          exact TX.meetD (u23, u24, u25, u26, u27, b11, hd16, hd17) h rfl (Sbs.cons rfl (Sbs.cons rfl (Sbs.cons rfl (Sbs.cons rfl (Sbs.cons rfl (Sbs.cons rfl (Sbs.nil))))))) (Splits.of [0, 1, 2, 3, 4, 5, 6, 7] kr rfl)
       ·
        have h := condF hb5 h
        refine TC.skip (TX.newVec (enc := (encI (.i32))) (e := 21) (size := 1) ?_)
        show TX _ _ _ _ _ _ _ [cells b1 [.string s1] 9, cells b5 [.map (some b4)] 67, mapA (fun n : Int => Value.int .i32 n) (fun p : Gfold_pair => Value.agg #[.int .i32 p.e0, .int .i32 p.e1]) b4 r1.2, cells b6 [hd4.v] 42, vecN encN_Gfold_unit nest_Gfold_unit 46 5 hd4.v l4, cells jb1 [.int .i64 x1.At, .int .i64 x1.Width, .int .i32 x1.Rune, .bool x1.Broken] 55, cells b11 [.int .i64 x1.At, .int .u8 0, .int .i32 x1.Rune, .slice none 0 0, .slice none 0 0] 46, vec (encI (.i32)) 21 1 (.slice none 0 0) ([] : List Int), vec (encI (.i32)) 21 1 (.slice none 0 0) ([] : List Int), vec (encI (.i32)) 21 1 (.slice none 0 0) ([] : List Int)]
        refine TX.newVec (enc := (encI (.i32))) (e := 21) (size := 1) ?_
        show TX _ _ _ _ _ _ _ [cells b1 [.string s1] 9, cells b5 [.map (some b4)] 67, mapA (fun n : Int => Value.int .i32 n) (fun p : Gfold_pair => Value.agg #[.int .i32 p.e0, .int .i32 p.e1]) b4 r1.2, cells b6 [hd4.v] 42, vecN encN_Gfold_unit nest_Gfold_unit 46 5 hd4.v l4, cells jb1 [.int .i64 x1.At, .int .i64 x1.Width, .int .i32 x1.Rune, .bool x1.Broken] 55, cells b11 [.int .i64 x1.At, .int .u8 0, .int .i32 x1.Rune, (.slice none 0 0), .slice none 0 0] 46, vec (encI (.i32)) 21 1 (.slice none 0 0) ([] : List Int), vec (encI (.i32)) 21 1 (.slice none 0 0) ([] : List Int), vec (encI (.i32)) 21 1 (.slice none 0 0) ([] : List Int), vec (encI (.i32)) 21 1 (.slice none 0 0) ([] : List Int)]
        exact TX.meetD (x1.At, 0, x1.Rune, ([] : List Int), ([] : List Int), b11, Hd.nil, Hd.nil) h rfl (Sbs.cons rfl (Sbs.cons rfl (Sbs.cons rfl (Sbs.cons rfl (Sbs.cons rfl (Sbs.cons rfl (Sbs.nil))))))) (Splits.of [0, 1, 2, 3, 4, 6, 9, 10] kr rfl)
      ·
       rintro ⟨u1, u2, u3, u4, u5, b10, hd8, hd9⟩ h
       rw [hj3] at h
       show TC _ _ _ _ _ ([]) _ _ [(1, .pointer (some ⟨b1, 0, none⟩)), (2, .slice none 0 0), (4, .pointer (some ⟨b5, 0, none⟩)), (5, .pointer (some ⟨b6, 0, none⟩)), (8, .pointer (some ⟨b10, 0, none⟩)), (17, .func (.func 73) #[] #[.pointer (some ⟨b7, 0, none⟩)])] [cells b1 [.string s1] 9, cells b5 [.map (some b4)] 67, mapA (fun n : Int => Value.int .i32 n) (fun p : Gfold_pair => Value.agg #[.int .i32 p.e0, .int .i32 p.e1]) b4 r1.2, cells b6 [hd4.v] 42, vecN encN_Gfold_unit nest_Gfold_unit 46 5 hd4.v l4, cells b10 [.int .i64 u1, .int .u8 u2, .int .i32 u3, hd8.v, hd9.v] 46, vec (encI (.i32)) 21 1 hd8.v u4, vec (encI (.i32)) 21 1 hd9.v u5]
       refine TC.region (TO.load (k := 3) sc_42 rfl dc rfl rfl rfl (TO.loads (k := 5) (cs := [.int .i64 u1, .int .u8 u2, .int .i32 u3, hd8.v, hd9.v]) rw_46 rfl dc rfl rfl rfl rfl ?_))
       refine TO.buildSlice (cs := [.int .i64 u1, .int .u8 u2, .int .i32 u3, hd8.v, hd9.v]) (te := 46) (ps := [(0, .tmp 82)]) rfl dc rfl (fun _ => by kernel_rfl) (fun b12 => ?_)
       refine TO.unfold1 (k := 4) rfl openE (fun zs3 hz3 => ?_)
       show TO _ _ _ _ _ _ _ _ _ _ [cells b1 [.string s1] 9, cells b5 [.map (some b4)] 67, mapA (fun n : Int => Value.int .i32 n) (fun p : Gfold_pair => Value.agg #[.int .i32 p.e0, .int .i32 p.e1]) b4 r1.2, cells b6 [hd4.v] 42, vec encN_Gfold_unit 46 5 hd4.v zs3, cells b10 [.int .i64 u1, .int .u8 u2, .int .i32 u3, hd8.v, hd9.v] 46, vec (encI (.i32)) 21 1 hd8.v u4, vec (encI (.i32)) 21 1 hd9.v u5, cells b12 [.int .i64 u1, .int .u8 u2, .int .i32 u3, hd8.v, hd9.v] 46, own nest_Gfold_unit zs3]
       obtain ⟨hg7, h⟩ := grdE h
       refine TO.appendVec (k := 4) (k2 := 8) (ys := [((⟨u1, u2, u3, u4, u5⟩ : Gfold_unit), (hd8, hd9))]) Try.underlying42 el_46 encN_Gfold_unit_len encN_Gfold_unit_one rfl dc rfl rfl rfl rfl rfl rfl (by rw [zlen hz3]; exact hg7) (fun v4 => ?_)
       show TO _ _ _ _ _ _ _ _ _ _ [cells b1 [.string s1] 9, cells b5 [.map (some b4)] 67, mapA (fun n : Int => Value.int .i32 n) (fun p : Gfold_pair => Value.agg #[.int .i32 p.e0, .int .i32 p.e1]) b4 r1.2, cells b6 [hd4.v] 42, vec encN_Gfold_unit 46 5 v4 (zs3 ++ [((⟨u1, u2, u3, u4, u5⟩ : Gfold_unit), (hd8, hd9))]), cells b10 [.int .i64 u1, .int .u8 u2, .int .i32 u3, hd8.v, hd9.v] 46, vec (encI (.i32)) 21 1 hd8.v u4, vec (encI (.i32)) 21 1 hd9.v u5, cells b12 [.int .i64 u1, .int .u8 u2, .int .i32 u3, hd8.v, hd9.v] 46, own nest_Gfold_unit zs3]
       refine TO.nameHd (k := 4) rfl (fun hd20 he3 => ?_)
       subst he3
       refine TO.fold1 (k := 9) rfl (Splits.of [6, 7] kr rfl) rfl (ownApp (nest := nest_Gfold_unit) (zs := zs3) (z := ((⟨u1, u2, u3, u4, u5⟩ : Gfold_unit), (hd8, hd9)))) ?_
       show TO _ _ _ _ _ _ _ _ _ _ [cells b1 [.string s1] 9, cells b5 [.map (some b4)] 67, mapA (fun n : Int => Value.int .i32 n) (fun p : Gfold_pair => Value.agg #[.int .i32 p.e0, .int .i32 p.e1]) b4 r1.2, cells b6 [hd4.v] 42, vec encN_Gfold_unit 46 5 hd20.v (zs3 ++ [((⟨u1, u2, u3, u4, u5⟩ : Gfold_unit), (hd8, hd9))]), cells b10 [.int .i64 u1, .int .u8 u2, .int .i32 u3, hd8.v, hd9.v] 46, emp, emp, cells b12 [.int .i64 u1, .int .u8 u2, .int .i32 u3, hd8.v, hd9.v] 46, own nest_Gfold_unit (zs3 ++ [((⟨u1, u2, u3, u4, u5⟩ : Gfold_unit), (hd8, hd9))])]
       refine TO.fold1 (k := 4) rfl (Splits.of [9] kr rfl) rfl (closeE (enc := encN_Gfold_unit) (nest := nest_Gfold_unit) (zapp hz3)) ?_
       show TO _ _ _ _ _ _ _ _ _ _ [cells b1 [.string s1] 9, cells b5 [.map (some b4)] 67, mapA (fun n : Int => Value.int .i32 n) (fun p : Gfold_pair => Value.agg #[.int .i32 p.e0, .int .i32 p.e1]) b4 r1.2, cells b6 [hd4.v] 42, vecN encN_Gfold_unit nest_Gfold_unit 46 5 hd20.v (l4 ++ [(⟨u1, u2, u3, u4, u5⟩ : Gfold_unit)]), cells b10 [.int .i64 u1, .int .u8 u2, .int .i32 u3, hd8.v, hd9.v] 46, emp, emp, cells b12 [.int .i64 u1, .int .u8 u2, .int .i32 u3, hd8.v, hd9.v] 46, emp]
       refine TO.weakenL (L' := [cells b1 [.string s1] 9, cells b5 [.map (some b4)] 67, mapA (fun n : Int => Value.int .i32 n) (fun p : Gfold_pair => Value.agg #[.int .i32 p.e0, .int .i32 p.e1]) b4 r1.2, cells b6 [hd4.v] 42, vecN encN_Gfold_unit nest_Gfold_unit 46 5 hd20.v (l4 ++ [(⟨u1, u2, u3, u4, u5⟩ : Gfold_unit)]), cells b10 [.int .i64 u1, .int .u8 u2, .int .i32 u3, hd8.v, hd9.v] 46, emp, emp, cells b12 [.int .i64 u1, .int .u8 u2, .int .i32 u3, hd8.v, hd9.v] 46]) (Splits.of [0, 1, 2, 3, 4, 5, 6, 7, 8] kr rfl) ?_
       refine TO.store (k := 3) (l' := [hd20.v]) sz_42 rfl rfl rfl rfl rfl (fun _ _ => rfl) rfl ?_
       show TO _ _ _ _ _ _ _ _ _ _ [cells b1 [.string s1] 9, cells b5 [.map (some b4)] 67, mapA (fun n : Int => Value.int .i32 n) (fun p : Gfold_pair => Value.agg #[.int .i32 p.e0, .int .i32 p.e1]) b4 r1.2, cells b6 [hd20.v] 42, vecN encN_Gfold_unit nest_Gfold_unit 46 5 hd20.v (l4 ++ [(⟨u1, u2, u3, u4, u5⟩ : Gfold_unit)]), cells b10 [.int .i64 u1, .int .u8 u2, .int .i32 u3, hd8.v, hd9.v] 46, emp, emp, cells b12 [.int .i64 u1, .int .u8 u2, .int .i32 u3, hd8.v, hd9.v] 46]
       refine TO.nil (TX.blockNormal ?_)
       exact TX.round (l4 ++ [(⟨u1, u2, u3, u4, u5⟩ : Gfold_unit)], hd20) (fun post2 e2 => by have e9 := snoc_post hxs1 e2; subst e9; subst hag1; exact h) (Splits.of [0, 1, 2, 3, 4] kr rfl)
   ·
    rintro dm1 ⟨l4, hd4⟩ hinv
    have h : d1 l4 = some r := hinv [] (List.append_nil _).symm
    rw [hd1] at h
    show TX _ _ _ _ _ _ _ [star ((([] : List Nat) : List Nat).map mark), emp, mapA (fun p : Gfold_pair => Value.agg #[.int .i32 p.e0, .int .i32 p.e1]) (fun n : Int => Value.int .i32 n) b3 r1.1, emp, emp, emp, cells b7 [.string r2] 9, emp, cells b1 [.string s1] 9, cells b5 [.map (some b4)] 67, mapA (fun n : Int => Value.int .i32 n) (fun p : Gfold_pair => Value.agg #[.int .i32 p.e0, .int .i32 p.e1]) b4 r1.2, cells b6 [hd4.v] 42, vecN encN_Gfold_unit nest_Gfold_unit 46 5 hd4.v l4, mark dm1]
    refine TX.starCons (k := 13) (j := 0) rfl rfl dc ?_
    show TX _ _ _ _ _ _ _ [star ((dm1 :: ([] : List Nat) : List Nat).map mark), emp, mapA (fun p : Gfold_pair => Value.agg #[.int .i32 p.e0, .int .i32 p.e1]) (fun n : Int => Value.int .i32 n) b3 r1.1, emp, emp, emp, cells b7 [.string r2] 9, emp, cells b1 [.string s1] 9, cells b5 [.map (some b4)] 67, mapA (fun n : Int => Value.int .i32 n) (fun p : Gfold_pair => Value.agg #[.int .i32 p.e0, .int .i32 p.e1]) b4 r1.2, cells b6 [hd4.v] 42, vecN encN_Gfold_unit nest_Gfold_unit 46 5 hd4.v l4, emp]
    refine TX.blockNormal ?_
    exact TX.meetD (l4, b6, hd4, dm1 :: ([] : List Nat)) h rfl (Sbs.cons rfl (Sbs.nil)) (Splits.of [11, 12, 0] kr rfl)
   ·
    rintro dm1 c pre x1 post g hxs hX
    exact (show False from hX).elim
  ·
   rintro ⟨l1, b2, hd1, ds1⟩ h
   rw [hj1] at h
   show TC _ _ _ _ _ (marksOf ds1) _ _ [(5, .pointer (some ⟨b2, 0, none⟩))] [cells b2 [hd1.v] 42, vecN encN_Gfold_unit nest_Gfold_unit 46 5 hd1.v l1, star ((ds1 : List Nat).map mark)]
   refine TC.seq (TC.region (TO.load (k := 0) sc_42 rfl dc rfl rfl rfl (TO.assign rfl dc rfl (TO.nil (TX.next (TC.ret (TX.jumpOn (by simp) ?_)))))))
   cases h
   exact TX.finM (rs := [.tmp 2]) ds1 hd1.v (.inl rfl) (Splits.open0 (k := 2) rfl) Try.results24 (.cons (.tmp rfl) .nil) rfl (Splits.of [1] kr rfl)
 ·
  exact fun b hb => hb.elim
end Go.Proofs.Ytlamcpgnmeileaa
namespace Go.Proofs.Ytlamcpgnmeileaa
open Go.RowKit Go.Lib
set_option linter.unusedVariables false
set_option linter.unusedSimpArgs false
def byte0 (b : ByteArray) : Int := ((b.data.toList.headD 0).toNat : Int)
def toU (c : Itm × List Itm) : Gfold_unit := if c.1.Rune < 0 then ⟨c.1.At, byte0 c.1.Text, -1, [], []⟩ else ⟨c.1.At, 0, c.1.Rune, (loI c.2).map (·.Rune), (hiI c.2).map (·.Rune)⟩
def markU (u : Gfold_unit) (r : Int) : Gfold_unit := if lowR r then ⟨u.at_, u.broken, u.base, u.low ++ [r], u.high⟩ else ⟨u.at_, u.broken, u.base, u.low, u.high ++ [r]⟩
theorem mark_v (u : Gfold_unit) (r : Int) (h1 : u.low.length ≤ 2000000000) (h2 : u.high.length ≤ 2000000000) : fold_unit_mark_v u r = some (markU u r) := by
  unfold fold_unit_mark_v
  refine thenI (low_v r) ?_
  unfold markU
  cases lowR r with
  | true => exact condTI rfl (grdI (by omega) rfl)
  | false => exact condFI rfl (grdI (by omega) rfl)
theorem mark_toU (x : Itm) (hx : 0 ≤ x.Rune) (ms : List Itm) (y : Itm) : markU (toU (x, ms)) y.Rune = toU (x, ms ++ [y]) := by
  unfold markU toU loI hiI
  simp only [if_neg (show ¬ x.Rune < 0 by omega), List.filter_append]
  show (if isLo y then _ else _) = _
  cases h : isLo y <;> simp [h]
/-- The parts' marks, laid by package fold. -/
theorem marks_loop (u : Gfold_unit) (ms : List Int) (r6 : List Int) (b : Int) (hr : r6 = b :: ms) (hl : u.low.length + u.high.length + ms.length ≤ 1000000000) (J : Int → Int → Int → (List Int) → (List Int) → Option (List Gfold_unit)) :
    loopG (fun _ _ _ _ _ _ => none) (fold_units_s2 J r6) fuel u.at_ u.broken u.base u.low u.high 0 = J (ms.foldl markU u).at_ (ms.foldl markU u).broken (ms.foldl markU u).base (ms.foldl markU u).low (ms.foldl markU u).high := by
  have hc : cutL r6 1 (r6.length : Int) = ms := by
    subst hr; unfold cutL; simp
  have key : ∀ (n k : Nat) (u : Gfold_unit), k ≤ ms.length → ms.length - k < n → u.low.length + u.high.length + (ms.length - k) ≤ 1000000000 →
      loopG (fun _ _ _ _ _ _ => none) (fold_units_s2 J r6) n u.at_ u.broken u.base u.low u.high (k : Int) = J ((ms.drop k).foldl markU u).at_ ((ms.drop k).foldl markU u).broken ((ms.drop k).foldl markU u).base ((ms.drop k).foldl markU u).low ((ms.drop k).foldl markU u).high := by
    intro n
    induction n with
    | zero => intro k u _ h; omega
    | succ n ih =>
      intro k u hk hn hb
      rw [loopI]
      generalize loopG (fun _ _ _ _ _ _ => none) (fold_units_s2 J r6) n = ag at ih ⊢
      unfold fold_units_s2
      rw [hc]
      by_cases h : k < ms.length
      · have hx : ms[k]? = some ms[k] := List.getElem?_eq_getElem h
        refine condTI (lp_lt hx) (thenI (lp_get hx) (thenI (mark_v u _ (by omega) (by omega)) (grdI (lp_i64 (by omega)) ?_)))
        have hm : (markU u ms[k]).low.length + (markU u ms[k]).high.length = u.low.length + u.high.length + 1 := by
          unfold markU; split <;> simp <;> omega
        have := ih (k + 1) (markU u ms[k]) (by omega) (by omega) (by omega)
        push_cast at this
        rw [this, List.drop_eq_getElem_cons h]; rfl
      · have : k = ms.length := by omega
        subst this
        exact condFI lp_ge (by rw [List.drop_length]; rfl)
  have := key fuel 0 u (Nat.zero_le _) (by have := big_fuel (n := ms.length) (by omega); omega) (by omega)
  simpa using this
/-- One piece more. -/
def addU (s : ByteArray) (l : List Gfold_unit) (p : Gapi_Piece) : List Gfold_unit :=
  if p.Broken then l ++ [⟨p.At, (getB s p.At).getD 0, -1, [], []⟩]
  else match l.getLast? with
    | some u => if letter u.base && mrk p.Rune then l.set (l.length - 1) (markU u p.Rune) else l ++ [if letter p.Rune then (parts p.Rune).tail.foldl markU ⟨p.At, 0, (parts p.Rune).headD 0, [], []⟩ else ⟨p.At, 0, p.Rune, [], []⟩]
    | none => l ++ [if letter p.Rune then (parts p.Rune).tail.foldl markU ⟨p.At, 0, (parts p.Rune).headD 0, [], []⟩ else ⟨p.At, 0, p.Rune, [], []⟩]
def bigU (k : Nat) (l : List Gfold_unit) : Prop := l.length ≤ k ∧ ∀ u ∈ l, u.low.length + u.high.length ≤ 3 * k ∧ I32 u.base
theorem markU_len (u : Gfold_unit) (r : Int) : (markU u r).low.length + (markU u r).high.length = u.low.length + u.high.length + 1 ∧ (markU u r).base = u.base := by
  unfold markU; split <;> simp <;> omega
theorem marksU_len (ms : List Int) : ∀ u : Gfold_unit, (ms.foldl markU u).low.length + (ms.foldl markU u).high.length = u.low.length + u.high.length + ms.length ∧ (ms.foldl markU u).base = u.base := by
  induction ms with
  | nil => intro u; simp
  | cons m ms ih => intro u; have := ih (markU u m); have h2 := markU_len u m; rw [List.foldl_cons]; simp only [List.length_cons]; constructor; omega; rw [this.2, h2.2]
theorem newU_ok (p : Gapi_Piece) (hp : I32 p.Rune) (k : Nat) : ((if letter p.Rune then (parts p.Rune).tail.foldl markU ⟨p.At, 0, (parts p.Rune).headD 0, [], []⟩ else ⟨p.At, 0, p.Rune, [], []⟩ : Gfold_unit).low.length + (if letter p.Rune then (parts p.Rune).tail.foldl markU ⟨p.At, 0, (parts p.Rune).headD 0, [], []⟩ else ⟨p.At, 0, p.Rune, [], []⟩ : Gfold_unit).high.length ≤ 3 * (k + 1)) ∧ I32 (if letter p.Rune then (parts p.Rune).tail.foldl markU ⟨p.At, 0, (parts p.Rune).headD 0, [], []⟩ else ⟨p.At, 0, p.Rune, [], []⟩ : Gfold_unit).base := by
  cases h : letter p.Rune with
  | false => simp only [Bool.false_eq_true, if_false]; exact ⟨by simp, hp⟩
  | true =>
    simp only [if_true]
    have h1 := marksU_len (parts p.Rune).tail ⟨p.At, 0, (parts p.Rune).headD 0, [], []⟩
    have h2 := parts_len p.Rune
    have h3 : (parts p.Rune).tail.length ≤ 2 := by rw [List.length_tail]; omega
    refine ⟨by rw [h1.1]; simp; omega, ?_⟩
    rw [h1.2]
    have h4 := parts_i32 hp
    cases hq : parts p.Rune with
    | nil => rw [hq] at h2; simp at h2
    | cons b ms => exact h4 b (by rw [hq]; exact List.mem_cons_self ..)
theorem addU_big (s : ByteArray) (k : Nat) (p : Gapi_Piece) (l : List Gfold_unit) (hp : I32 p.Rune) (h : bigU k l) : bigU (k + 1) (addU s l p) := by
  obtain ⟨h1, h2⟩ := h
  have app : ∀ u : Gfold_unit, (u.low.length + u.high.length ≤ 3 * (k + 1) ∧ I32 u.base) → bigU (k + 1) (l ++ [u]) := fun u hu => ⟨by simp; omega, fun v hv => by
    rcases List.mem_append.1 hv with hv | hv
    · have := h2 v hv; exact ⟨by omega, this.2⟩
    · simp at hv; subst hv; exact hu⟩
  unfold addU
  split
  · exact app _ ⟨by simp, (show I32 (-1) from ⟨by omega, by omega⟩)⟩
  · split
    · rename_i u hu
      split
      · have hm := List.mem_of_getLast? hu
        refine ⟨by simp; omega, fun v hv => ?_⟩
        rcases List.mem_or_eq_of_mem_set hv with hv | rfl
        · have := h2 v hv; exact ⟨by omega, this.2⟩
        · have := h2 u hm; have h3 := markU_len u p.Rune; exact ⟨by omega, by rw [h3.2]; exact this.2⟩
      · exact app _ (newU_ok p hp k)
    · exact app _ (newU_ok p hp k)
theorem units_fold (s : ByteArray) (hs : s.size ≤ 65536) : fold_units_v s = some (((pcs s.data.toList).map pcG).foldl (addU s) []) := by
  unfold fold_units_v
  refine joinI (thenI tables_v (thenI (a := s) rfl (thenI (piecesI s (by omega)) (joinI ?_))))
  have hc := pcs_count_le s
  have hr : ∀ p ∈ (pcs s.data.toList).map pcG, I32 p.Rune ∧ (p.Broken = true → getB s p.At = some ((getB s p.At).getD 0)) := by
    intro p hp
    obtain ⟨q, hq, rfl⟩ := List.mem_map.1 hp
    obtain ⟨g1, g2, hok⟩ := pcs_pos s.data.toList q hq
    have hv := hok.valid
    have hlen : s.data.toList.length = s.size := by rw [Array.length_toList]; rfl
    refine ⟨⟨by simp only [pcG]; omega, by simp only [pcG]; omega⟩, fun _ => ?_⟩
    have hw := hok.pos
    rw [show (pcG q).At = (q.i : Int) from rfl, getB_of (n := q.i) rfl (by omega)]; rfl
  have key : ∀ (ps : List Gapi_Piece) (k : Nat) (l : List Gfold_unit), bigU k l → k + ps.length ≤ 65536 → (∀ p ∈ ps, I32 p.Rune ∧ (p.Broken = true → getB s p.At = some ((getB s p.At).getD 0))) → rangeG (some : List Gfold_unit → _) (fold_units_s1 s (tabP, tabS)) ps l = some (ps.foldl (addU s) l) := by
    intro ps
    induction ps with
    | nil => intro k l _ _ _; rfl
    | cons p ps ih =>
      intro k l hb hk hp
      obtain ⟨hp1, hp2⟩ := hp p (List.mem_cons_self ..)
      obtain ⟨hb1, hb2⟩ := hb
      simp only [List.length_cons] at hk
      rw [rangeG_cons, List.foldl_cons, ← ih (k + 1) (addU s l p) (addU_big s k p l hp1 ⟨hb1, hb2⟩) (by omega) (fun q hq => hp q (List.mem_cons_of_mem _ hq))]
      generalize rangeG (some : List Gfold_unit → _) (fold_units_s1 s (tabP, tabS)) ps = ag
      unfold fold_units_s1 addU
      cases hB : p.Broken with
      | true => exact condTI rfl (thenI (hp2 hB) (grdI (by omega) (by simp)))
      | false =>
        simp only [Bool.false_eq_true, if_false]
        refine condFI rfl (joinI ?_)
        have new : (joinK (fun (j3 : Int → Int → Int → (List Int) → (List Int) → Option (List Gfold_unit)) =>
            andThen (fold_unit_letter_v (⟨p.At, 0, p.Rune, ([] : List Int), ([] : List Int)⟩ : Gfold_unit)) fun (r5 : Bool) =>
            bcond (r5) (andThen (fold_parted_v (tabP, tabS).2 p.Rune) fun (r6 : (List Int)) =>
              andThen (getO r6 0) fun (q1 : Int) => grd (0 ≤ (1 : Int) ∧ (1 : Int) ≤ (r6.length : Int) ∧ ((r6.length : Int) : Int) ≤ (r6.length : Int)) <|
              loopG (fun _ _ _ _ _ _ => none) (fold_units_s2 j3 r6) fuel p.At 0 q1 ([] : List Int) ([] : List Int) 0) (j3 p.At 0 p.Rune ([] : List Int) ([] : List Int)))
            (fun (u1 : Int) (u2 : Int) (u3 : Int) (u4 : List Int) (u5 : List Int) => grd (l.length + 1 ≤ 2147483648) <| ag (l ++ [(⟨u1, u2, u3, u4, u5⟩ : Gfold_unit)]))) =
            ag (l ++ [if letter p.Rune then (parts p.Rune).tail.foldl markU ⟨p.At, 0, (parts p.Rune).headD 0, [], []⟩ else ⟨p.At, 0, p.Rune, [], []⟩]) := by
          refine joinI (thenI (letter_v _ hp1) ?_)
          show bcond (letter p.Rune) _ _ = _
          cases hL : letter p.Rune with
          | false => exact condFI rfl (grdI (by omega) (by simp))
          | true =>
            obtain ⟨b, ms, hq, _, _, _, hms⟩ := parts_shape hL
            refine condTI rfl (thenI (parted_v _) (thenI (a := b) (by rw [hq]; rfl) (grdI (by rw [hq]; simp only [List.length_cons]; omega) ?_)))
            refine (marks_loop (⟨p.At, 0, b, [], []⟩ : Gfold_unit) ms (parts p.Rune) b hq (by simp; omega) _).trans (grdI (by omega) ?_)
            rw [hq]; simp
        cases hl : l.getLast? with
        | none =>
          have : l = [] := List.getLast?_eq_none_iff.1 hl
          subst this
          exact condFI (by decide) new
        | some u =>
          have hne : l ≠ [] := by intro h; subst h; cases hl
          have hlen : 0 < l.length := List.length_pos_iff.2 hne
          have hm := List.mem_of_getLast? hl
          have hu := hb2 u hm
          have hg : getO l ((l.length : Int) - 1) = some u := getO_of (n := l.length - 1) (by omega) (by rw [← List.getLast?_eq_getElem?]; exact hl)
          refine condTI (decide_eq_true (by omega)) (grdI ⟨by omega, by omega⟩ (thenI hg (thenI (letter_v u hu.2) ?_)))
          cases hL : letter u.base with
          | false => exact condFI rfl (by simpa [hL] using new)
          | true =>
            refine condTI rfl (grdI hp1 ?_)
            rw [kind2]
            cases hM : mrk p.Rune with
            | false => exact condFI rfl (by simpa [hL, hM] using new)
            | true =>
              refine condTI rfl (grdI ⟨by omega, by omega⟩ (thenI hg (thenI (mark_v u _ (by omega) (by omega)) ?_)))
              simp only [Bool.and_self, if_true]
              rw [show ((l.length : Int) - 1).toNat = l.length - 1 by omega]
              simp [hL]
  have := key ((pcs s.data.toList).map pcG) 0 [] ⟨by simp, by simp⟩ (by simp; omega) hr
  exact this
/-! ### Units are clusters -/
theorem item_of {s : ByteArray} {p : Pc} (hp : p ∈ pcs s.data.toList) : (p.broken = true → (itG s p).Rune = -1 ∧ (itG s p).Text.size = 1 ∧ byte0 (itG s p).Text = (getB s p.i).getD 0) ∧ (p.broken = false → (itG s p).Rune = p.r ∧ (itG s p).Text = Utf8.encode (p.r : Int)) := by
  obtain ⟨g1, g2, hok⟩ := pcs_pos s.data.toList p hp
  have hlen : s.data.toList.length = s.size := by rw [Array.length_toList]; rfl
  have hf := pcs_fit hp
  have hw := hok.pos
  constructor
  · intro hb
    have hw1 : p.w = 1 := by unfold Pc.broken at hb; simp at hb; exact hb.2
    refine ⟨by simp [itG, hb], by simp [itG, hw1]; omega, ?_⟩
    have e : (itG s p).Text.data.toList = (s.data.toList.drop p.i).take p.w := by
      show (s.extract p.i (p.i + p.w)).data.toList = _
      rw [Lib.extract_data]; simp
    unfold byte0
    rw [e, hw1, getB_of (n := p.i) rfl (by omega)]
    have hi : p.i < s.data.toList.length := by omega
    rw [List.drop_eq_getElem_cons hi]
    simp
    rfl
  · intro hb
    refine ⟨by simp [itG, hb], ?_⟩
    have hnb : ¬ (p.r = 65533 ∧ p.w = 1) := by
      unfold Pc.broken at hb; simpa using hb
    apply ByteArray.ext; apply Array.toList_inj.1
    show (s.extract p.i (p.i + p.w)).data.toList = _
    rw [Lib.extract_data]
    have h1 := hok.bytes hnb
    rw [encode_list, h1]
    simp
theorem clF_push (cur : Option (Itm × List Itm)) (x : Itm) (xs : List Itm) (h : ∀ c, cur = some c → (isL c.1 && isM x) = false) : clF cur (x :: xs) = cur.toList ++ clF (some (x, [])) xs := by
  cases cur with
  | none => rfl
  | some c =>
    show (if isL c.1 && isM x then clF (some (c.1, c.2 ++ [x])) xs else c :: clF (some (x, [])) xs) = _
    rw [h c rfl]; rfl
theorem clF_marks (x : Itm) (hx : isL x = true) (xs : List Itm) : ∀ (ms ks : List Itm), (∀ m ∈ ms, isM m = true) → clF (some (x, ks)) (ms ++ xs) = clF (some (x, ks ++ ms)) xs
  | [], ks, _ => by simp
  | m :: ms, ks, h => by
    rw [List.cons_append]
    show (if isL x && isM m then clF (some (x, ks ++ [m])) (ms ++ xs) else _) = _
    rw [hx, h m (List.mem_cons_self ..)]
    simp only [Bool.and_self, if_true]
    rw [clF_marks x hx xs ms (ks ++ [m]) (fun z hz => h z (List.mem_cons_of_mem _ hz))]
    simp
theorem marks_toU (x : Itm) (hx : 0 ≤ x.Rune) : ∀ (ms ks : List Itm), (ms.map (·.Rune)).foldl markU (toU (x, ks)) = toU (x, ks ++ ms)
  | [], ks => by simp
  | m :: ms, ks => by
    rw [List.map_cons, List.foldl_cons, mark_toU x hx, marks_toU x hx ms]; simp
theorem toU_base (c : Itm × List Itm) (h : 0 ≤ c.1.Rune) : (toU c).base = c.1.Rune := by
  unfold toU; rw [if_neg (by omega)]
theorem toU_letter (c : Itm × List Itm) : letter (toU c).base = isL c.1 := by
  unfold toU isL
  split
  · rename_i h
    have h1 : letter (-1) = false := by decide
    have h2 : letter c.1.Rune = false := by
      cases e : letter c.1.Rune with
      | false => rfl
      | true => have := (letter_rng _ e).1; omega
    rw [h2]; exact h1
  · rfl
theorem units_cl (s : ByteArray) : ∀ (ps : List Pc) (cur : Option (Itm × List Itm)) (L : List Gfold_unit), (∀ p ∈ ps, p ∈ pcs s.data.toList) → (cur = none → L = []) →
    (ps.map pcG).foldl (addU s) (L ++ cur.toList.map toU) = L ++ (clF cur (apL (ps.map (itG s)))).map toU
  | [], cur, L, _, _ => by
    cases cur <;> simp [apL, clF]
  | p :: ps, cur, L, hp, hcur => by
    rw [List.map_cons, List.foldl_cons, List.map_cons]
    have hap : apL (itG s p :: ps.map (itG s)) = apI (itG s p) ++ apL (ps.map (itG s)) := by unfold apL; rw [List.flatMap_cons]
    rw [hap]
    obtain ⟨hb1, hb2⟩ := item_of (hp p (List.mem_cons_self ..))
    have tail := fun cur' L' hc => units_cl s ps cur' L' (fun q hq => hp q (List.mem_cons_of_mem _ hq)) hc
    have hv : p.broken = false → 0 ≤ (itG s p).Rune := fun h => by rw [(hb2 h).1]; omega
    -- a new unit
    have new : ∀ (x : Itm) (ms : List Itm), (isL x = false → ms = []) → (∀ m ∈ ms, isM m = true) → (∀ c, cur = some c → (isL c.1 && isM x) = false) → addU s (L ++ cur.toList.map toU) (pcG p) = (L ++ cur.toList.map toU) ++ [toU (x, ms)] → apI (itG s p) = x :: ms →
        (ps.map pcG).foldl (addU s) (addU s (L ++ cur.toList.map toU) (pcG p)) = L ++ (clF cur (apI (itG s p) ++ apL (ps.map (itG s)))).map toU := by
      intro x ms h1 h2 h3 h4 h5
      rw [h4, h5, List.cons_append, clF_push cur x _ h3]
      have h6 : clF (some (x, [])) (ms ++ apL (ps.map (itG s))) = clF (some (x, ms)) (apL (ps.map (itG s))) := by
        cases hx : isL x with
        | true => rw [clF_marks x hx _ ms [] h2]; rfl
        | false => rw [h1 hx]; rfl
      have := tail (some (x, ms)) (L ++ cur.toList.map toU) (by simp)
      rw [show (L ++ cur.toList.map toU) ++ [toU (x, ms)] = (L ++ cur.toList.map toU) ++ (some (x, ms)).toList.map toU from rfl, this, h6]
      simp
    cases hB : p.broken with
    | true =>
      obtain ⟨e1, e2, e3⟩ := hb1 hB
      have hL : isL (itG s p) = false := by unfold isL; rw [e1]; decide
      have hM : isM (itG s p) = false := by unfold isM; rw [e1]; decide
      refine new (itG s p) [] (fun _ => rfl) (by simp) (fun c _ => by rw [hM, Bool.and_false]) ?_ (by unfold apI; rw [hL]; rfl)
      unfold addU
      rw [show (pcG p).Broken = true from hB]
      simp only [if_true]
      have : toU (itG s p, []) = ⟨(itG s p).At, byte0 (itG s p).Text, -1, [], []⟩ := by unfold toU; rw [if_pos (by rw [e1]; omega)]
      rw [this, e3]; rfl
    | false =>
      obtain ⟨e1, e2⟩ := hb2 hB
      have h0 : 0 ≤ (itG s p).Rune := hv hB
      have hpr : (pcG p).Rune = (itG s p).Rune := by rw [e1]; rfl
      -- what the new unit is
      have hnew : ∃ x ms, apI (itG s p) = x :: ms ∧ (isL x = false → ms = []) ∧ (∀ m ∈ ms, isM m = true) ∧ isL x = isL (itG s p) ∧ isM x = isM (itG s p) ∧
          (if letter (pcG p).Rune then (parts (pcG p).Rune).tail.foldl markU ⟨(pcG p).At, 0, (parts (pcG p).Rune).headD 0, [], []⟩ else ⟨(pcG p).At, 0, (pcG p).Rune, [], []⟩) = toU (x, ms) := by
        rw [hpr]
        cases hL : isL (itG s p) with
        | false =>
          have hL' : letter (itG s p).Rune = false := hL
          refine ⟨itG s p, [], by unfold apI; rw [hL]; rfl, fun _ => rfl, by simp, hL, rfl, ?_⟩
          rw [hL']
          unfold toU
          rw [if_neg (show ¬ (itG s p, ([] : List Itm)).1.Rune < 0 by show ¬ (itG s p).Rune < 0; omega)]
          rfl
        | true =>
          have hL' : letter (itG s p).Rune = true := hL
          obtain ⟨b, ms, hq, hb, _, hms, _⟩ := parts_shape hL'
          have hb0 := (letter_rng b hb).1
          refine ⟨⟨b, Utf8.encode b, (itG s p).At⟩, ms.map fun r => ⟨r, Utf8.encode r, (itG s p).At⟩, by unfold apI; rw [hL, hq]; rfl, (fun h => by rw [show isL (⟨b, Utf8.encode b, (itG s p).At⟩ : Itm) = true from hb] at h; cases h), ?_, hb, ?_, ?_⟩
          · intro m hm
            obtain ⟨r, hr, rfl⟩ := List.mem_map.1 hm
            exact hms r hr
          · have hM1 : isM (itG s p) = false := by
              cases e : isM (itG s p) with
              | false => rfl
              | true => have := mrk_not_letter (show mrk (itG s p).Rune = true from e); rw [hL'] at this; cases this
            have hM2 : isM (⟨b, Utf8.encode b, (itG s p).At⟩ : Itm) = false := by
              cases e : isM (⟨b, Utf8.encode b, (itG s p).At⟩ : Itm) with
              | false => rfl
              | true => have := mrk_not_letter (show mrk b = true from e); rw [hb] at this; cases this
            rw [hM1, hM2]
          · rw [hL', hq]
            have := marks_toU ⟨b, Utf8.encode b, (itG s p).At⟩ hb0 (ms.map fun r => ⟨r, Utf8.encode r, (itG s p).At⟩) []
            have hm : (ms.map fun r => (⟨r, Utf8.encode r, (itG s p).At⟩ : Itm)).map (·.Rune) = ms := by rw [List.map_map]; simp [Function.comp_def]
            rw [hm] at this
            rw [List.nil_append] at this
            rw [← this]
            have ht : toU (⟨b, Utf8.encode b, (itG s p).At⟩, []) = ⟨(itG s p).At, 0, b, [], []⟩ := by
              unfold toU; rw [if_neg (show ¬ b < 0 by omega)]; rfl
            rw [ht]; rfl
      obtain ⟨x, ms, ha, hm1, hm2, hm3, hm4, hnew⟩ := hnew
      cases cur with
      | none =>
        have hL := hcur rfl
        subst hL
        refine new x ms hm1 hm2 (fun c h => by cases h) ?_ ha
        unfold addU
        rw [show (pcG p).Broken = false from hB]
        simp only [Bool.false_eq_true, if_false, Option.toList_none, List.map_nil, List.append_nil, List.getLast?_nil]
        rw [hnew]
      | some c =>
        have hlast : (L ++ [toU c]).getLast? = some (toU c) := by simp
        cases hk : (isL c.1 && isM x) with
        | false =>
          refine new x ms hm1 hm2 (fun c' h => by cases h; exact hk) ?_ ha
          show addU s (L ++ [toU c]) (pcG p) = (L ++ [toU c]) ++ [toU (x, ms)]
          unfold addU
          rw [show (pcG p).Broken = false from hB, hlast]
          simp only [Bool.false_eq_true, if_false]
          rw [toU_letter, show mrk (pcG p).Rune = isM x by rw [hm4, hpr]; rfl, hk, hnew]
          simp
        | true =>
          have hk' := hk
          rw [Bool.and_eq_true] at hk'
          have hMx : isM (itG s p) = true := by rw [← hm4]; exact hk'.2
          have hLx : isL (itG s p) = false := mrk_not_letter hMx
          have hax : apI (itG s p) = [itG s p] := by unfold apI; rw [hLx]; rfl
          rw [hax, List.singleton_append]
          have hadd : addU s (L ++ (some c).toList.map toU) (pcG p) = L ++ (some (c.1, c.2 ++ [itG s p])).toList.map toU := by
            show addU s (L ++ [toU c]) (pcG p) = L ++ [toU (c.1, c.2 ++ [itG s p])]
            unfold addU
            rw [show (pcG p).Broken = false from hB, hlast]
            simp only [Bool.false_eq_true, if_false]
            rw [toU_letter, show mrk (pcG p).Rune = isM x by rw [hm4, hpr]; rfl, hk]
            simp only [if_true]
            have h0c : 0 ≤ c.1.Rune := (letter_rng _ hk'.1).1
            rw [hpr, mark_toU c.1 h0c c.2 (itG s p)]
            simp
          rw [hadd, tail _ _ (by simp)]
          congr 2
          show _ = clF (some c) (itG s p :: apL (ps.map (itG s)))
          show _ = (if isL c.1 && isM (itG s p) then clF (some (c.1, c.2 ++ [itG s p])) (apL (ps.map (itG s))) else _)
          rw [hk'.1, hMx]; rfl
/-- The clusters of a text. -/
def clus (s : ByteArray) : List (Itm × List Itm) := cl (apL (itemsP s))
theorem units_v (s : ByteArray) (hs : s.size ≤ 65536) : fold_units_v s = some ((clus s).map toU) := by
  rw [units_fold s hs]
  have := units_cl s (pcs s.data.toList) none [] (fun p hp => hp) (fun _ => rfl)
  simp only [Option.toList_none, List.map_nil, List.append_nil, List.nil_append] at this
  rw [this]; rfl
end Go.Proofs.Ytlamcpgnmeileaa
namespace Go.Proofs.Ytlamcpgnmeileaa
open Go.RowKit Go.Lib
set_option linter.unusedVariables false
set_option linter.unusedSimpArgs false
def fold_written_plain_s1 (l1 : List Gfold_unit) (j1 : ByteArray → Option ByteArray) (ag1 : ByteArray → Int → Option ByteArray) (b4 : ByteArray) (x3 : Int) : Option ByteArray := bcond (decide ((x3 : Int) < (l1.length : Int))) ( joinK (fun (j2 : ByteArray → Option ByteArray) => andThen (getO l1 x3) fun (x4 : Gfold_unit) => bcond (decide ((x4.base : Int) < 0)) ( grd (b4.size + 1 ≤ 140737488355328) <| grd (∀ x ∈ ([x4.broken] : List Int), U8 x) <| j2 (b4 ++ (bytesOf [x4.broken]))
) ( andThen (fold_plain_v x4) fun (r1 : ByteArray) => grd (b4.size + r1.size ≤ 140737488355328) <| j2 (b4 ++ r1)
)
) (fun (b5 : ByteArray) => grd (I64 (x3 + 1)) <| ag1 b5 (x3 + 1)
)
) ( j1 b4
)
def fold_written_plain_v (l1 : List Gfold_unit) : Option ByteArray := joinK (fun (j1 : ByteArray → Option ByteArray) => loopG (fun _ _ => none) (fold_written_plain_s1 l1 j1) fuel ByteArray.empty 0
) (fun (b1 : ByteArray) => some b1
)
set_option maxRecDepth 100000 in
set_option maxHeartbeats 4000000 in
theorem fold_written_plain_fn {vvl1 vl1 : Value} {Zl1 : List (Gfold_unit × Hd × Hd)} {kl1 : Nat} {zl1 : List (Gfold_unit × Hd × Hd)} {l1 : List Gfold_unit} (hwl1 : Vw vvl1 Zl1 5 kl1 vl1 zl1) (hzl1 : zl1.map Prod.fst = l1) {r : ByteArray} (h : fold_written_plain_v l1 = some r) : Fn Try.prog 25 [vl1, .func (.func 26) #[] #[]] [vec encN_Gfold_unit 46 5 vvl1 Zl1, own nest_Gfold_unit Zl1] (fun _b : Unit => .string r) (fun _b => [vec encN_Gfold_unit 46 5 vvl1 Zl1, own nest_Gfold_unit Zl1]) := by
 unfold fold_written_plain_v at h
 refine Fn.intro Try.func25 rfl Try.ntmps25 (by simp) ?_
 intro w0 K
 obtain ⟨j1, hj1, h⟩ := joinE h
 refine TC.cutN (β := ByteArray × Value) 2 rfl (fun b => j1 b.1 = some r) (fun b => []) (fun b => [(5, b.2)]) (fun b => [vec encN_Gfold_unit 46 5 vvl1 Zl1, own nest_Gfold_unit Zl1, byt 5 b.2 b.1]) (fun cut => ?_) ?_
 ·
  refine TC.seq (TC.region (TO.assign rfl dc rfl (TO.nil (TX.next (TC.seq (TC.region (TO.assign rfl dc rfl (TO.nil (TX.next (cut (TC.seq (TC.region (TO.move rfl dc rfl ?_)))))))))))))
  refine TO.lenVwZ hzl1 hwl1 rfl dc rfl Try.underlying42 (TO.move rfl dc rfl (TO.nil (TX.next (TC.block (TC.newByt (e := 5) ?_)))))
  show TC _ _ _ _ _ _ _ _ _ [vec encN_Gfold_unit 46 5 vvl1 Zl1, own nest_Gfold_unit Zl1, byt 5 (.slice none 0 0) ByteArray.empty]
  refine TC.loopD (β := Nat × ByteArray × Int × Value) (fun b => loopG (fun _ _ => none) (fold_written_plain_s1 l1 j1) b.1 b.2.1 b.2.2.1 = some r) (fun b => []) (fun b => [(1, .func (.func 26) #[] #[]), (5, b.2.2.2), (8, vl1), (9, .int .i64 (l1.length : Int)), (10, .int .i64 b.2.2.1)]) (fun b => [vec encN_Gfold_unit 46 5 vvl1 Zl1, own nest_Gfold_unit Zl1, byt 5 b.2.2.2 b.2.1]) (fun b => b.1) (fuel, ByteArray.empty, 0, (.slice none 0 0)) h rfl (Sbs.cons rfl (Sbs.cons rfl (Sbs.cons rfl (Sbs.cons rfl (Sbs.cons rfl (Sbs.nil)))))) (Splits.of [0, 1, 2] kr rfl) ?_
  rintro ⟨n1, b4, x3, v4⟩ h
  cases n1 with
  | zero => exact noneE h
  | succ n1 =>
   obtain ⟨ag1, hag1⟩ : ∃ ag, ag = loopG (fun _ _ => none) (fold_written_plain_s1 l1 j1) n1 := ⟨_, rfl⟩
   have h : fold_written_plain_s1 l1 j1 ag1 b4 x3 = some r := by rw [hag1]; exact h
   unfold fold_written_plain_s1 at h
   show TC _ _ _ _ _ ([]) _ _ [(1, .func (.func 26) #[] #[]), (5, v4), (8, vl1), (9, .int .i64 (l1.length : Int)), (10, .int .i64 x3)] [vec encN_Gfold_unit 46 5 vvl1 Zl1, own nest_Gfold_unit Zl1, byt 5 v4 b4]
   refine TC.seq (TC.region (TO.bin rfl dc rfl rfl bin_lss (TO.nil (TX.next (TC.seq ?_)))))
   refine TC.condB rfl (fun hb1 => ?_) (fun hb1 => ?_)
   ·
    have h := condT hb1 h
    refine TC.skip (TX.next ?_)
    obtain ⟨j2, hj2, h⟩ := joinE h
    refine TC.cutN (β := ByteArray × Value) 0 rfl (fun b => j2 b.1 = some r) (fun b => []) (fun b => [(1, .func (.func 26) #[] #[]), (5, b.2), (8, vl1), (9, .int .i64 (l1.length : Int)), (10, .int .i64 x3)]) (fun b => [vec encN_Gfold_unit 46 5 vvl1 Zl1, own nest_Gfold_unit Zl1, byt 5 b.2 b.1]) (fun cut => ?_) ?_
    ·
     refine cut (TC.block (TC.seq (TC.region ?_)))
     obtain ⟨x4, hq1, h⟩ := andE h
     obtain ⟨⟨eh1, eh2⟩, eq1⟩ := getO_z hzl1 hq1
     refine TO.indexVw hwl1 eq1 Try.underlying42 sz_46 rfl dc rfl rfl rfl (TO.loadsVec (i := kl1 + (x3 : Int).toNat) (j := 0) (k := 0) (q := (x4, (eh1, eh2))) (cs := [.int .i64 x4.at_, .int .u8 x4.broken, .int .i32 x4.base, eh1.v, eh2.v]) rw_46 encN_Gfold_unit_len rfl dc rfl rfl (Vw.get hwl1 eq1) rfl rfl rfl ?_)
     refine TO.alloc zr_46 rfl dc (fun b6 => ?_)
     refine TO.stores (k := 3) (vs := [.int .i64 x4.at_, .int .u8 x4.broken, .int .i32 x4.base, eh1.v, eh2.v]) (l' := [.int .i64 x4.at_, .int .u8 x4.broken, .int .i32 x4.base, eh1.v, eh2.v]) sz_46 rfl rfl rfl rfl rfl (show _ ≤ _ by simp) rfl rfl ?_
     show TO _ _ _ _ _ _ _ _ _ _ [vec encN_Gfold_unit 46 5 vvl1 Zl1, own nest_Gfold_unit Zl1, byt 5 v4 b4, cells b6 [.int .i64 x4.at_, .int .u8 x4.broken, .int .i32 x4.base, eh1.v, eh2.v] 46]
     refine TO.nil (TX.next (TC.seq (TC.region (TO.fieldAddr fl_46_2 rfl dc rfl (show _ = 2 from rfl) (TO.load (k := 3) sc_21 rfl dc rfl rfl rfl (TO.bin rfl dc rfl rfl bin_lss (TO.nil (TX.next ?_))))))))
     refine TC.condB rfl (fun hb2 => ?_) (fun hb2 => ?_)
     ·
      have h := condT hb2 h
      refine TC.region (TO.move rfl dc rfl (TO.fieldAddr fl_46_1 rfl dc rfl (show _ = 1 from rfl) (TO.load (k := 3) sc_5 rfl dc rfl rfl rfl ?_)))
      refine TO.buildSlice (cs := [.int .u8 x4.broken]) (te := 5) (ps := [(0, .tmp 19)]) rfl dc rfl (fun _ => by kernel_rfl) (fun b7 => ?_)
      obtain ⟨hg1, h⟩ := grdE h
      obtain ⟨hg2, h⟩ := grdE h
      refine TO.appendByt (k := 2) (k2 := 4) (ys := (bytesOf [x4.broken])) Try.underlying82 by_5 rfl dc rfl rfl rfl rfl (strCells_of hg2) rfl hg1 (fun v6 => ?_)
      show TO _ _ _ _ _ _ _ _ _ _ [vec encN_Gfold_unit 46 5 vvl1 Zl1, own nest_Gfold_unit Zl1, byt 5 v6 (b4 ++ (bytesOf [x4.broken])), cells b6 [.int .i64 x4.at_, .int .u8 x4.broken, .int .i32 x4.base, eh1.v, eh2.v] 46, cells b7 [.int .u8 x4.broken] 5]
      refine TO.assign rfl dc rfl (TO.nil (TX.blockNormal ?_))
      exact TX.meetD (b4 ++ (bytesOf [x4.broken]), v6) h rfl (Sbs.cons rfl (Sbs.cons rfl (Sbs.cons rfl (Sbs.cons rfl (Sbs.cons rfl (Sbs.nil)))))) (Splits.of [0, 1, 2] kr rfl)
     ·
      have h := condF hb2 h
      refine TC.region (TO.move rfl dc rfl (TO.move rfl dc rfl (TO.loads (k := 3) (cs := [.int .i64 x4.at_, .int .u8 x4.broken, .int .i32 x4.base, eh1.v, eh2.v]) rw_46 rfl dc rfl rfl rfl rfl ?_)))
      refine TO.unfold1 (k := 1) rfl (pullE (Vw.get hwl1 eq1)) (fun _ _ => ?_)
      show TO _ _ _ _ _ _ _ _ _ _ [vec encN_Gfold_unit 46 5 vvl1 Zl1, own nest_Gfold_unit (Zl1.eraseIdx (kl1 + (x3 : Int).toNat)), byt 5 v4 b4, cells b6 [.int .i64 x4.at_, .int .u8 x4.broken, .int .i32 x4.base, eh1.v, eh2.v] 46, vec (encI (.i32)) 21 1 eh1.v x4.low, vec (encI (.i32)) 21 1 eh2.v x4.high]
      obtain ⟨r1, hq2, h⟩ := andE h
      refine TO.callK (v := .string r1) (vs := [.agg #[.int .i64 x4.at_, .int .u8 x4.broken, .int .i32 x4.base, eh1.v, eh2.v]]) rfl dc rfl rfl rfl en_26 (fold_plain_fn (u1 := x4) (u1_h0 := eh1) (u1_h1 := eh2) hq2) [4, 5] kr rfl ?_
      obtain ⟨hg3, h⟩ := grdE h
      refine TO.appendStr (k := 2) Try.underlying82 Try.underlying9 by_5 rfl dc rfl rfl rfl hg3 (fun v7 => ?_)
      refine TO.assign rfl dc rfl (TO.nil (TX.blockNormal (TX.fold1 (k := 1) rfl (Splits.of [4, 5] kr rfl) rfl (pushE (nest := nest_Gfold_unit) (Vw.get hwl1 eq1) rfl) ?_)))
      show TX _ _ _ _ _ _ _ [vec encN_Gfold_unit 46 5 vvl1 Zl1, own nest_Gfold_unit Zl1, byt 5 v7 (b4 ++ r1), cells b6 [.int .i64 x4.at_, .int .u8 x4.broken, .int .i32 x4.base, eh1.v, eh2.v] 46, emp, emp]
      exact TX.meetD (b4 ++ r1, v7) h rfl (Sbs.cons rfl (Sbs.cons rfl (Sbs.cons rfl (Sbs.cons rfl (Sbs.cons rfl (Sbs.nil)))))) (Splits.of [0, 1, 2] kr rfl)
    ·
     rintro ⟨b5, v5⟩ h
     rw [hj2] at h
     show TC _ _ _ _ _ ([]) _ _ [(1, .func (.func 26) #[] #[]), (5, v5), (8, vl1), (9, .int .i64 (l1.length : Int)), (10, .int .i64 x3)] [vec encN_Gfold_unit 46 5 vvl1 Zl1, own nest_Gfold_unit Zl1, byt 5 v5 b5]
     refine TC.region ?_
     obtain ⟨hg4, h⟩ := grdE h
     refine TO.bin rfl dc rfl rfl (bin_add (r := x3 + 1) (IntWalk.i64_in _ hg4)) (TO.move rfl dc rfl (TO.nil ?_))
     subst hag1
     exact TX.againD (n1, b5, x3 + 1, v5) h (Nat.lt_succ_self _) rfl (Sbs.cons rfl (Sbs.cons rfl (Sbs.cons rfl (Sbs.cons rfl (Sbs.cons rfl (Sbs.nil)))))) (Splits.of [0, 1, 2] kr rfl)
   ·
    have h := condF hb1 h
    refine TC.exit (TX.thenExit (TX.thenExit (TX.blockHere ?_)))
    exact TX.meetD (b4, v4) h rfl (Sbs.cons rfl (Sbs.nil)) (Splits.of [0, 1, 2] kr rfl)
 ·
  rintro ⟨b1, v1⟩ h
  rw [hj1] at h
  show TC _ _ _ _ _ ([]) _ _ [(5, v1)] [vec encN_Gfold_unit 46 5 vvl1 Zl1, own nest_Gfold_unit Zl1, byt 5 v1 b1]
  refine TC.seq (TC.region (TO.move rfl dc rfl (TO.bytStr (k := 2) rfl dc rfl rfl Try.underlying82 Try.underlying5 Try.underlying9 (TO.assign rfl dc rfl (TO.nil (TX.next (TC.ret ?_)))))))
  cases h
  exact TX.fin (rs := [.tmp 4]) () (.inl rfl) Try.results25 (.cons (.tmp rfl) .nil) rfl (Splits.of [0, 1] kr rfl)
end Go.Proofs.Ytlamcpgnmeileaa
namespace Go.Proofs.Ytlamcpgnmeileaa
open Go.RowKit Go.Lib
set_option linter.unusedVariables false
set_option linter.unusedSimpArgs false
def fold_Fold_v (s1 : ByteArray) : Option ByteArray := andThen (fold_units_v s1) fun (r1 : (List Gfold_unit)) => andThen (fold_written_plain_v r1) fun (r2 : ByteArray) => some r2
set_option maxRecDepth 100000 in
set_option maxHeartbeats 4000000 in
theorem fold_Fold_fn {s1 : ByteArray} {r : ByteArray} (h : fold_Fold_v s1 = some r) : FnP Try.prog 10 [.string s1] (.string r) := by
 unfold fold_Fold_v at h
 refine FnP.intro Try.func10 rfl Try.ntmps10 (by simp) ?_
 intro w0 K
 refine TC.seq (TC.region (TO.assign rfl dc rfl (TO.nil (TX.next (TC.seq (TC.region (TO.move rfl dc rfl ?_)))))))
 obtain ⟨r1, hq1, h⟩ := andE h
 refine TO.call (vs := [.string s1]) rfl dc rfl rfl rfl en_24 (fold_units_fn hq1) Splits.nil ?_
 rintro v1
 show TO _ _ _ _ _ _ _ _ _ _ [vecN encN_Gfold_unit nest_Gfold_unit 46 5 v1 r1]
 refine TO.weakenL (L' := [vecN encN_Gfold_unit nest_Gfold_unit 46 5 v1 r1]) (Splits.of [0] kr rfl) ?_
 refine TO.nameHdN (k := 0) rfl (fun hd1 he1 => ?_)
 subst he1
 refine TO.unfold1 (k := 0) rfl openE (fun zs1 hz1 => ?_)
 show TO _ _ _ _ _ _ _ _ _ _ [vec encN_Gfold_unit 46 5 hd1.v zs1, own nest_Gfold_unit zs1]
 refine TO.vecVw (k := 0) rfl (fun hw1 => ?_)
 obtain ⟨r2, hq2, h⟩ := andE h
 refine TO.callK (v := .string r2) (vs := [hd1.v, .func (.func 26) #[] #[]]) rfl dc rfl rfl rfl en_25 (fold_written_plain_fn hw1 hz1 hq2) [0, 1] kr rfl (TO.assign rfl dc rfl (TO.nil (TX.next (TC.ret ?_))))
 cases h
 exact TX.fin (rs := [.tmp 2]) () (.inl rfl) Try.results10 (.cons (.tmp rfl) .nil) rfl Splits.nil
def fold_Same_v (a1 : ByteArray) (b1 : ByteArray) : Option Bool := andThen (fold_Fold_v a1) fun (r1 : ByteArray) => andThen (fold_Fold_v b1) fun (r2 : ByteArray) => some (decide (r1 = r2))
set_option maxRecDepth 100000 in
set_option maxHeartbeats 4000000 in
theorem fold_Same_fn {a1 : ByteArray} {b1 : ByteArray} {r : Bool} (h : fold_Same_v a1 b1 = some r) : FnP Try.prog 11 [.string a1, .string b1] (.bool r) := by
 unfold fold_Same_v at h
 refine FnP.intro Try.func11 rfl Try.ntmps11 (by simp) ?_
 intro w0 K
 refine TC.seq (TC.region (TO.assign rfl dc rfl (TO.nil (TX.next (TC.seq (TC.region (TO.move rfl dc rfl ?_)))))))
 obtain ⟨r1, hq1, h⟩ := andE h
 refine TO.callP (v := .string r1) (vs := [.string a1]) rfl dc rfl rfl rfl en_10 (fold_Fold_fn hq1) (TO.move rfl dc rfl ?_)
 obtain ⟨r2, hq2, h⟩ := andE h
 refine TO.callP (v := .string r2) (vs := [.string b1]) rfl dc rfl rfl rfl en_10 (fold_Fold_fn hq2) (TO.bin rfl dc rfl rfl bin_seql (TO.assign rfl dc rfl (TO.nil (TX.next (TC.ret ?_)))))
 cases h
 exact TX.fin (rs := [.tmp 4]) () (.inl rfl) Try.results11 (.cons (.tmp rfl) .nil) rfl Splits.nil
end Go.Proofs.Ytlamcpgnmeileaa
namespace Go.Proofs.Ytlamcpgnmeileaa
open Go.RowKit Go.Lib
set_option linter.unusedVariables false
set_option linter.unusedSimpArgs false
/-! ### Texts laid together -/
section
variable {α β : Type}
def J (f : α → ByteArray) (l : List α) : ByteArray := l.foldl (fun s x => s ++ f x) ByteArray.empty
theorem J_acc (f : α → ByteArray) : ∀ (l : List α) (b : ByteArray), l.foldl (fun s x => s ++ f x) b = b ++ J f l
  | [], b => by simp [J]
  | x :: l, b => by
    unfold J
    rw [List.foldl_cons, J_acc f l, List.foldl_cons, J_acc f l (ByteArray.empty ++ f x), ByteArray.empty_append, ByteArray.append_assoc]
theorem J_nil (f : α → ByteArray) : J f [] = ByteArray.empty := rfl
theorem J_cons (f : α → ByteArray) (x : α) (l : List α) : J f (x :: l) = f x ++ J f l := by
  show (l.foldl _ (ByteArray.empty ++ f x)) = _
  rw [J_acc, ByteArray.empty_append]
theorem J_append (f : α → ByteArray) : ∀ (a b : List α), J f (a ++ b) = J f a ++ J f b
  | [], b => by rw [List.nil_append, J_nil, ByteArray.empty_append]
  | x :: a, b => by rw [List.cons_append, J_cons, J_cons, J_append f a, ByteArray.append_assoc]
theorem J_flat (f : β → ByteArray) (g : α → List β) : ∀ l : List α, J f (l.flatMap g) = J (fun x => J f (g x)) l
  | [] => rfl
  | x :: l => by rw [List.flatMap_cons, J_append, J_cons, J_flat f g l]
theorem J_map (f : β → ByteArray) (g : α → β) : ∀ l : List α, J f (l.map g) = J (fun x => f (g x)) l
  | [] => rfl
  | x :: l => by rw [List.map_cons, J_cons, J_cons, J_map f g l]
theorem J_congr {f g : α → ByteArray} : ∀ {l : List α}, (∀ x ∈ l, f x = g x) → J f l = J g l
  | [], _ => rfl
  | x :: l, h => by rw [J_cons, J_cons, h x (List.mem_cons_self ..), J_congr (fun y hy => h y (List.mem_cons_of_mem _ hy))]
theorem J_size (f : α → ByteArray) (m : Nat) : ∀ {l : List α}, (∀ x ∈ l, (f x).size ≤ m) → (J f l).size ≤ l.length * m
  | [], _ => by simp [J]
  | x :: l, h => by
    rw [J_cons, ByteArray.size_append, List.length_cons, Nat.add_mul, Nat.one_mul]
    have := J_size f m (fun y hy => h y (List.mem_cons_of_mem _ hy))
    have := h x (List.mem_cons_self ..)
    omega
end
theorem strOf_J (l : List Int) : strOf l = J Utf8.encode l := rfl
theorem enc_size4 (r : Int) : (Utf8.encode r).size ≤ 4 := by
  rw [encode_size]; exact (encodeRune_len r).2
def wr (of : Gfold_unit → ByteArray) (u : Gfold_unit) : ByteArray := if u.base < 0 then bytesOf [u.broken] else of u
theorem wr_plain (of : Gfold_unit → ByteArray) (l : List Gfold_unit) (hl : l.length ≤ 1048576) (h : ∀ u ∈ l, u.base < 0 ∧ U8 u.broken ∨ 0 ≤ u.base ∧ fold_plain_v u = some (of u) ∧ (of u).size ≤ 1048576) : fold_written_plain_v l = some (J (wr of) l) := by
  unfold fold_written_plain_v
  refine joinI ((loop1 (xs := l) (f := fun b u => b ++ wr of u) (J := some) (fun k b => b.size ≤ k * 1048576) ?_ ?_ ?_ (big_fuel (by omega)) (by decide)).trans rfl)
  · intro ag k u b hu hb
    have hk := lp_lt' hu
    unfold fold_written_plain_s1
    refine condTI (lp_lt hu) (joinI (thenI (lp_get hu) ?_))
    rcases h u (List.mem_of_getElem? hu) with ⟨h1, h2⟩ | ⟨h1, h2, h3⟩
    · exact condTI (decide_eq_true h1) (grdI (by omega) (grdI (by simpa using h2) (grdI (lp_i64 (by omega)) (by simp only [wr, if_pos h1]))))
    · exact condFI (decide_eq_false (by omega)) (thenI h2 (grdI (by omega) (grdI (lp_i64 (by omega)) (by simp only [wr, if_neg (show ¬ u.base < 0 by omega)]))))
  · intro k u b hu hb
    have hw : (wr of u).size ≤ 1048576 := by
      rcases h u (List.mem_of_getElem? hu) with ⟨h1, h2⟩ | ⟨h1, h2, h3⟩
      · unfold wr; rw [if_pos h1, bytesOf_size]; simp
      · unfold wr; rw [if_neg (by omega)]; exact h3
    rw [ByteArray.size_append]; omega
  · intro ag b _; unfold fold_written_plain_s1; exact condFI lp_ge rfl
/-! ### Items in order -/
def okT (x : Itm) : Prop := I32 x.Rune ∧ ((x.Rune < 0 ∧ x.Text.size = 1) ∨ (0 ≤ x.Rune ∧ x.Text = Utf8.encode x.Rune))
theorem okT_item {s : ByteArray} : ∀ x ∈ itemsP s, okT x := by
  intro x hx
  unfold itemsP at hx
  obtain ⟨p, hp, rfl⟩ := List.mem_map.1 hx
  obtain ⟨h1, h2⟩ := item_of hp
  obtain ⟨g1, g2, hok⟩ := pcs_pos s.data.toList p hp
  have hv := hok.valid
  cases hb : p.broken with
  | true => obtain ⟨e1, e2, _⟩ := h1 hb; exact ⟨by rw [e1]; exact ⟨by omega, by omega⟩, .inl ⟨by omega, e2⟩⟩
  | false =>
    obtain ⟨e1, e2⟩ := h2 hb
    refine ⟨by rw [e1]; exact ⟨by omega, by omega⟩, .inr ⟨by omega, by rw [e2, e1]⟩⟩
theorem okT_ap {l : List Itm} (h : ∀ x ∈ l, okT x) : ∀ x ∈ apL l, okT x := by
  intro y hy
  unfold apL at hy
  obtain ⟨x, hx, hy⟩ := List.mem_flatMap.1 hy
  unfold apI at hy
  split at hy
  · rename_i hL
    obtain ⟨r, hr, rfl⟩ := List.mem_map.1 hy
    obtain ⟨b, ms, hq, hb, _, hms, _⟩ := parts_shape (show letter x.Rune = true from hL)
    have h0 : 0 ≤ r := by
      rw [hq] at hr
      rcases List.mem_cons.1 hr with rfl | hr
      · exact (letter_rng _ hb).1
      · have := hms r hr; unfold mrk at this; simp at this; omega
    exact ⟨parts_i32 (h x hx).1 r hr, .inr ⟨h0, rfl⟩⟩
  · simp at hy; subst hy; exact h _ hx
theorem clF_mem : ∀ (xs : List Itm) (cur : Option (Itm × List Itm)) (c : Itm × List Itm), c ∈ clF cur xs → (∀ d, cur = some d → isL d.1 = false → d.2 = []) → ((c.1 ∈ xs ∨ ∃ d, cur = some d ∧ c.1 = d.1) ∧ (∀ m ∈ c.2, (isM m = true ∧ m ∈ xs) ∨ ∃ d, cur = some d ∧ m ∈ d.2) ∧ (isL c.1 = false → c.2 = []))
  | [], none, c, h, _ => by cases h
  | [], some d, c, h, hd => by
    simp [clF] at h; subst h
    exact ⟨.inr ⟨c, rfl, rfl⟩, fun m hm => .inr ⟨c, rfl, hm⟩, hd c rfl⟩
  | x :: xs, none, c, h, _ => by
    obtain ⟨h1, h2, h3⟩ := clF_mem xs (some (x, [])) c h (fun d hd _ => by cases hd; rfl)
    refine ⟨.inl ?_, fun m hm => .inl ?_, h3⟩
    · rcases h1 with h1 | ⟨d, hd, h1⟩
      · exact List.mem_cons_of_mem _ h1
      · cases hd; rw [h1]; exact List.mem_cons_self ..
    · rcases h2 m hm with ⟨a, b⟩ | ⟨d, hd, h2⟩
      · exact ⟨a, List.mem_cons_of_mem _ b⟩
      · cases hd; cases h2
  | x :: xs, some d, c, h, hd => by
    have h' : c ∈ (if isL d.1 && isM x then clF (some (d.1, d.2 ++ [x])) xs else d :: clF (some (x, [])) xs) := h
    cases hk : (isL d.1 && isM x) with
    | true =>
      rw [hk] at h'
      rw [Bool.and_eq_true] at hk
      obtain ⟨h1, h2, h3⟩ := clF_mem xs (some (d.1, d.2 ++ [x])) c h' (fun e he hl => by cases he; rw [hk.1] at hl; cases hl)
      refine ⟨?_, fun m hm => ?_, h3⟩
      · rcases h1 with h1 | ⟨e, he, h1⟩
        · exact .inl (List.mem_cons_of_mem _ h1)
        · cases he; exact .inr ⟨d, rfl, h1⟩
      · rcases h2 m hm with ⟨a, b⟩ | ⟨e, he, h2⟩
        · exact .inl ⟨a, List.mem_cons_of_mem _ b⟩
        · cases he
          rcases List.mem_append.1 h2 with h2 | h2
          · exact .inr ⟨d, rfl, h2⟩
          · simp at h2; subst h2; exact .inl ⟨hk.2, List.mem_cons_self ..⟩
    | false =>
      rw [hk] at h'
      rcases List.mem_cons.1 h' with rfl | h'
      · exact ⟨.inr ⟨c, rfl, rfl⟩, fun m hm => .inr ⟨c, rfl, hm⟩, hd c rfl⟩
      · obtain ⟨h1, h2, h3⟩ := clF_mem xs (some (x, [])) c h' (fun e he _ => by cases he; rfl)
        refine ⟨.inl ?_, fun m hm => .inl ?_, h3⟩
        · rcases h1 with h1 | ⟨e, he, h1⟩
          · exact List.mem_cons_of_mem _ h1
          · cases he; rw [h1]; exact List.mem_cons_self ..
        · rcases h2 m hm with ⟨a, b⟩ | ⟨e, he, h2⟩
          · exact ⟨a, List.mem_cons_of_mem _ b⟩
          · cases he; cases h2
theorem cl_mem {xs : List Itm} {c : Itm × List Itm} (h : c ∈ cl xs) : c.1 ∈ xs ∧ (∀ m ∈ c.2, isM m = true ∧ m ∈ xs) ∧ (isL c.1 = false → c.2 = []) := by
  obtain ⟨h1, h2, h3⟩ := clF_mem xs none c h (fun d hd => by cases hd)
  refine ⟨?_, fun m hm => ?_, h3⟩
  · rcases h1 with h1 | ⟨d, hd, _⟩
    · exact h1
    · cases hd
  · rcases h2 m hm with h2 | ⟨d, hd, _⟩
    · exact h2
    · cases hd
theorem clF_len : ∀ (xs : List Itm) (cur : Option (Itm × List Itm)), (clF cur xs).length ≤ xs.length + cur.toList.length ∧ ∀ c ∈ clF cur xs, c.2.length ≤ xs.length + (cur.toList.map (·.2.length)).sum
  | [], none => by simp [clF]
  | [], some d => by simp [clF]
  | x :: xs, none => by
    have := clF_len xs (some (x, []))
    refine ⟨?_, fun c hc => ?_⟩
    · have h1 := this.1; show (clF (some (x, [])) xs).length ≤ _; simp at h1 ⊢; omega
    · have h1 := this.2 c hc; simp at h1 ⊢; omega
  | x :: xs, some d => by
    have a := clF_len xs (some (d.1, d.2 ++ [x]))
    have b := clF_len xs (some (x, []))
    show (if isL d.1 && isM x then clF (some (d.1, d.2 ++ [x])) xs else d :: clF (some (x, [])) xs).length ≤ _ ∧ _
    show _ ∧ ∀ c ∈ (if isL d.1 && isM x then clF (some (d.1, d.2 ++ [x])) xs else d :: clF (some (x, [])) xs), _
    split
    · refine ⟨by have := a.1; simp at this ⊢; omega, fun c hc => by have := a.2 c hc; simp at this ⊢; omega⟩
    · refine ⟨by have := b.1; simp at this ⊢; omega, fun c hc => ?_⟩
      rcases List.mem_cons.1 hc with rfl | hc
      · simp
      · have := b.2 c hc; simp at this ⊢; omega
theorem cl_len (xs : List Itm) : (cl xs).length ≤ xs.length ∧ ∀ c ∈ cl xs, c.2.length ≤ xs.length := by
  have := clF_len xs none
  simpa [cl] using this
theorem clus_ok {s : ByteArray} (hs : s.size ≤ 65536) : (clus s).length ≤ 196608 ∧ ∀ c ∈ clus s, okT c.1 ∧ (∀ m ∈ c.2, isM m = true ∧ okT m) ∧ (isL c.1 = false → c.2 = []) ∧ c.2.length ≤ 196608 := by
  have h1 := cl_len (apL (itemsP s))
  have h2 := apL_len (itemsP s)
  have h3 : (itemsP s).length ≤ s.size := by unfold itemsP; simpa using pcs_count_le s
  have hok := okT_ap (okT_item (s := s))
  refine ⟨by unfold clus; omega, fun c hc => ?_⟩
  obtain ⟨g1, g2, g3⟩ := cl_mem hc
  exact ⟨hok _ g1, fun m hm => ⟨(g2 m hm).1, hok _ (g2 m hm).2⟩, g3, by have := h1.2 c hc; omega⟩
theorem toU_cases (c : Itm × List Itm) (h : okT c.1) : (toU c).base < 0 ∧ U8 (toU c).broken ∧ c.1.Rune < 0 ∧ bytesOf [(toU c).broken] = c.1.Text ∨ 0 ≤ (toU c).base ∧ 0 ≤ c.1.Rune ∧ c.1.Text = Utf8.encode c.1.Rune ∧ toU c = ⟨c.1.At, 0, c.1.Rune, (loI c.2).map (·.Rune), (hiI c.2).map (·.Rune)⟩ := by
  rcases h.2 with ⟨h1, h2⟩ | ⟨h1, h2⟩
  · left
    have e : toU c = ⟨c.1.At, byte0 c.1.Text, -1, [], []⟩ := by unfold toU; rw [if_pos h1]
    rw [e]
    refine ⟨by show (-1 : Int) < 0; omega, ?_, h1, ?_⟩
    · show U8 (byte0 c.1.Text); unfold byte0; constructor
      · omega
      · have := (c.1.Text.data.toList.headD 0).toNat_lt; omega
    · show bytesOf [byte0 c.1.Text] = _
      apply ByteArray.ext; apply Array.toList_inj.1
      have hl : c.1.Text.data.toList.length = 1 := by rw [Array.length_toList]; exact h2
      cases hq : c.1.Text.data.toList with
      | nil => rw [hq] at hl; cases hl
      | cons b l =>
        rw [hq] at hl
        have : l = [] := List.eq_nil_of_length_eq_zero (by simpa using hl)
        subst this
        unfold bytesOf byte0
        rw [hq]; simp
  · right
    have e : toU c = ⟨c.1.At, 0, c.1.Rune, (loI c.2).map (·.Rune), (hiI c.2).map (·.Rune)⟩ := by unfold toU; rw [if_neg (by omega)]
    rw [e]
    exact ⟨h1, h1, h2, rfl⟩
end Go.Proofs.Ytlamcpgnmeileaa
namespace Go.Proofs.Ytlamcpgnmeileaa
open Go.RowKit Go.Lib
set_option linter.unusedVariables false
set_option linter.unusedSimpArgs false
theorem ordI_len (xs : List Itm) : (ordI xs).length = xs.length := by
  obtain ⟨n, hn⟩ : ∃ n, xs.length ≤ n := ⟨_, Nat.le_refl _⟩
  induction n generalizing xs with
  | zero => have : xs = [] := List.eq_nil_of_length_eq_zero (by omega); subst this; rfl
  | succ n ih =>
    cases xs with
    | nil => rfl
    | cons x xs =>
      simp only [List.length_cons] at hn
      cases hL : isL x with
      | false => rw [ordI_other hL, List.length_cons, List.length_cons, ih xs (by omega)]
      | true =>
        have h1 := lohi_len (xs.takeWhile isM)
        have h2 : xs.length = (xs.takeWhile isM).length + (xs.dropWhile isM).length := by
          have := congrArg List.length (List.takeWhile_append_dropWhile (p := isM) (l := xs))
          rw [List.length_append] at this; exact this.symm
        rw [ordI_letter hL, List.length_cons, List.length_append, h1, ih _ (by omega), List.length_cons]; omega
/-! ### Plain letters -/
def plT : List (Int × List UInt8) := [(223, [115, 115]), (230, [97, 101]), (248, [111]), (240, [100]), (254, [116, 104]), (273, [100]), (295, [104]), (305, [105]), (307, [105, 106]), (312, [113]), (320, [108]), (322, [108]), (329, [110]), (331, [110, 103]), (339, [111, 101]), (359, [116]), (383, [115]), (962, [207, 131])]
def plainR (r : Int) : ByteArray := match getM r plT with | some b => ⟨b.toArray⟩ | none => Utf8.encode r
theorem plainR_size (r : Int) : (plainR r).size ≤ 4 := by
  unfold plainR
  split
  · rename_i b hb
    have h : ∀ p ∈ plT, p.2.length ≤ 4 := by decide
    have := h _ (getM_mem hb)
    show (b.toArray).size ≤ 4; simpa using this
  · exact enc_size4 r
/-- Folded, one item. -/
def foldI (x : Itm) : Itm := if isL x then ⟨x.Rune, plainR (lower x.Rune), x.At⟩ else x
end Go.Proofs.Ytlamcpgnmeileaa
namespace Go.Proofs.Ytlamcpgnmeileaa
open Go.RowKit Go.Lib
set_option linter.unusedVariables false
set_option linter.unusedSimpArgs false
def plS (sm : Int) (j1 : Option ByteArray) (ag1 : Int → Bool → Nat → Option ByteArray) (from3 : Int) (head3 : Bool) (m3 : Nat) : Option ByteArray := bcond (decide (m3 < (pcs str_f9f7e721.data.toList).length)) ( andThen ((pcs str_f9f7e721.data.toList)[m3]?) fun (p1 : Pc) => joinK (fun (j2 : Int → Option ByteArray) => bcond (((p1.r : Int) : Int) == 32) ( bcond (decide ((0 : Int) ≤ from3)) ( grd (0 ≤ (from3 : Int) ∧ (from3 : Int) ≤ (p1.i : Int) ∧ ((p1.i : Int) : Int) ≤ (str_f9f7e721.size : Int)) <| some (cutB str_f9f7e721 from3 (p1.i : Int))
) ( bcond (((p1.r : Int) : Int) == 32) ( j2 from3
) ( bcond (head3) ( bcond (((p1.r : Int) : Int) == sm) ( grd (I64 ((p1.i : Int) + ((Utf8.encode (p1.r : Int)).size : Int))) <| j2 ((p1.i : Int) + ((Utf8.encode (p1.r : Int)).size : Int))
) ( j2 from3
)
) ( j2 from3
)
)
)
) ( bcond (((p1.r : Int) : Int) == 32) ( j2 from3
) ( bcond (head3) ( bcond (((p1.r : Int) : Int) == sm) ( grd (I64 ((p1.i : Int) + ((Utf8.encode (p1.r : Int)).size : Int))) <| j2 ((p1.i : Int) + ((Utf8.encode (p1.r : Int)).size : Int))
) ( j2 from3
)
) ( j2 from3
)
)
)
) (fun (from4 : Int) => ag1 from4 (((p1.r : Int) : Int) == 32) (m3 + 1)
)
) ( j1
)
def othP : List Pc := pcs str_f9f7e721.data.toList
def plL (sm : Int) : Option ByteArray := loopG (fun _ _ _ => none) (plS sm (some (Utf8.encode sm))) fuel (-1) true 0
def hds : List Pc → Bool → List Int
  | [], _ => []
  | p :: ps, h => (if (p.r == 32) then [] else if h then [(p.r : Int)] else []) ++ hds ps (p.r == 32)
set_option maxRecDepth 100000 in
theorem hds_eq : hds othP true = plT.map Prod.fst := by decide +kernel
set_option maxRecDepth 100000 in
theorem plL_keys : (plT.all fun p => decide (plL p.1 = some (plainR p.1))) = true := by decide +kernel
theorem plL_none (sm : Int) (J : Option ByteArray) : ∀ (n m : Nat) (h : Bool), m ≤ othP.length → othP.length - m < n → sm ∉ hds (othP.drop m) h → loopG (fun _ _ _ => none) (plS sm J) n (-1) h m = J := by
  intro n
  induction n with
  | zero => intro m h _ hn; omega
  | succ n ih =>
    intro m h hm hn hs
    rw [loopI]
    generalize loopG (fun _ _ _ => none) (plS sm J) n = ag at ih ⊢
    unfold plS
    by_cases hlt : m < othP.length
    · have hx : othP[m]? = some othP[m] := List.getElem?_eq_getElem hlt
      rw [List.drop_eq_getElem_cons hlt] at hs
      generalize othP[m] = p at hx hs
      unfold hds at hs
      rw [List.mem_append, not_or] at hs
      have e : ((p.r : Int) == 32) = (p.r == 32) := by rw [Bool.eq_iff_iff]; simp; omega
      refine condTI (decide_eq_true hlt) (thenI hx (joinI ?_))
      have nx : ag (-1) ((p.r : Int) == 32) (m + 1) = J := ih (m + 1) _ (by omega) (by omega) (by rw [e]; exact hs.2)
      cases h32 : ((p.r : Int) == 32) with
      | true =>
        rw [h32] at nx
        exact condTI rfl (condFI (by decide) (condTI rfl nx))
      | false =>
        rw [h32] at nx
        refine condFI rfl (condFI rfl ?_)
        cases h with
        | false => exact condFI rfl nx
        | true =>
          have h1 := hs.1
          rw [← e, h32] at h1
          refine condTI rfl (condFI ?_ nx)
          rw [beq_eq_false_iff_ne]
          intro e2
          exact h1 (by simp [e2])
    · exact condFI (decide_eq_false hlt) rfl
theorem plL_v (sm : Int) : plL sm = some (plainR sm) := by
  by_cases h : sm ∈ plT.map Prod.fst
  · obtain ⟨p, hp, rfl⟩ := List.mem_map.1 h
    exact of_decide_eq_true (List.all_eq_true.1 plL_keys p hp)
  · have : plL sm = some (Utf8.encode sm) := plL_none sm _ fuel 0 true (Nat.zero_le _) (by
      have : othP.length ≤ 100000 := by decide +kernel
      unfold fuel; omega) (by rw [List.drop_zero, hds_eq]; exact h)
    rw [this]
    unfold plainR
    cases hg : getM sm plT with
    | none => rfl
    | some b => exact absurd (List.mem_map.2 ⟨_, getM_mem hg, rfl⟩) h
theorem plain_v (u : Gfold_unit) (hu : I32 u.base) : fold_plain_v u = some (if letter u.base then plainR (lower u.base) else Utf8.encode u.base) := by
  unfold fold_plain_v
  refine thenI (letter_v u hu) ?_
  cases hL : letter u.base with
  | false => exact condTI rfl rfl
  | true => exact condFI rfl (joinI (grdI hu (plL_v (lower u.base))))
/-! ### Fold, Bare, Apart -/
def foldC (c : Itm × List Itm) : ByteArray := (foldI c.1).Text
def foldS (s : ByteArray) : ByteArray := J foldC (clus s)
theorem wr_of (of : Gfold_unit → ByteArray) (g : Itm × List Itm → ByteArray) (s : ByteArray) (hs : s.size ≤ 65536) (h : ∀ c ∈ clus s, 0 ≤ c.1.Rune → of (toU c) = g c) (hneg : ∀ c ∈ clus s, c.1.Rune < 0 → g c = c.1.Text) : J (wr of) ((clus s).map toU) = J g (clus s) := by
  rw [J_map]
  refine J_congr fun c hc => ?_
  obtain ⟨h1, h2, h3, _⟩ := (clus_ok hs).2 c hc
  unfold wr
  rcases toU_cases c h1 with ⟨g1, _, g3, g4⟩ | ⟨g1, g2, g3, g4⟩
  · rw [if_pos g1, g4, hneg c hc g3]
  · rw [if_neg (by omega), h c hc g2]
theorem not_letter_neg {x : Itm} (h : x.Rune < 0) : isL x = false := by
  cases e : isL x with
  | false => rfl
  | true => have := (letter_rng x.Rune e).1; omega
theorem foldC_eq (c : Itm × List Itm) (h : okT c.1) : (0 ≤ c.1.Rune → (if letter (toU c).base then plainR (lower (toU c).base) else Utf8.encode (toU c).base) = foldC c) ∧ (c.1.Rune < 0 → foldC c = c.1.Text) := by
  constructor
  · intro h0
    have hb := toU_base c h0
    rw [hb]
    unfold foldC foldI isL
    rcases h.2 with ⟨h1, _⟩ | ⟨_, h2⟩
    · omega
    · cases letter c.1.Rune with
      | true => rfl
      | false => simp [h2]
  · intro h0
    unfold foldC foldI; rw [not_letter_neg h0]; rfl
theorem fold_v (s : ByteArray) (hs : s.size ≤ 65536) : fold_Fold_v s = some (foldS s) := by
  unfold fold_Fold_v
  obtain ⟨hl, hc⟩ := clus_ok hs
  refine thenI (units_v s hs) (thenI (wr_plain (fun u => if letter u.base then plainR (lower u.base) else Utf8.encode u.base) _ (by rw [List.length_map]; omega) ?_) ?_)
  · intro u hu
    obtain ⟨c, hcm, rfl⟩ := List.mem_map.1 hu
    obtain ⟨h1, _⟩ := hc c hcm
    rcases toU_cases c h1 with ⟨g1, g2, _⟩ | ⟨g1, g2, g3, g4⟩
    · exact .inl ⟨g1, g2⟩
    · refine .inr ⟨g1, plain_v _ (by rw [toU_base c g2]; exact h1.1), ?_⟩
      split
      · have := plainR_size (lower (toU c).base); omega
      · have := enc_size4 (toU c).base; omega
  · rw [wr_of _ foldC s hs (fun c hcm h0 => (foldC_eq c (hc c hcm).1).1 h0) (fun c hcm h0 => (foldC_eq c (hc c hcm).1).2 h0)]; rfl
theorem okT_size {x : Itm} (h : okT x) : x.Text.size ≤ 4 := by
  rcases h.2 with ⟨_, h⟩ | ⟨_, h⟩
  · omega
  · rw [h]; exact enc_size4 _
theorem foldI_size {x : Itm} (h : okT x) : (foldI x).Text.size ≤ 4 := by
  unfold foldI
  split
  · exact plainR_size _
  · exact okT_size h
theorem same_v (a b : ByteArray) (ha : a.size ≤ 65536) (hb : b.size ≤ 65536) : fold_Same_v a b = some (decide (foldS a = foldS b)) := thenI (fold_v a ha) (thenI (fold_v b hb) rfl)
end Go.Proofs.Ytlamcpgnmeileaa
namespace Go.Proofs.Ytlamcpgnmeileaa
open Go.RowKit Go.Lib
set_option linter.unusedVariables false
set_option linter.unusedSimpArgs false
def law04_wakes_v  : Option Bool := andThen (fold_Fold_v (⟨#[83, 116, 114, 97, 195, 159, 101, 204, 129]⟩ : ByteArray)) fun (r1 : ByteArray) => bcond (decide (r1 = (⟨#[115, 116, 114, 97, 115, 115, 101]⟩ : ByteArray))) ( andThen (fold_Same_v (⟨#[195, 137]⟩ : ByteArray) (⟨#[101]⟩ : ByteArray)) fun (r2 : Bool) => some r2
) ( some false
)
set_option maxRecDepth 100000 in
set_option maxHeartbeats 4000000 in
theorem law04_wakes_fn  {r : Bool} (h : law04_wakes_v = some r) : FnP Try.prog 7 [] (.bool r) := by
 unfold law04_wakes_v at h
 refine FnP.intro Try.func7 rfl Try.ntmps7 (by simp) ?_
 intro w0 K
 refine TC.seq (TC.region (TO.assign rfl dc rfl (TO.nil (TX.next (TC.seq (TC.region ?_))))))
 obtain ⟨r1, hq1, h⟩ := andE h
 refine TO.callP (v := .string r1) (vs := [.string (⟨#[83, 116, 114, 97, 195, 159, 101, 204, 129]⟩ : ByteArray)]) rfl dc rfl rfl rfl en_10 (fold_Fold_fn hq1) (TO.bin rfl dc rfl rfl bin_seql (TO.move rfl dc rfl ?_))
 refine TO.split (s := 3) rfl (fun hb1 => ?_) (fun hb1 => ?_)
 ·
  have h := condT hb1 h
  obtain ⟨r2, hq2, h⟩ := andE h
  refine TO.callP (v := .bool r2) (vs := [.string (⟨#[195, 137]⟩ : ByteArray), .string (⟨#[101]⟩ : ByteArray)]) rfl dc rfl rfl rfl en_11 (fold_Same_fn hq2) (TO.pick (b := true) rfl dc rfl rfl (TO.assign rfl dc rfl (TO.nil (TX.next (TC.ret ?_)))))
  cases h
  exact TX.fin (rs := [.tmp 0]) () (.inl rfl) Try.results7 (.cons (.tmp rfl) .nil) rfl Splits.nil
 ·
  have h := condF hb1 h
  refine TO.skip rfl dc (TO.pick (b := false) rfl dc rfl rfl (TO.assign rfl dc rfl (TO.nil (TX.next (TC.ret ?_)))))
  cases h
  exact TX.fin (rs := [.tmp 0]) () (.inl rfl) Try.results7 (.cons (.tmp rfl) .nil) rfl Splits.nil
end Go.Proofs.Ytlamcpgnmeileaa
namespace Go.Proofs.Ytlamcpgnmeileaa
open Go.RowKit Go.Lib
set_option linter.unusedVariables false
set_option linter.unusedSimpArgs false
set_option maxRecDepth 100000 in
theorem wake1 : foldS ⟨#[83, 116, 114, 97, 195, 159, 101, 204, 129]⟩ = ⟨#[115, 116, 114, 97, 115, 115, 101]⟩ := by decide +kernel
set_option maxRecDepth 100000 in
theorem wake2 : foldS ⟨#[195, 137]⟩ = foldS ⟨#[101]⟩ := by decide +kernel
theorem wakes_v : law04_wakes_v = some true :=
  thenI ((fold_v _ (by decide)).trans (congrArg some wake1)) (condTI (decide_eq_true rfl) (thenI (same_v _ _ (by decide) (by decide)) (congrArg some (decide_eq_true wake2))))
theorem cut_le' (s : ByteArray) (n : Nat) : (cutB s 0 (n : Int)).size ≤ n := by
  unfold cutB; rw [ByteArray.size_extract]; omega
end Go.Proofs.Ytlamcpgnmeileaa
namespace Go.Proofs.Ytlamcpgnmeileaa
open Go.RowKit Go.Lib
set_option linter.unusedVariables false
set_option linter.unusedSimpArgs false

end Go.Proofs.Ytlamcpgnmeileaa
namespace Go.Proofs.Ytlamcpgnmeileaa
open Go.RowKit Go.Lib
set_option linter.unusedVariables false
set_option linter.unusedSimpArgs false

end Go.Proofs.Ytlamcpgnmeileaa
namespace Go.Proofs.Ytlamcpgnmeileaa
open Go.RowKit Go.Lib
set_option linter.unusedVariables false
set_option linter.unusedSimpArgs false
end Go.Proofs.Ytlamcpgnmeileaa
namespace Go.Proofs.Ytlamcpgnmeileaa
open Go.RowKit Go.Lib
set_option linter.unusedVariables false
set_option linter.unusedSimpArgs false
theorem strOf_size (l : List Int) : (strOf l).size ≤ l.length * 4 := by rw [strOf_J]; exact J_size _ 4 fun x _ => enc_size4 x
def strip (x : Itm) : Itm := ⟨x.Rune, x.Text, 0⟩
def stripC (c : Itm × List Itm) : Itm × List Itm := (strip c.1, c.2.map strip)
theorem isL_strip (x : Itm) : isL (strip x) = isL x := rfl
theorem isM_strip (x : Itm) : isM (strip x) = isM x := rfl
theorem clF_strip : ∀ (xs : List Itm) (cur : Option (Itm × List Itm)), clF (cur.map stripC) (xs.map strip) = (clF cur xs).map stripC
  | [], none => rfl
  | [], some c => rfl
  | x :: xs, none => clF_strip xs (some (x, []))
  | x :: xs, some c => by
    show (if isL (strip c.1) && isM (strip x) then clF (some (strip c.1, c.2.map strip ++ [strip x])) (xs.map strip) else stripC c :: clF (some (strip x, [])) (xs.map strip)) = (if isL c.1 && isM x then clF (some (c.1, c.2 ++ [x])) xs else c :: clF (some (x, [])) xs).map stripC
    rw [isL_strip, isM_strip]
    have h1 := clF_strip xs (some (c.1, c.2 ++ [x]))
    have h2 := clF_strip xs (some (x, []))
    simp only [Option.map_some, stripC, List.map_append, List.map_cons, List.map_nil] at h1 h2
    split
    · exact h1
    · rw [List.map_cons, ← h2]
theorem cl_strip (xs : List Itm) : cl (xs.map strip) = (cl xs).map stripC := clF_strip xs none
theorem apI_strip (x : Itm) : apI (strip x) = (apI x).map strip := by
  unfold apI
  rw [isL_strip]
  split
  · rw [List.map_map]; rfl
  · rfl
theorem apL_strip (xs : List Itm) : apL (xs.map strip) = (apL xs).map strip := by
  unfold apL
  induction xs with
  | nil => rfl
  | cons x xs ih => rw [List.map_cons, List.flatMap_cons, List.flatMap_cons, List.map_append, ih, apI_strip]
theorem foldC_strip (c : Itm × List Itm) : foldC (stripC c) = foldC c := by
  unfold foldC foldI stripC
  rw [isL_strip]
  split <;> rfl
/-- A token as an item. -/
def tokI (t : Tok) : Itm := ⟨if t.broken then -1 else (t.r : Int), ⟨t.bs.toArray⟩, 0⟩
def clT (ts : List Tok) : List (Itm × List Itm) := cl (apL (ts.map tokI))
def FT (ts : List Tok) : ByteArray := J foldC (clT ts)
theorem items_place (s : ByteArray) : ∀ (ts pre : List Tok), s.data.toList = flat (pre ++ ts) → ((place (flat pre).length ts).map (itG s)).map strip = ts.map tokI
  | [], pre, _ => rfl
  | t :: ts, pre, h => by
    have e : (flat pre).length + t.bs.length = (flat (pre ++ [t])).length := by rw [flat_append, List.length_append]; simp [flat]
    show strip (itG s ⟨(flat pre).length, t.bs.length, t.r⟩) :: ((place ((flat pre).length + t.bs.length) ts).map (itG s)).map strip = _
    rw [e, items_place s ts (pre ++ [t]) (by rw [h]; simp), List.map_cons]
    congr 1
    unfold strip itG tokI
    have hb : (⟨(flat pre).length, t.bs.length, t.r⟩ : Pc).broken = t.broken := rfl
    rw [hb]
    have ht : s.extract (flat pre).length ((flat pre).length + t.bs.length) = ⟨t.bs.toArray⟩ := by
      apply ByteArray.ext; apply Array.toList_inj.1
      rw [Lib.extract_data, h, flat_append, flat_cons]
      simp
    simp only [ht]
theorem items_toks (s : ByteArray) : (itemsP s).map strip = (toks s.data.toList).map tokI := by
  unfold itemsP pcs
  rw [pcs_place]
  have := items_place s (toks s.data.toList) [] (by rw [List.nil_append, flat_toks])
  exact this
theorem clus_strip (s : ByteArray) : (clus s).map stripC = clT (toks s.data.toList) := by
  unfold clT clus
  rw [← items_toks, apL_strip, cl_strip]
theorem foldS_toks (s : ByteArray) : foldS s = FT (toks s.data.toList) := by
  unfold foldS FT
  rw [← clus_strip, J_map]
  exact J_congr fun c _ => (foldC_strip c).symm
/-- The item of a rune. -/
def mkI (r : Int) : Itm := ⟨r, Utf8.encode r, 0⟩
theorem tokI_valid {t : Tok} (h : t.valid) : tokI t = mkI (t.r : Int) := by
  unfold tokI mkI
  rw [valid_not_broken h]
  have : (⟨t.bs.toArray⟩ : ByteArray) = Utf8.encode (t.r : Int) := by
    apply ByteArray.ext; apply Array.toList_inj.1
    rw [encode_list, ← h.2]
  rw [this]; rfl
theorem parts_other {r : Int} (h : letter r = false) : parts r = [r] := by
  unfold parts
  cases e : getM r tabS with
  | none => rfl
  | some p => have := (tabS_rng e).2.2; rw [h] at this; cases this
theorem apI_mk (r : Int) : apI (mkI r) = (parts r).map mkI := by
  unfold apI
  cases h : isL (mkI r) with
  | true => rfl
  | false => rw [parts_other (show letter r = false from h)]; rfl
theorem apL_mk (rs : List Int) : apL (rs.map mkI) = (rs.flatMap parts).map mkI := by
  unfold apL
  induction rs with
  | nil => rfl
  | cons r rs ih => rw [List.map_cons, List.flatMap_cons, List.flatMap_cons, List.map_append, ih, apI_mk]
/-- The tokens of a text of runes. -/
def tokR (r : Int) : Tok := ⟨r.toNat, encodeRune r⟩
theorem tokR_valid {r : Int} (h : vr r) : (tokR r).valid := by
  unfold vr at h
  refine ⟨?_, ?_⟩
  · show r.toNat < 55296 ∨ _; simp only [tokR]; omega
  · show encodeRune r = encodeRune ((r.toNat : Nat) : Int)
    rw [show ((r.toNat : Nat) : Int) = r by omega]
end Go.Proofs.Ytlamcpgnmeileaa
namespace Go.Proofs.Ytlamcpgnmeileaa
open Go.RowKit Go.Lib
set_option linter.unusedVariables false
set_option linter.unusedSimpArgs false
end Go.Proofs.Ytlamcpgnmeileaa
namespace Go.Proofs.Ytlamcpgnmeileaa
open Go.RowKit Go.Lib
set_option linter.unusedVariables false
set_option linter.unusedSimpArgs false
def fold_written_Bare_1_s1 (l1 : List Gfold_unit) (j1 : ByteArray → Option ByteArray) (ag1 : ByteArray → Int → Option ByteArray) (b4 : ByteArray) (x3 : Int) : Option ByteArray := bcond (decide ((x3 : Int) < (l1.length : Int))) ( joinK (fun (j2 : ByteArray → Option ByteArray) => andThen (getO l1 x3) fun (x4 : Gfold_unit) => bcond (decide ((x4.base : Int) < 0)) ( grd (b4.size + 1 ≤ 140737488355328) <| grd (∀ x ∈ ([x4.broken] : List Int), U8 x) <| j2 (b4 ++ (bytesOf [x4.broken]))
) ( andThen (fold_Bare_1_v x4) fun (r1 : ByteArray) => grd (b4.size + r1.size ≤ 140737488355328) <| j2 (b4 ++ r1)
)
) (fun (b5 : ByteArray) => grd (I64 (x3 + 1)) <| ag1 b5 (x3 + 1)
)
) ( j1 b4
)
def fold_written_Bare_1_v (l1 : List Gfold_unit) : Option ByteArray := joinK (fun (j1 : ByteArray → Option ByteArray) => loopG (fun _ _ => none) (fold_written_Bare_1_s1 l1 j1) fuel ByteArray.empty 0
) (fun (b1 : ByteArray) => some b1
)
set_option maxRecDepth 100000 in
set_option maxHeartbeats 4000000 in
theorem fold_written_Bare_1_fn {vvl1 vl1 : Value} {Zl1 : List (Gfold_unit × Hd × Hd)} {kl1 : Nat} {zl1 : List (Gfold_unit × Hd × Hd)} {l1 : List Gfold_unit} (hwl1 : Vw vvl1 Zl1 5 kl1 vl1 zl1) (hzl1 : zl1.map Prod.fst = l1) {r : ByteArray} (h : fold_written_Bare_1_v l1 = some r) : Fn Try.prog 25 [vl1, .func (.func 43) #[] #[]] [vec encN_Gfold_unit 46 5 vvl1 Zl1, own nest_Gfold_unit Zl1] (fun _b : Unit => .string r) (fun _b => [vec encN_Gfold_unit 46 5 vvl1 Zl1, own nest_Gfold_unit Zl1]) := by
 unfold fold_written_Bare_1_v at h
 refine Fn.intro Try.func25 rfl Try.ntmps25 (by simp) ?_
 intro w0 K
 obtain ⟨j1, hj1, h⟩ := joinE h
 refine TC.cutN (β := ByteArray × Value) 2 rfl (fun b => j1 b.1 = some r) (fun b => []) (fun b => [(5, b.2)]) (fun b => [vec encN_Gfold_unit 46 5 vvl1 Zl1, own nest_Gfold_unit Zl1, byt 5 b.2 b.1]) (fun cut => ?_) ?_
 ·
  refine TC.seq (TC.region (TO.assign rfl dc rfl (TO.nil (TX.next (TC.seq (TC.region (TO.assign rfl dc rfl (TO.nil (TX.next (cut (TC.seq (TC.region (TO.move rfl dc rfl ?_)))))))))))))
  refine TO.lenVwZ hzl1 hwl1 rfl dc rfl Try.underlying42 (TO.move rfl dc rfl (TO.nil (TX.next (TC.block (TC.newByt (e := 5) ?_)))))
  show TC _ _ _ _ _ _ _ _ _ [vec encN_Gfold_unit 46 5 vvl1 Zl1, own nest_Gfold_unit Zl1, byt 5 (.slice none 0 0) ByteArray.empty]
  refine TC.loopD (β := Nat × ByteArray × Int × Value) (fun b => loopG (fun _ _ => none) (fold_written_Bare_1_s1 l1 j1) b.1 b.2.1 b.2.2.1 = some r) (fun b => []) (fun b => [(1, .func (.func 43) #[] #[]), (5, b.2.2.2), (8, vl1), (9, .int .i64 (l1.length : Int)), (10, .int .i64 b.2.2.1)]) (fun b => [vec encN_Gfold_unit 46 5 vvl1 Zl1, own nest_Gfold_unit Zl1, byt 5 b.2.2.2 b.2.1]) (fun b => b.1) (fuel, ByteArray.empty, 0, (.slice none 0 0)) h rfl (Sbs.cons rfl (Sbs.cons rfl (Sbs.cons rfl (Sbs.cons rfl (Sbs.cons rfl (Sbs.nil)))))) (Splits.of [0, 1, 2] kr rfl) ?_
  rintro ⟨n1, b4, x3, v4⟩ h
  cases n1 with
  | zero => exact noneE h
  | succ n1 =>
   obtain ⟨ag1, hag1⟩ : ∃ ag, ag = loopG (fun _ _ => none) (fold_written_Bare_1_s1 l1 j1) n1 := ⟨_, rfl⟩
   have h : fold_written_Bare_1_s1 l1 j1 ag1 b4 x3 = some r := by rw [hag1]; exact h
   unfold fold_written_Bare_1_s1 at h
   show TC _ _ _ _ _ ([]) _ _ [(1, .func (.func 43) #[] #[]), (5, v4), (8, vl1), (9, .int .i64 (l1.length : Int)), (10, .int .i64 x3)] [vec encN_Gfold_unit 46 5 vvl1 Zl1, own nest_Gfold_unit Zl1, byt 5 v4 b4]
   refine TC.seq (TC.region (TO.bin rfl dc rfl rfl bin_lss (TO.nil (TX.next (TC.seq ?_)))))
   refine TC.condB rfl (fun hb1 => ?_) (fun hb1 => ?_)
   ·
    have h := condT hb1 h
    refine TC.skip (TX.next ?_)
    obtain ⟨j2, hj2, h⟩ := joinE h
    refine TC.cutN (β := ByteArray × Value) 0 rfl (fun b => j2 b.1 = some r) (fun b => []) (fun b => [(1, .func (.func 43) #[] #[]), (5, b.2), (8, vl1), (9, .int .i64 (l1.length : Int)), (10, .int .i64 x3)]) (fun b => [vec encN_Gfold_unit 46 5 vvl1 Zl1, own nest_Gfold_unit Zl1, byt 5 b.2 b.1]) (fun cut => ?_) ?_
    ·
     refine cut (TC.block (TC.seq (TC.region ?_)))
     obtain ⟨x4, hq1, h⟩ := andE h
     obtain ⟨⟨eh1, eh2⟩, eq1⟩ := getO_z hzl1 hq1
     refine TO.indexVw hwl1 eq1 Try.underlying42 sz_46 rfl dc rfl rfl rfl (TO.loadsVec (i := kl1 + (x3 : Int).toNat) (j := 0) (k := 0) (q := (x4, (eh1, eh2))) (cs := [.int .i64 x4.at_, .int .u8 x4.broken, .int .i32 x4.base, eh1.v, eh2.v]) rw_46 encN_Gfold_unit_len rfl dc rfl rfl (Vw.get hwl1 eq1) rfl rfl rfl ?_)
     refine TO.alloc zr_46 rfl dc (fun b6 => ?_)
     refine TO.stores (k := 3) (vs := [.int .i64 x4.at_, .int .u8 x4.broken, .int .i32 x4.base, eh1.v, eh2.v]) (l' := [.int .i64 x4.at_, .int .u8 x4.broken, .int .i32 x4.base, eh1.v, eh2.v]) sz_46 rfl rfl rfl rfl rfl (show _ ≤ _ by simp) rfl rfl ?_
     show TO _ _ _ _ _ _ _ _ _ _ [vec encN_Gfold_unit 46 5 vvl1 Zl1, own nest_Gfold_unit Zl1, byt 5 v4 b4, cells b6 [.int .i64 x4.at_, .int .u8 x4.broken, .int .i32 x4.base, eh1.v, eh2.v] 46]
     refine TO.nil (TX.next (TC.seq (TC.region (TO.fieldAddr fl_46_2 rfl dc rfl (show _ = 2 from rfl) (TO.load (k := 3) sc_21 rfl dc rfl rfl rfl (TO.bin rfl dc rfl rfl bin_lss (TO.nil (TX.next ?_))))))))
     refine TC.condB rfl (fun hb2 => ?_) (fun hb2 => ?_)
     ·
      have h := condT hb2 h
      refine TC.region (TO.move rfl dc rfl (TO.fieldAddr fl_46_1 rfl dc rfl (show _ = 1 from rfl) (TO.load (k := 3) sc_5 rfl dc rfl rfl rfl ?_)))
      refine TO.buildSlice (cs := [.int .u8 x4.broken]) (te := 5) (ps := [(0, .tmp 19)]) rfl dc rfl (fun _ => by kernel_rfl) (fun b7 => ?_)
      obtain ⟨hg1, h⟩ := grdE h
      obtain ⟨hg2, h⟩ := grdE h
      refine TO.appendByt (k := 2) (k2 := 4) (ys := (bytesOf [x4.broken])) Try.underlying82 by_5 rfl dc rfl rfl rfl rfl (strCells_of hg2) rfl hg1 (fun v6 => ?_)
      show TO _ _ _ _ _ _ _ _ _ _ [vec encN_Gfold_unit 46 5 vvl1 Zl1, own nest_Gfold_unit Zl1, byt 5 v6 (b4 ++ (bytesOf [x4.broken])), cells b6 [.int .i64 x4.at_, .int .u8 x4.broken, .int .i32 x4.base, eh1.v, eh2.v] 46, cells b7 [.int .u8 x4.broken] 5]
      refine TO.assign rfl dc rfl (TO.nil (TX.blockNormal ?_))
      exact TX.meetD (b4 ++ (bytesOf [x4.broken]), v6) h rfl (Sbs.cons rfl (Sbs.cons rfl (Sbs.cons rfl (Sbs.cons rfl (Sbs.cons rfl (Sbs.nil)))))) (Splits.of [0, 1, 2] kr rfl)
     ·
      have h := condF hb2 h
      refine TC.region (TO.move rfl dc rfl (TO.move rfl dc rfl (TO.loads (k := 3) (cs := [.int .i64 x4.at_, .int .u8 x4.broken, .int .i32 x4.base, eh1.v, eh2.v]) rw_46 rfl dc rfl rfl rfl rfl ?_)))
      refine TO.unfold1 (k := 1) rfl (pullE (Vw.get hwl1 eq1)) (fun _ _ => ?_)
      show TO _ _ _ _ _ _ _ _ _ _ [vec encN_Gfold_unit 46 5 vvl1 Zl1, own nest_Gfold_unit (Zl1.eraseIdx (kl1 + (x3 : Int).toNat)), byt 5 v4 b4, cells b6 [.int .i64 x4.at_, .int .u8 x4.broken, .int .i32 x4.base, eh1.v, eh2.v] 46, vec (encI (.i32)) 21 1 eh1.v x4.low, vec (encI (.i32)) 21 1 eh2.v x4.high]
      obtain ⟨r1, hq2, h⟩ := andE h
      refine TO.callK (v := .string r1) (vs := [.agg #[.int .i64 x4.at_, .int .u8 x4.broken, .int .i32 x4.base, eh1.v, eh2.v]]) rfl dc rfl rfl rfl en_43 (fold_Bare_1_fn (u1 := x4) (u1_h0 := eh1) (u1_h1 := eh2) hq2) [4, 5] kr rfl ?_
      obtain ⟨hg3, h⟩ := grdE h
      refine TO.appendStr (k := 2) Try.underlying82 Try.underlying9 by_5 rfl dc rfl rfl rfl hg3 (fun v7 => ?_)
      refine TO.assign rfl dc rfl (TO.nil (TX.blockNormal (TX.fold1 (k := 1) rfl (Splits.of [4, 5] kr rfl) rfl (pushE (nest := nest_Gfold_unit) (Vw.get hwl1 eq1) rfl) ?_)))
      show TX _ _ _ _ _ _ _ [vec encN_Gfold_unit 46 5 vvl1 Zl1, own nest_Gfold_unit Zl1, byt 5 v7 (b4 ++ r1), cells b6 [.int .i64 x4.at_, .int .u8 x4.broken, .int .i32 x4.base, eh1.v, eh2.v] 46, emp, emp]
      exact TX.meetD (b4 ++ r1, v7) h rfl (Sbs.cons rfl (Sbs.cons rfl (Sbs.cons rfl (Sbs.cons rfl (Sbs.cons rfl (Sbs.nil)))))) (Splits.of [0, 1, 2] kr rfl)
    ·
     rintro ⟨b5, v5⟩ h
     rw [hj2] at h
     show TC _ _ _ _ _ ([]) _ _ [(1, .func (.func 43) #[] #[]), (5, v5), (8, vl1), (9, .int .i64 (l1.length : Int)), (10, .int .i64 x3)] [vec encN_Gfold_unit 46 5 vvl1 Zl1, own nest_Gfold_unit Zl1, byt 5 v5 b5]
     refine TC.region ?_
     obtain ⟨hg4, h⟩ := grdE h
     refine TO.bin rfl dc rfl rfl (bin_add (r := x3 + 1) (IntWalk.i64_in _ hg4)) (TO.move rfl dc rfl (TO.nil ?_))
     subst hag1
     exact TX.againD (n1, b5, x3 + 1, v5) h (Nat.lt_succ_self _) rfl (Sbs.cons rfl (Sbs.cons rfl (Sbs.cons rfl (Sbs.cons rfl (Sbs.cons rfl (Sbs.nil)))))) (Splits.of [0, 1, 2] kr rfl)
   ·
    have h := condF hb1 h
    refine TC.exit (TX.thenExit (TX.thenExit (TX.blockHere ?_)))
    exact TX.meetD (b4, v4) h rfl (Sbs.cons rfl (Sbs.nil)) (Splits.of [0, 1, 2] kr rfl)
 ·
  rintro ⟨b1, v1⟩ h
  rw [hj1] at h
  show TC _ _ _ _ _ ([]) _ _ [(5, v1)] [vec encN_Gfold_unit 46 5 vvl1 Zl1, own nest_Gfold_unit Zl1, byt 5 v1 b1]
  refine TC.seq (TC.region (TO.move rfl dc rfl (TO.bytStr (k := 2) rfl dc rfl rfl Try.underlying82 Try.underlying5 Try.underlying9 (TO.assign rfl dc rfl (TO.nil (TX.next (TC.ret ?_)))))))
  cases h
  exact TX.fin (rs := [.tmp 4]) () (.inl rfl) Try.results25 (.cons (.tmp rfl) .nil) rfl (Splits.of [0, 1] kr rfl)
end Go.Proofs.Ytlamcpgnmeileaa
namespace Go.Proofs.Ytlamcpgnmeileaa
open Go.RowKit Go.Lib
set_option linter.unusedVariables false
set_option linter.unusedSimpArgs false
def fold_written_Apart_1_s1 (l1 : List Gfold_unit) (j1 : ByteArray → Option ByteArray) (ag1 : ByteArray → Int → Option ByteArray) (b4 : ByteArray) (x3 : Int) : Option ByteArray := bcond (decide ((x3 : Int) < (l1.length : Int))) ( joinK (fun (j2 : ByteArray → Option ByteArray) => andThen (getO l1 x3) fun (x4 : Gfold_unit) => bcond (decide ((x4.base : Int) < 0)) ( grd (b4.size + 1 ≤ 140737488355328) <| grd (∀ x ∈ ([x4.broken] : List Int), U8 x) <| j2 (b4 ++ (bytesOf [x4.broken]))
) ( andThen (fold_Apart_1_v x4) fun (r1 : ByteArray) => grd (b4.size + r1.size ≤ 140737488355328) <| j2 (b4 ++ r1)
)
) (fun (b5 : ByteArray) => grd (I64 (x3 + 1)) <| ag1 b5 (x3 + 1)
)
) ( j1 b4
)
def fold_written_Apart_1_v (l1 : List Gfold_unit) : Option ByteArray := joinK (fun (j1 : ByteArray → Option ByteArray) => loopG (fun _ _ => none) (fold_written_Apart_1_s1 l1 j1) fuel ByteArray.empty 0
) (fun (b1 : ByteArray) => some b1
)
set_option maxRecDepth 100000 in
set_option maxHeartbeats 4000000 in
theorem fold_written_Apart_1_fn {vvl1 vl1 : Value} {Zl1 : List (Gfold_unit × Hd × Hd)} {kl1 : Nat} {zl1 : List (Gfold_unit × Hd × Hd)} {l1 : List Gfold_unit} (hwl1 : Vw vvl1 Zl1 5 kl1 vl1 zl1) (hzl1 : zl1.map Prod.fst = l1) {r : ByteArray} (h : fold_written_Apart_1_v l1 = some r) : Fn Try.prog 25 [vl1, .func (.func 39) #[] #[]] [vec encN_Gfold_unit 46 5 vvl1 Zl1, own nest_Gfold_unit Zl1] (fun _b : Unit => .string r) (fun _b => [vec encN_Gfold_unit 46 5 vvl1 Zl1, own nest_Gfold_unit Zl1]) := by
 unfold fold_written_Apart_1_v at h
 refine Fn.intro Try.func25 rfl Try.ntmps25 (by simp) ?_
 intro w0 K
 obtain ⟨j1, hj1, h⟩ := joinE h
 refine TC.cutN (β := ByteArray × Value) 2 rfl (fun b => j1 b.1 = some r) (fun b => []) (fun b => [(5, b.2)]) (fun b => [vec encN_Gfold_unit 46 5 vvl1 Zl1, own nest_Gfold_unit Zl1, byt 5 b.2 b.1]) (fun cut => ?_) ?_
 ·
  refine TC.seq (TC.region (TO.assign rfl dc rfl (TO.nil (TX.next (TC.seq (TC.region (TO.assign rfl dc rfl (TO.nil (TX.next (cut (TC.seq (TC.region (TO.move rfl dc rfl ?_)))))))))))))
  refine TO.lenVwZ hzl1 hwl1 rfl dc rfl Try.underlying42 (TO.move rfl dc rfl (TO.nil (TX.next (TC.block (TC.newByt (e := 5) ?_)))))
  show TC _ _ _ _ _ _ _ _ _ [vec encN_Gfold_unit 46 5 vvl1 Zl1, own nest_Gfold_unit Zl1, byt 5 (.slice none 0 0) ByteArray.empty]
  refine TC.loopD (β := Nat × ByteArray × Int × Value) (fun b => loopG (fun _ _ => none) (fold_written_Apart_1_s1 l1 j1) b.1 b.2.1 b.2.2.1 = some r) (fun b => []) (fun b => [(1, .func (.func 39) #[] #[]), (5, b.2.2.2), (8, vl1), (9, .int .i64 (l1.length : Int)), (10, .int .i64 b.2.2.1)]) (fun b => [vec encN_Gfold_unit 46 5 vvl1 Zl1, own nest_Gfold_unit Zl1, byt 5 b.2.2.2 b.2.1]) (fun b => b.1) (fuel, ByteArray.empty, 0, (.slice none 0 0)) h rfl (Sbs.cons rfl (Sbs.cons rfl (Sbs.cons rfl (Sbs.cons rfl (Sbs.cons rfl (Sbs.nil)))))) (Splits.of [0, 1, 2] kr rfl) ?_
  rintro ⟨n1, b4, x3, v4⟩ h
  cases n1 with
  | zero => exact noneE h
  | succ n1 =>
   obtain ⟨ag1, hag1⟩ : ∃ ag, ag = loopG (fun _ _ => none) (fold_written_Apart_1_s1 l1 j1) n1 := ⟨_, rfl⟩
   have h : fold_written_Apart_1_s1 l1 j1 ag1 b4 x3 = some r := by rw [hag1]; exact h
   unfold fold_written_Apart_1_s1 at h
   show TC _ _ _ _ _ ([]) _ _ [(1, .func (.func 39) #[] #[]), (5, v4), (8, vl1), (9, .int .i64 (l1.length : Int)), (10, .int .i64 x3)] [vec encN_Gfold_unit 46 5 vvl1 Zl1, own nest_Gfold_unit Zl1, byt 5 v4 b4]
   refine TC.seq (TC.region (TO.bin rfl dc rfl rfl bin_lss (TO.nil (TX.next (TC.seq ?_)))))
   refine TC.condB rfl (fun hb1 => ?_) (fun hb1 => ?_)
   ·
    have h := condT hb1 h
    refine TC.skip (TX.next ?_)
    obtain ⟨j2, hj2, h⟩ := joinE h
    refine TC.cutN (β := ByteArray × Value) 0 rfl (fun b => j2 b.1 = some r) (fun b => []) (fun b => [(1, .func (.func 39) #[] #[]), (5, b.2), (8, vl1), (9, .int .i64 (l1.length : Int)), (10, .int .i64 x3)]) (fun b => [vec encN_Gfold_unit 46 5 vvl1 Zl1, own nest_Gfold_unit Zl1, byt 5 b.2 b.1]) (fun cut => ?_) ?_
    ·
     refine cut (TC.block (TC.seq (TC.region ?_)))
     obtain ⟨x4, hq1, h⟩ := andE h
     obtain ⟨⟨eh1, eh2⟩, eq1⟩ := getO_z hzl1 hq1
     refine TO.indexVw hwl1 eq1 Try.underlying42 sz_46 rfl dc rfl rfl rfl (TO.loadsVec (i := kl1 + (x3 : Int).toNat) (j := 0) (k := 0) (q := (x4, (eh1, eh2))) (cs := [.int .i64 x4.at_, .int .u8 x4.broken, .int .i32 x4.base, eh1.v, eh2.v]) rw_46 encN_Gfold_unit_len rfl dc rfl rfl (Vw.get hwl1 eq1) rfl rfl rfl ?_)
     refine TO.alloc zr_46 rfl dc (fun b6 => ?_)
     refine TO.stores (k := 3) (vs := [.int .i64 x4.at_, .int .u8 x4.broken, .int .i32 x4.base, eh1.v, eh2.v]) (l' := [.int .i64 x4.at_, .int .u8 x4.broken, .int .i32 x4.base, eh1.v, eh2.v]) sz_46 rfl rfl rfl rfl rfl (show _ ≤ _ by simp) rfl rfl ?_
     show TO _ _ _ _ _ _ _ _ _ _ [vec encN_Gfold_unit 46 5 vvl1 Zl1, own nest_Gfold_unit Zl1, byt 5 v4 b4, cells b6 [.int .i64 x4.at_, .int .u8 x4.broken, .int .i32 x4.base, eh1.v, eh2.v] 46]
     refine TO.nil (TX.next (TC.seq (TC.region (TO.fieldAddr fl_46_2 rfl dc rfl (show _ = 2 from rfl) (TO.load (k := 3) sc_21 rfl dc rfl rfl rfl (TO.bin rfl dc rfl rfl bin_lss (TO.nil (TX.next ?_))))))))
     refine TC.condB rfl (fun hb2 => ?_) (fun hb2 => ?_)
     ·
      have h := condT hb2 h
      refine TC.region (TO.move rfl dc rfl (TO.fieldAddr fl_46_1 rfl dc rfl (show _ = 1 from rfl) (TO.load (k := 3) sc_5 rfl dc rfl rfl rfl ?_)))
      refine TO.buildSlice (cs := [.int .u8 x4.broken]) (te := 5) (ps := [(0, .tmp 19)]) rfl dc rfl (fun _ => by kernel_rfl) (fun b7 => ?_)
      obtain ⟨hg1, h⟩ := grdE h
      obtain ⟨hg2, h⟩ := grdE h
      refine TO.appendByt (k := 2) (k2 := 4) (ys := (bytesOf [x4.broken])) Try.underlying82 by_5 rfl dc rfl rfl rfl rfl (strCells_of hg2) rfl hg1 (fun v6 => ?_)
      show TO _ _ _ _ _ _ _ _ _ _ [vec encN_Gfold_unit 46 5 vvl1 Zl1, own nest_Gfold_unit Zl1, byt 5 v6 (b4 ++ (bytesOf [x4.broken])), cells b6 [.int .i64 x4.at_, .int .u8 x4.broken, .int .i32 x4.base, eh1.v, eh2.v] 46, cells b7 [.int .u8 x4.broken] 5]
      refine TO.assign rfl dc rfl (TO.nil (TX.blockNormal ?_))
      exact TX.meetD (b4 ++ (bytesOf [x4.broken]), v6) h rfl (Sbs.cons rfl (Sbs.cons rfl (Sbs.cons rfl (Sbs.cons rfl (Sbs.cons rfl (Sbs.nil)))))) (Splits.of [0, 1, 2] kr rfl)
     ·
      have h := condF hb2 h
      refine TC.region (TO.move rfl dc rfl (TO.move rfl dc rfl (TO.loads (k := 3) (cs := [.int .i64 x4.at_, .int .u8 x4.broken, .int .i32 x4.base, eh1.v, eh2.v]) rw_46 rfl dc rfl rfl rfl rfl ?_)))
      refine TO.unfold1 (k := 1) rfl (pullE (Vw.get hwl1 eq1)) (fun _ _ => ?_)
      show TO _ _ _ _ _ _ _ _ _ _ [vec encN_Gfold_unit 46 5 vvl1 Zl1, own nest_Gfold_unit (Zl1.eraseIdx (kl1 + (x3 : Int).toNat)), byt 5 v4 b4, cells b6 [.int .i64 x4.at_, .int .u8 x4.broken, .int .i32 x4.base, eh1.v, eh2.v] 46, vec (encI (.i32)) 21 1 eh1.v x4.low, vec (encI (.i32)) 21 1 eh2.v x4.high]
      obtain ⟨r1, hq2, h⟩ := andE h
      refine TO.callK (v := .string r1) (vs := [.agg #[.int .i64 x4.at_, .int .u8 x4.broken, .int .i32 x4.base, eh1.v, eh2.v]]) rfl dc rfl rfl rfl en_39 (fold_Apart_1_fn (u1 := x4) (u1_h0 := eh1) (u1_h1 := eh2) hq2) [4, 5] kr rfl ?_
      obtain ⟨hg3, h⟩ := grdE h
      refine TO.appendStr (k := 2) Try.underlying82 Try.underlying9 by_5 rfl dc rfl rfl rfl hg3 (fun v7 => ?_)
      refine TO.assign rfl dc rfl (TO.nil (TX.blockNormal (TX.fold1 (k := 1) rfl (Splits.of [4, 5] kr rfl) rfl (pushE (nest := nest_Gfold_unit) (Vw.get hwl1 eq1) rfl) ?_)))
      show TX _ _ _ _ _ _ _ [vec encN_Gfold_unit 46 5 vvl1 Zl1, own nest_Gfold_unit Zl1, byt 5 v7 (b4 ++ r1), cells b6 [.int .i64 x4.at_, .int .u8 x4.broken, .int .i32 x4.base, eh1.v, eh2.v] 46, emp, emp]
      exact TX.meetD (b4 ++ r1, v7) h rfl (Sbs.cons rfl (Sbs.cons rfl (Sbs.cons rfl (Sbs.cons rfl (Sbs.cons rfl (Sbs.nil)))))) (Splits.of [0, 1, 2] kr rfl)
    ·
     rintro ⟨b5, v5⟩ h
     rw [hj2] at h
     show TC _ _ _ _ _ ([]) _ _ [(1, .func (.func 39) #[] #[]), (5, v5), (8, vl1), (9, .int .i64 (l1.length : Int)), (10, .int .i64 x3)] [vec encN_Gfold_unit 46 5 vvl1 Zl1, own nest_Gfold_unit Zl1, byt 5 v5 b5]
     refine TC.region ?_
     obtain ⟨hg4, h⟩ := grdE h
     refine TO.bin rfl dc rfl rfl (bin_add (r := x3 + 1) (IntWalk.i64_in _ hg4)) (TO.move rfl dc rfl (TO.nil ?_))
     subst hag1
     exact TX.againD (n1, b5, x3 + 1, v5) h (Nat.lt_succ_self _) rfl (Sbs.cons rfl (Sbs.cons rfl (Sbs.cons rfl (Sbs.cons rfl (Sbs.cons rfl (Sbs.nil)))))) (Splits.of [0, 1, 2] kr rfl)
   ·
    have h := condF hb1 h
    refine TC.exit (TX.thenExit (TX.thenExit (TX.blockHere ?_)))
    exact TX.meetD (b4, v4) h rfl (Sbs.cons rfl (Sbs.nil)) (Splits.of [0, 1, 2] kr rfl)
 ·
  rintro ⟨b1, v1⟩ h
  rw [hj1] at h
  show TC _ _ _ _ _ ([]) _ _ [(5, v1)] [vec encN_Gfold_unit 46 5 vvl1 Zl1, own nest_Gfold_unit Zl1, byt 5 v1 b1]
  refine TC.seq (TC.region (TO.move rfl dc rfl (TO.bytStr (k := 2) rfl dc rfl rfl Try.underlying82 Try.underlying5 Try.underlying9 (TO.assign rfl dc rfl (TO.nil (TX.next (TC.ret ?_)))))))
  cases h
  exact TX.fin (rs := [.tmp 4]) () (.inl rfl) Try.results25 (.cons (.tmp rfl) .nil) rfl (Splits.of [0, 1] kr rfl)
end Go.Proofs.Ytlamcpgnmeileaa
namespace Go.Proofs.Ytlamcpgnmeileaa
open Go.RowKit Go.Lib
set_option linter.unusedVariables false
set_option linter.unusedSimpArgs false
def fold_Apart_v (s1 : ByteArray) : Option ByteArray := andThen (fold_units_v s1) fun (r1 : (List Gfold_unit)) => andThen (fold_written_Apart_1_v r1) fun (r2 : ByteArray) => some r2
set_option maxRecDepth 100000 in
set_option maxHeartbeats 4000000 in
theorem fold_Apart_fn {s1 : ByteArray} {r : ByteArray} (h : fold_Apart_v s1 = some r) : FnP Try.prog 18 [.string s1] (.string r) := by
 unfold fold_Apart_v at h
 refine FnP.intro Try.func18 rfl Try.ntmps18 (by simp) ?_
 intro w0 K
 refine TC.seq (TC.region (TO.assign rfl dc rfl (TO.nil (TX.next (TC.seq (TC.region (TO.move rfl dc rfl ?_)))))))
 obtain ⟨r1, hq1, h⟩ := andE h
 refine TO.call (vs := [.string s1]) rfl dc rfl rfl rfl en_24 (fold_units_fn hq1) Splits.nil ?_
 rintro v1
 show TO _ _ _ _ _ _ _ _ _ _ [vecN encN_Gfold_unit nest_Gfold_unit 46 5 v1 r1]
 refine TO.weakenL (L' := [vecN encN_Gfold_unit nest_Gfold_unit 46 5 v1 r1]) (Splits.of [0] kr rfl) ?_
 refine TO.nameHdN (k := 0) rfl (fun hd1 he1 => ?_)
 subst he1
 refine TO.unfold1 (k := 0) rfl openE (fun zs1 hz1 => ?_)
 show TO _ _ _ _ _ _ _ _ _ _ [vec encN_Gfold_unit 46 5 hd1.v zs1, own nest_Gfold_unit zs1]
 refine TO.vecVw (k := 0) rfl (fun hw1 => ?_)
 obtain ⟨r2, hq2, h⟩ := andE h
 refine TO.callK (v := .string r2) (vs := [hd1.v, .func (.func 39) #[] #[]]) rfl dc rfl rfl rfl en_25 (fold_written_Apart_1_fn hw1 hz1 hq2) [0, 1] kr rfl (TO.assign rfl dc rfl (TO.nil (TX.next (TC.ret ?_))))
 cases h
 exact TX.fin (rs := [.tmp 2]) () (.inl rfl) Try.results18 (.cons (.tmp rfl) .nil) rfl Splits.nil
def fold_Bare_v (s1 : ByteArray) : Option ByteArray := andThen (fold_units_v s1) fun (r1 : (List Gfold_unit)) => andThen (fold_written_Bare_1_v r1) fun (r2 : ByteArray) => some r2
set_option maxRecDepth 100000 in
set_option maxHeartbeats 4000000 in
theorem fold_Bare_fn {s1 : ByteArray} {r : ByteArray} (h : fold_Bare_v s1 = some r) : FnP Try.prog 20 [.string s1] (.string r) := by
 unfold fold_Bare_v at h
 refine FnP.intro Try.func20 rfl Try.ntmps20 (by simp) ?_
 intro w0 K
 refine TC.seq (TC.region (TO.assign rfl dc rfl (TO.nil (TX.next (TC.seq (TC.region (TO.move rfl dc rfl ?_)))))))
 obtain ⟨r1, hq1, h⟩ := andE h
 refine TO.call (vs := [.string s1]) rfl dc rfl rfl rfl en_24 (fold_units_fn hq1) Splits.nil ?_
 rintro v1
 show TO _ _ _ _ _ _ _ _ _ _ [vecN encN_Gfold_unit nest_Gfold_unit 46 5 v1 r1]
 refine TO.weakenL (L' := [vecN encN_Gfold_unit nest_Gfold_unit 46 5 v1 r1]) (Splits.of [0] kr rfl) ?_
 refine TO.nameHdN (k := 0) rfl (fun hd1 he1 => ?_)
 subst he1
 refine TO.unfold1 (k := 0) rfl openE (fun zs1 hz1 => ?_)
 show TO _ _ _ _ _ _ _ _ _ _ [vec encN_Gfold_unit 46 5 hd1.v zs1, own nest_Gfold_unit zs1]
 refine TO.vecVw (k := 0) rfl (fun hw1 => ?_)
 obtain ⟨r2, hq2, h⟩ := andE h
 refine TO.callK (v := .string r2) (vs := [hd1.v, .func (.func 43) #[] #[]]) rfl dc rfl rfl rfl en_25 (fold_written_Bare_1_fn hw1 hz1 hq2) [0, 1] kr rfl (TO.assign rfl dc rfl (TO.nil (TX.next (TC.ret ?_))))
 cases h
 exact TX.fin (rs := [.tmp 2]) () (.inl rfl) Try.results20 (.cons (.tmp rfl) .nil) rfl Splits.nil
end Go.Proofs.Ytlamcpgnmeileaa
namespace Go.Proofs.Ytlamcpgnmeileaa
open Go.RowKit Go.Lib
set_option linter.unusedVariables false
set_option linter.unusedSimpArgs false

end Go.Proofs.Ytlamcpgnmeileaa
namespace Go.Proofs.Ytlamcpgnmeileaa
open Go.RowKit Go.Lib
set_option linter.unusedVariables false
set_option linter.unusedSimpArgs false
theorem wr_Bare_1 (of : Gfold_unit → ByteArray) (l : List Gfold_unit) (hl : l.length ≤ 1048576) (h : ∀ u ∈ l, u.base < 0 ∧ U8 u.broken ∨ 0 ≤ u.base ∧ fold_Bare_1_v u = some (of u) ∧ (of u).size ≤ 1048576) : fold_written_Bare_1_v l = some (J (wr of) l) := by
  unfold fold_written_Bare_1_v
  refine joinI ((loop1 (xs := l) (f := fun b u => b ++ wr of u) (J := some) (fun k b => b.size ≤ k * 1048576) ?_ ?_ ?_ (big_fuel (by omega)) (by decide)).trans rfl)
  · intro ag k u b hu hb
    have hk := lp_lt' hu
    unfold fold_written_Bare_1_s1
    refine condTI (lp_lt hu) (joinI (thenI (lp_get hu) ?_))
    rcases h u (List.mem_of_getElem? hu) with ⟨h1, h2⟩ | ⟨h1, h2, h3⟩
    · exact condTI (decide_eq_true h1) (grdI (by omega) (grdI (by simpa using h2) (grdI (lp_i64 (by omega)) (by simp only [wr, if_pos h1]))))
    · exact condFI (decide_eq_false (by omega)) (thenI h2 (grdI (by omega) (grdI (lp_i64 (by omega)) (by simp only [wr, if_neg (show ¬ u.base < 0 by omega)]))))
  · intro k u b hu hb
    have hw : (wr of u).size ≤ 1048576 := by
      rcases h u (List.mem_of_getElem? hu) with ⟨h1, h2⟩ | ⟨h1, h2, h3⟩
      · unfold wr; rw [if_pos h1, bytesOf_size]; simp
      · unfold wr; rw [if_neg (by omega)]; exact h3
    rw [ByteArray.size_append]; omega
  · intro ag b _; unfold fold_written_Bare_1_s1; exact condFI lp_ge rfl
theorem wr_Apart_1 (of : Gfold_unit → ByteArray) (l : List Gfold_unit) (hl : l.length ≤ 1048576) (h : ∀ u ∈ l, u.base < 0 ∧ U8 u.broken ∨ 0 ≤ u.base ∧ fold_Apart_1_v u = some (of u) ∧ (of u).size ≤ 1048576) : fold_written_Apart_1_v l = some (J (wr of) l) := by
  unfold fold_written_Apart_1_v
  refine joinI ((loop1 (xs := l) (f := fun b u => b ++ wr of u) (J := some) (fun k b => b.size ≤ k * 1048576) ?_ ?_ ?_ (big_fuel (by omega)) (by decide)).trans rfl)
  · intro ag k u b hu hb
    have hk := lp_lt' hu
    unfold fold_written_Apart_1_s1
    refine condTI (lp_lt hu) (joinI (thenI (lp_get hu) ?_))
    rcases h u (List.mem_of_getElem? hu) with ⟨h1, h2⟩ | ⟨h1, h2, h3⟩
    · exact condTI (decide_eq_true h1) (grdI (by omega) (grdI (by simpa using h2) (grdI (lp_i64 (by omega)) (by simp only [wr, if_pos h1]))))
    · exact condFI (decide_eq_false (by omega)) (thenI h2 (grdI (by omega) (grdI (lp_i64 (by omega)) (by simp only [wr, if_neg (show ¬ u.base < 0 by omega)]))))
  · intro k u b hu hb
    have hw : (wr of u).size ≤ 1048576 := by
      rcases h u (List.mem_of_getElem? hu) with ⟨h1, h2⟩ | ⟨h1, h2, h3⟩
      · unfold wr; rw [if_pos h1, bytesOf_size]; simp
      · unfold wr; rw [if_neg (by omega)]; exact h3
    rw [ByteArray.size_append]; omega
  · intro ag b _; unfold fold_written_Apart_1_s1; exact condFI lp_ge rfl
def bareS (s : ByteArray) : ByteArray := J (fun c => c.1.Text) (clus s)
def apartC (c : Itm × List Itm) : ByteArray := J (·.Text) (ordC c)
def apartS (s : ByteArray) : ByteArray := J apartC (clus s)
theorem bare_vv (s : ByteArray) (hs : s.size ≤ 65536) : fold_Bare_v s = some (bareS s) := by
  unfold fold_Bare_v
  obtain ⟨hl, hc⟩ := clus_ok hs
  refine thenI (units_v s hs) (thenI (wr_Bare_1 (fun u => Utf8.encode u.base) _ (by rw [List.length_map]; omega) ?_) ?_)
  · intro u hu
    obtain ⟨c, hcm, rfl⟩ := List.mem_map.1 hu
    obtain ⟨h1, _⟩ := hc c hcm
    rcases toU_cases c h1 with ⟨g1, g2, _⟩ | ⟨g1, g2, g3, g4⟩
    · exact .inl ⟨g1, g2⟩
    · exact .inr ⟨g1, rfl, by have := enc_size4 (toU c).base; omega⟩
  · rw [wr_of _ (fun c => c.1.Text) s hs (fun c hcm h0 => by
      obtain ⟨h1, _⟩ := hc c hcm
      rw [toU_base c h0]
      rcases h1.2 with ⟨h2, _⟩ | ⟨_, h2⟩
      · omega
      · exact h2.symm) (fun c hcm h0 => rfl)]; rfl
theorem str_marks (l : List Itm) (h : ∀ m ∈ l, isM m = true ∧ okT m) : strOf (l.map (·.Rune)) = J (·.Text) l := by
  rw [strOf_J, J_map]
  refine J_congr fun m hm => ?_
  obtain ⟨h1, h2⟩ := h m hm
  rcases h2.2 with ⟨h3, _⟩ | ⟨_, h3⟩
  · have : mrk m.Rune = true := h1
    unfold mrk at this; simp at this; omega
  · exact h3.symm
theorem lo_sub {ms : List Itm} {P : Itm → Prop} (h : ∀ m ∈ ms, P m) : (∀ m ∈ loI ms, P m) ∧ ∀ m ∈ hiI ms, P m :=
  ⟨fun m hm => h m (List.mem_filter.1 hm).1, fun m hm => h m (List.mem_filter.1 hm).1⟩
theorem lohi_le (ms : List Itm) : (loI ms).length ≤ ms.length ∧ (hiI ms).length ≤ ms.length := ⟨List.length_filter_le _ _, List.length_filter_le _ _⟩
theorem apart_vv (s : ByteArray) (hs : s.size ≤ 65536) : fold_Apart_v s = some (apartS s) := by
  unfold fold_Apart_v
  obtain ⟨hl, hc⟩ := clus_ok hs
  refine thenI (units_v s hs) (thenI (wr_Apart_1 (fun u => ((Utf8.encode u.base) ++ (strOf u.low)) ++ (strOf u.high)) _ (by rw [List.length_map]; omega) ?_) ?_)
  · intro u hu
    obtain ⟨c, hcm, rfl⟩ := List.mem_map.1 hu
    obtain ⟨h1, _, _, h4⟩ := hc c hcm
    rcases toU_cases c h1 with ⟨g1, g2, _⟩ | ⟨g1, g2, g3, g4⟩
    · exact .inl ⟨g1, g2⟩
    · have hh := lohi_le c.2
      have e1 : (toU c).low.length ≤ 196608 := by rw [g4]; simp; omega
      have e2 : (toU c).high.length ≤ 196608 := by rw [g4]; simp; omega
      have e3 := strOf_size (toU c).low
      have e4 := strOf_size (toU c).high
      have e5 := enc_size4 (toU c).base
      refine .inr ⟨g1, ?_, ?_⟩
      · unfold fold_Apart_1_v
        exact grdI (by omega) (grdI (by rw [ByteArray.size_append]; omega) rfl)
      · rw [ByteArray.size_append, ByteArray.size_append]
        have : (toU c).low.length + (toU c).high.length ≤ 196608 := by
          rw [g4]; have := lohi_len c.2; rw [List.length_append] at this; simp; omega
        omega
  · rw [wr_of _ apartC s hs (fun c hcm h0 => by
      obtain ⟨h1, h2, _⟩ := hc c hcm
      obtain ⟨hlo, hhi⟩ := lo_sub h2
      rcases toU_cases c h1 with ⟨_, _, g3, _⟩ | ⟨g1, g2, g3, g4⟩
      · omega
      · rw [g4]
        show Utf8.encode c.1.Rune ++ strOf ((loI c.2).map (·.Rune)) ++ strOf ((hiI c.2).map (·.Rune)) = _
        rw [str_marks _ hlo, str_marks _ hhi]
        unfold apartC ordC
        rw [J_cons, J_append, g3, ByteArray.append_assoc]) (fun c hcm h0 => by
      obtain ⟨_, _, h3, _⟩ := hc c hcm
      unfold apartC ordC
      rw [h3 (not_letter_neg h0)]
      show J _ [c.1] = _
      rw [J_cons, J_nil, ByteArray.append_empty])]; rfl
end Go.Proofs.Ytlamcpgnmeileaa
namespace Go.Proofs.Ytlamcpgnmeileaa
open Go.RowKit Go.Lib
set_option linter.unusedVariables false
set_option linter.unusedSimpArgs false
def fold_Together_1_s1 (u1 : Gfold_unit) (Mc0 : List (Gfold_pair × Int)) (j2 : Int → (List Int) → Option ByteArray) (ag1 : Int → (List Int) → Bool → Int → Option ByteArray) (u7 : Int) (stayed5 : List Int) (free3 : Bool) (x3 : Int) : Option ByteArray := bcond (decide ((x3 : Int) < (u1.low.length : Int))) ( joinK (fun (j3 : Int → (List Int) → Bool → Option ByteArray) => andThen (getO u1.low x3) fun (q1 : Int) => bcond ((getM (⟨u7, q1⟩ : Gfold_pair) Mc0).isSome) ( bcond (free3) ( j3 ((getM (⟨u7, q1⟩ : Gfold_pair) Mc0).getD 0) stayed5 free3
) ( grd (stayed5.length + 1 ≤ 2147483648) <| j3 u7 (stayed5 ++ [q1]) false
)
) ( grd (stayed5.length + 1 ≤ 2147483648) <| j3 u7 (stayed5 ++ [q1]) false
)
) (fun (u8 : Int) (stayed6 : List Int) (free4 : Bool) => grd (I64 (x3 + 1)) <| ag1 u8 stayed6 free4 (x3 + 1)
)
) ( j2 u7 stayed5
)
def fold_Together_1_s2 (u1 : Gfold_unit) (Mc0 : List (Gfold_pair × Int)) (j4 : Int → (List Int) → Option ByteArray) (ag2 : Int → (List Int) → Bool → Int → Option ByteArray) (u12 : Int) (stayed10 : List Int) (free7 : Bool) (x6 : Int) : Option ByteArray := bcond (decide ((x6 : Int) < (u1.high.length : Int))) ( joinK (fun (j5 : Int → (List Int) → Bool → Option ByteArray) => andThen (getO u1.high x6) fun (q2 : Int) => bcond ((getM (⟨u12, q2⟩ : Gfold_pair) Mc0).isSome) ( bcond (free7) ( j5 ((getM (⟨u12, q2⟩ : Gfold_pair) Mc0).getD 0) stayed10 free7
) ( grd (stayed10.length + 1 ≤ 2147483648) <| j5 u12 (stayed10 ++ [q2]) false
)
) ( grd (stayed10.length + 1 ≤ 2147483648) <| j5 u12 (stayed10 ++ [q2]) false
)
) (fun (u13 : Int) (stayed11 : List Int) (free8 : Bool) => grd (I64 (x6 + 1)) <| ag2 u13 stayed11 free8 (x6 + 1)
)
) ( j4 u12 stayed10
)
def fold_Together_1_v (u1 : Gfold_unit) (Mc0 : List (Gfold_pair × Int)) : Option ByteArray := andThen (fold_unit_letter_v u1) fun (r1 : Bool) => bcond (!r1) ( some (Utf8.encode u1.base)
) ( joinK (fun (j1 : Int → (List Int) → Option ByteArray) => joinK (fun (j2 : Int → (List Int) → Option ByteArray) => loopG (fun _ _ _ _ => none) (fold_Together_1_s1 u1 Mc0 j2) fuel u1.base ([] : List Int) true 0
) (fun (u3 : Int) (stayed2 : List Int) => joinK (fun (j4 : Int → (List Int) → Option ByteArray) => loopG (fun _ _ _ _ => none) (fold_Together_1_s2 u1 Mc0 j4) fuel u3 stayed2 true 0
) (fun (u9 : Int) (stayed7 : List Int) => j1 u9 stayed7
)
)
) (fun (u2 : Int) (stayed1 : List Int) => grd ((Utf8.encode u2).size + (strOf stayed1).size ≤ 9223372036854775807) <| some ((Utf8.encode u2) ++ (strOf stayed1))
)
)
set_option maxRecDepth 100000 in
set_option maxHeartbeats 4000000 in
theorem fold_Together_1_fn {u1 : Gfold_unit} {u1_h0 u1_h1 : Hd} {bc0 bmc0 : Nat} {Mc0 : List (Gfold_pair × Int)} {r : ByteArray} (h : fold_Together_1_v u1 Mc0 = some r) : Fn Try.prog 41 [.agg #[.int .i64 u1.at_, .int .u8 u1.broken, .int .i32 u1.base, u1_h0.v, u1_h1.v], .pointer (some ⟨bc0, 0, none⟩)] [vec (encI (.i32)) 21 1 u1_h0.v u1.low, vec (encI (.i32)) 21 1 u1_h1.v u1.high, cells bc0 [.map (some bmc0)] 66, mapA (fun p : Gfold_pair => Value.agg #[.int .i32 p.e0, .int .i32 p.e1]) (fun n : Int => Value.int .i32 n) bmc0 Mc0] (fun _b : Unit => .string r) (fun _b => [vec (encI (.i32)) 21 1 u1_h0.v u1.low, vec (encI (.i32)) 21 1 u1_h1.v u1.high, cells bc0 [.map (some bmc0)] 66, mapA (fun p : Gfold_pair => Value.agg #[.int .i32 p.e0, .int .i32 p.e1]) (fun n : Int => Value.int .i32 n) bmc0 Mc0]) := by
 unfold fold_Together_1_v at h
 refine Fn.intro Try.func41 rfl Try.ntmps41 (by simp) ?_
 intro w0 K
 refine TC.seq (TC.region ?_)
 refine TO.box rfl dc rfl (fun b1 => ?_)
 refine TO.assign rfl dc rfl (TO.nil (TX.next (TC.seq (TC.seq (TC.region (TO.loads (k := 4) (cs := [.int .i64 u1.at_, .int .u8 u1.broken, .int .i32 u1.base, u1_h0.v, u1_h1.v]) rw_46 rfl dc rfl rfl rfl rfl ?_))))))
 obtain ⟨r1, hq1, h⟩ := andE h
 refine TO.callK (v := .bool r1) (vs := [.agg #[.int .i64 u1.at_, .int .u8 u1.broken, .int .i32 u1.base, u1_h0.v, u1_h1.v]]) rfl dc rfl rfl rfl en_42 (fold_unit_letter_fn (u1 := u1) (u1_h0 := u1_h0) (u1_h1 := u1_h1) hq1) [0, 1] kr rfl (TO.un rfl dc rfl un_not (TO.nil (TX.next ?_)))
 refine TC.condB rfl (fun hb1 => ?_) (fun hb1 => ?_)
 ·
  have h := condT hb1 h
  refine TC.seq (TC.region (TO.fieldAddr fl_46_2 rfl dc rfl (show _ = 2 from rfl) (TO.load (k := 4) sc_21 rfl dc rfl rfl rfl (TO.conv rfl dc rfl (conv_rune Try.underlying21 Try.underlying9) (TO.assign rfl dc rfl (TO.nil (TX.next (TC.ret (TX.thenRet ?_)))))))))
  cases h
  exact TX.fin (rs := [.tmp 3]) () (.inl rfl) Try.results41 (.cons (.tmp rfl) .nil) rfl (Splits.of [0, 1, 2, 3] kr rfl)
 ·
  have h := condF hb1 h
  refine TC.skip (TX.next ?_)
  obtain ⟨j1, hj1, h⟩ := joinE h
  refine TC.cutN (β := Int × (List Int) × Hd) 1 rfl (fun b => j1 b.1 b.2.1 = some r) (fun b => []) (fun b => [(2, .pointer (some ⟨b1, 0, none⟩)), (4, b.2.2.v)]) (fun b => [cells bc0 [.map (some bmc0)] 66, mapA (fun p : Gfold_pair => Value.agg #[.int .i32 p.e0, .int .i32 p.e1]) (fun n : Int => Value.int .i32 n) bmc0 Mc0, vec (encI (.i32)) 21 1 u1_h0.v u1.low, vec (encI (.i32)) 21 1 u1_h1.v u1.high, cells b1 [.int .i64 u1.at_, .int .u8 u1.broken, .int .i32 b.1, u1_h0.v, u1_h1.v] 46, vec (encI (.i32)) 21 1 b.2.2.v b.2.1]) (fun cut => ?_) ?_
  ·
   refine TC.seq (TC.region (TO.assign rfl dc rfl (TO.nil (TX.next (cut (TC.seq (TC.region (TO.fieldAddr fl_46_3 rfl dc rfl (show _ = 3 from rfl) (TO.load (k := 4) sc_44 rfl dc rfl rfl rfl (TO.fieldAddr fl_46_4 rfl dc rfl (show _ = 4 from rfl) (TO.load (k := 4) sc_44 rfl dc rfl rfl rfl ?_)))))))))))
   refine TO.build (v := .agg #[u1_h0.v, u1_h1.v]) (ps := [(0, .tmp 19), (1, .tmp 21)]) rfl dc rfl (fun _ => by kernel_rfl) ?_
   refine TO.move rfl dc rfl (TO.nil (TX.next (TC.block (TC.loopN 3 (TR.succ (TC.seq (TC.region (TO.bin rfl dc rfl rfl (bin_known (show Value.bool (decide ((0 : Int) < 2)) = Value.bool true from congrArg Value.bool dc) bin_lss) (TO.nil (TX.next (TC.seq (TC.condT rfl (TC.skip ?_)))))))))))))
   refine TX.next ?_
   obtain ⟨j2, hj2, h⟩ := joinE h
   refine TC.cutN (β := Int × (List Int) × Hd) 0 rfl (fun b => j2 b.1 b.2.1 = some r) (fun b => []) (fun b => [(1, .pointer (some ⟨bc0, 0, none⟩)), (2, .pointer (some ⟨b1, 0, none⟩)), (4, b.2.2.v), (22, .agg #[u1_h0.v, u1_h1.v]), (23, .int .i64 0)]) (fun b => [cells bc0 [.map (some bmc0)] 66, mapA (fun p : Gfold_pair => Value.agg #[.int .i32 p.e0, .int .i32 p.e1]) (fun n : Int => Value.int .i32 n) bmc0 Mc0, vec (encI (.i32)) 21 1 u1_h0.v u1.low, vec (encI (.i32)) 21 1 u1_h1.v u1.high, cells b1 [.int .i64 u1.at_, .int .u8 u1.broken, .int .i32 b.1, u1_h0.v, u1_h1.v] 46, vec (encI (.i32)) 21 1 b.2.2.v b.2.1]) (fun cut => ?_) ?_
   ·
    refine cut (TC.block (TC.seq (TC.region ?_)))
    refine TO.index (v := u1_h0.v) rfl dc rfl rfl (fun _ => by kernel_rfl) ?_
    refine TO.assign rfl dc rfl (TO.nil (TX.next (TC.seq (TC.region (TO.assign rfl dc rfl (TO.nil (TX.next (TC.seq (TC.region (TO.move rfl dc rfl (TO.lenVec (k := 0) rfl dc rfl rfl Try.underlying44 (TO.move rfl dc rfl (TO.nil ?_)))))))))))))
    refine TX.next (TC.block (TC.newVec (enc := (encI (.i32))) (e := 21) (size := 1) ?_))
    show TC _ _ _ _ _ _ _ _ _ [vec (encI (.i32)) 21 1 u1_h0.v u1.low, vec (encI (.i32)) 21 1 u1_h1.v u1.high, cells bc0 [.map (some bmc0)] 66, mapA (fun p : Gfold_pair => Value.agg #[.int .i32 p.e0, .int .i32 p.e1]) (fun n : Int => Value.int .i32 n) bmc0 Mc0, cells b1 [.int .i64 u1.at_, .int .u8 u1.broken, .int .i32 u1.base, u1_h0.v, u1_h1.v] 46, vec (encI (.i32)) 21 1 (.slice none 0 0) ([] : List Int)]
    refine TC.loopD (β := Nat × Int × (List Int) × Bool × Int × Hd) (fun b => loopG (fun _ _ _ _ => none) (fold_Together_1_s1 u1 Mc0 j2) b.1 b.2.1 b.2.2.1 b.2.2.2.1 b.2.2.2.2.1 = some r) (fun b => []) (fun b => [(1, .pointer (some ⟨bc0, 0, none⟩)), (2, .pointer (some ⟨b1, 0, none⟩)), (4, b.2.2.2.2.2.v), (7, .bool b.2.2.2.1), (22, .agg #[u1_h0.v, u1_h1.v]), (23, .int .i64 0), (26, u1_h0.v), (27, .int .i64 (u1.low.length : Int)), (28, .int .i64 b.2.2.2.2.1)]) (fun b => [cells bc0 [.map (some bmc0)] 66, mapA (fun p : Gfold_pair => Value.agg #[.int .i32 p.e0, .int .i32 p.e1]) (fun n : Int => Value.int .i32 n) bmc0 Mc0, vec (encI (.i32)) 21 1 u1_h0.v u1.low, vec (encI (.i32)) 21 1 u1_h1.v u1.high, cells b1 [.int .i64 u1.at_, .int .u8 u1.broken, .int .i32 b.2.1, u1_h0.v, u1_h1.v] 46, vec (encI (.i32)) 21 1 b.2.2.2.2.2.v b.2.2.1]) (fun b => b.1) (fuel, u1.base, ([] : List Int), true, 0, Hd.nil) h rfl (Sbs.cons rfl (Sbs.cons rfl (Sbs.cons rfl (Sbs.cons rfl (Sbs.cons rfl (Sbs.cons rfl (Sbs.cons rfl (Sbs.cons rfl (Sbs.cons rfl (Sbs.nil)))))))))) (Splits.of [2, 3, 0, 1, 4, 5] kr rfl) ?_
    rintro ⟨n1, u7, stayed5, free3, x3, hd5⟩ h
    cases n1 with
    | zero => exact noneE h
    | succ n1 =>
     obtain ⟨ag1, hag1⟩ : ∃ ag, ag = loopG (fun _ _ _ _ => none) (fold_Together_1_s1 u1 Mc0 j2) n1 := ⟨_, rfl⟩
     have h : fold_Together_1_s1 u1 Mc0 j2 ag1 u7 stayed5 free3 x3 = some r := by rw [hag1]; exact h
     unfold fold_Together_1_s1 at h
     show TC _ _ _ _ _ ([]) _ _ [(1, .pointer (some ⟨bc0, 0, none⟩)), (2, .pointer (some ⟨b1, 0, none⟩)), (4, hd5.v), (7, .bool free3), (22, .agg #[u1_h0.v, u1_h1.v]), (23, .int .i64 0), (26, u1_h0.v), (27, .int .i64 (u1.low.length : Int)), (28, .int .i64 x3)] [cells bc0 [.map (some bmc0)] 66, mapA (fun p : Gfold_pair => Value.agg #[.int .i32 p.e0, .int .i32 p.e1]) (fun n : Int => Value.int .i32 n) bmc0 Mc0, vec (encI (.i32)) 21 1 u1_h0.v u1.low, vec (encI (.i32)) 21 1 u1_h1.v u1.high, cells b1 [.int .i64 u1.at_, .int .u8 u1.broken, .int .i32 u7, u1_h0.v, u1_h1.v] 46, vec (encI (.i32)) 21 1 hd5.v stayed5]
     refine TC.seq (TC.region (TO.bin rfl dc rfl rfl bin_lss (TO.nil (TX.next (TC.seq ?_)))))
     refine TC.condB rfl (fun hb2 => ?_) (fun hb2 => ?_)
     ·
      have h := condT hb2 h
      refine TC.skip (TX.next ?_)
      obtain ⟨j3, hj3, h⟩ := joinE h
      refine TC.cutN (β := Int × (List Int) × Bool × Hd) 0 rfl (fun b => j3 b.1 b.2.1 b.2.2.1 = some r) (fun b => []) (fun b => [(1, .pointer (some ⟨bc0, 0, none⟩)), (2, .pointer (some ⟨b1, 0, none⟩)), (4, b.2.2.2.v), (7, .bool b.2.2.1), (22, .agg #[u1_h0.v, u1_h1.v]), (23, .int .i64 0), (26, u1_h0.v), (27, .int .i64 (u1.low.length : Int)), (28, .int .i64 x3)]) (fun b => [cells bc0 [.map (some bmc0)] 66, mapA (fun p : Gfold_pair => Value.agg #[.int .i32 p.e0, .int .i32 p.e1]) (fun n : Int => Value.int .i32 n) bmc0 Mc0, vec (encI (.i32)) 21 1 u1_h0.v u1.low, vec (encI (.i32)) 21 1 u1_h1.v u1.high, cells b1 [.int .i64 u1.at_, .int .u8 u1.broken, .int .i32 b.1, u1_h0.v, u1_h1.v] 46, vec (encI (.i32)) 21 1 b.2.2.2.v b.2.1]) (fun cut => ?_) ?_
      ·
       refine cut (TC.block (TC.seq (TC.region ?_)))
       obtain ⟨q1, hq2, h⟩ := andE h
       refine TO.indexVecI (k := 2) hq2 Try.underlying44 sz_21 rfl dc rfl rfl rfl rfl (TO.loadVec (i := (x3 : Int).toNat) (j := 0) (k := 2) (q := q1) sc_21 encI_len rfl dc rfl rfl (getO_get hq2) rfl dc rfl (TO.assign rfl dc rfl (TO.nil (TX.next (TC.seq (TC.region (TO.load (k := 0) sc_66 rfl dc rfl rfl rfl (TO.fieldAddr fl_46_2 rfl dc rfl (show _ = 2 from rfl) (TO.load (k := 4) sc_21 rfl dc rfl rfl rfl (TO.move rfl dc rfl ?_))))))))))
       refine TO.build (v := .agg #[.int .i32 u7, .int .i32 q1]) (ps := [(0, .tmp 35), (1, .tmp 36)]) rfl dc rfl (fun _ => by kernel_rfl) ?_
       refine TO.lookupOk (k := 1) (ek := (fun p : Gfold_pair => Value.agg #[.int .i32 p.e0, .int .i32 p.e1])) (ev' := (fun n : Int => Value.int .i32 n)) (kk := (⟨u7, q1⟩ : Gfold_pair)) (z0 := 0) (KeyOk.arr2 (f0 := fun p : Gfold_pair => p.e0) (f1 := fun p : Gfold_pair => p.e1) (fun a b h1 h2 => by cases a; cases b; simp_all) Try.underlying73 Try.underlying21 sz_21) Try.underlying66 kr rfl dc rfl rfl rfl ?_
       refine TO.move rfl dc rfl (TO.extract rfl dc rfl rfl (TO.extract rfl dc rfl rfl (TO.assign rfl dc rfl (TO.assign rfl dc rfl (TO.nil (TX.next (TC.seq (TC.region (TO.move rfl dc rfl (TO.move rfl dc rfl ?_))))))))))
       refine TO.split (s := 42) rfl (fun hb3 => ?_) (fun hb3 => ?_)
       ·
        have h := condT hb3 h
        refine TO.move rfl dc rfl (TO.pick (b := true) rfl dc rfl rfl (TO.nil (TX.next ?_)))
        refine TC.condB rfl (fun hb4 => ?_) (fun hb4 => ?_)
        ·
         have h := condT hb4 h
         refine TC.region (TO.move rfl dc rfl (TO.fieldAddr fl_46_2 rfl dc rfl (show _ = 2 from rfl) ?_))
         refine TO.store (k := 4) (l' := [.int .i64 u1.at_, .int .u8 u1.broken, .int .i32 ((getM (⟨u7, q1⟩ : Gfold_pair) Mc0).getD 0), u1_h0.v, u1_h1.v]) sz_21 rfl rfl rfl rfl rfl (fun _ _ => rfl) rfl ?_
         refine TO.nil (TX.blockNormal ?_)
         exact TX.meetD (((getM (⟨u7, q1⟩ : Gfold_pair) Mc0).getD 0), stayed5, free3, hd5) h rfl (Sbs.cons rfl (Sbs.cons rfl (Sbs.cons rfl (Sbs.cons rfl (Sbs.cons rfl (Sbs.cons rfl (Sbs.cons rfl (Sbs.cons rfl (Sbs.cons rfl (Sbs.nil)))))))))) (Splits.of [0, 1, 2, 3, 4, 5] kr rfl)
        ·
         have h := condF hb4 h
         refine TC.seq (TC.region (TO.move rfl dc rfl (TO.move rfl dc rfl ?_)))
         refine TO.buildSlice (cs := [.int .i32 q1]) (te := 21) (ps := [(0, .tmp 48)]) rfl dc rfl (fun _ => by kernel_rfl) (fun b2 => ?_)
         obtain ⟨hg1, h⟩ := grdE h
         refine TO.appendVec (k := 5) (k2 := 6) (ys := [q1]) Try.underlying44 el_21 encI_len encI_one rfl dc rfl rfl rfl rfl rfl rfl hg1 (fun v1 => ?_)
         refine TO.nameHd (k := 5) rfl (fun hd7 he1 => ?_)
         subst he1
         show TO _ _ _ _ _ _ _ _ _ _ [cells bc0 [.map (some bmc0)] 66, mapA (fun p : Gfold_pair => Value.agg #[.int .i32 p.e0, .int .i32 p.e1]) (fun n : Int => Value.int .i32 n) bmc0 Mc0, vec (encI (.i32)) 21 1 u1_h0.v u1.low, vec (encI (.i32)) 21 1 u1_h1.v u1.high, cells b1 [.int .i64 u1.at_, .int .u8 u1.broken, .int .i32 u7, u1_h0.v, u1_h1.v] 46, vec (encI (.i32)) 21 1 hd7.v (stayed5 ++ [q1]), cells b2 [.int .i32 q1] 21]
         refine TO.assign rfl dc rfl (TO.nil (TX.next (TC.region (TO.assign rfl dc rfl (TO.nil (TX.blockNormal ?_))))))
         exact TX.meetD (u7, stayed5 ++ [q1], false, hd7) h rfl (Sbs.cons rfl (Sbs.cons rfl (Sbs.cons rfl (Sbs.cons rfl (Sbs.cons rfl (Sbs.cons rfl (Sbs.cons rfl (Sbs.cons rfl (Sbs.cons rfl (Sbs.nil)))))))))) (Splits.of [0, 1, 2, 3, 4, 5] kr rfl)
       ·
        have h := condF hb3 h
        refine TO.skip rfl dc (TO.pick (b := false) rfl dc rfl rfl (TO.nil (TX.next (TC.condF rfl (TC.seq (TC.region (TO.move rfl dc rfl (TO.move rfl dc rfl ?_))))))))
        refine TO.buildSlice (cs := [.int .i32 q1]) (te := 21) (ps := [(0, .tmp 48)]) rfl dc rfl (fun _ => by kernel_rfl) (fun b3 => ?_)
        obtain ⟨hg2, h⟩ := grdE h
        refine TO.appendVec (k := 5) (k2 := 6) (ys := [q1]) Try.underlying44 el_21 encI_len encI_one rfl dc rfl rfl rfl rfl rfl rfl hg2 (fun v2 => ?_)
        refine TO.nameHd (k := 5) rfl (fun hd8 he2 => ?_)
        subst he2
        show TO _ _ _ _ _ _ _ _ _ _ [cells bc0 [.map (some bmc0)] 66, mapA (fun p : Gfold_pair => Value.agg #[.int .i32 p.e0, .int .i32 p.e1]) (fun n : Int => Value.int .i32 n) bmc0 Mc0, vec (encI (.i32)) 21 1 u1_h0.v u1.low, vec (encI (.i32)) 21 1 u1_h1.v u1.high, cells b1 [.int .i64 u1.at_, .int .u8 u1.broken, .int .i32 u7, u1_h0.v, u1_h1.v] 46, vec (encI (.i32)) 21 1 hd8.v (stayed5 ++ [q1]), cells b3 [.int .i32 q1] 21]
        refine TO.assign rfl dc rfl (TO.nil (TX.next (TC.region (TO.assign rfl dc rfl (TO.nil (TX.blockNormal ?_))))))
        exact TX.meetD (u7, stayed5 ++ [q1], false, hd8) h rfl (Sbs.cons rfl (Sbs.cons rfl (Sbs.cons rfl (Sbs.cons rfl (Sbs.cons rfl (Sbs.cons rfl (Sbs.cons rfl (Sbs.cons rfl (Sbs.cons rfl (Sbs.nil)))))))))) (Splits.of [0, 1, 2, 3, 4, 5] kr rfl)
      ·
       rintro ⟨u8, stayed6, free4, hd6⟩ h
       rw [hj3] at h
       show TC _ _ _ _ _ ([]) _ _ [(1, .pointer (some ⟨bc0, 0, none⟩)), (2, .pointer (some ⟨b1, 0, none⟩)), (4, hd6.v), (7, .bool free4), (22, .agg #[u1_h0.v, u1_h1.v]), (23, .int .i64 0), (26, u1_h0.v), (27, .int .i64 (u1.low.length : Int)), (28, .int .i64 x3)] [cells bc0 [.map (some bmc0)] 66, mapA (fun p : Gfold_pair => Value.agg #[.int .i32 p.e0, .int .i32 p.e1]) (fun n : Int => Value.int .i32 n) bmc0 Mc0, vec (encI (.i32)) 21 1 u1_h0.v u1.low, vec (encI (.i32)) 21 1 u1_h1.v u1.high, cells b1 [.int .i64 u1.at_, .int .u8 u1.broken, .int .i32 u8, u1_h0.v, u1_h1.v] 46, vec (encI (.i32)) 21 1 hd6.v stayed6]
       refine TC.region ?_
       obtain ⟨hg3, h⟩ := grdE h
       refine TO.bin rfl dc rfl rfl (bin_add (r := x3 + 1) (IntWalk.i64_in _ hg3)) (TO.move rfl dc rfl (TO.nil ?_))
       subst hag1
       exact TX.againD (n1, u8, stayed6, free4, x3 + 1, hd6) h (Nat.lt_succ_self _) rfl (Sbs.cons rfl (Sbs.cons rfl (Sbs.cons rfl (Sbs.cons rfl (Sbs.cons rfl (Sbs.cons rfl (Sbs.cons rfl (Sbs.cons rfl (Sbs.cons rfl (Sbs.nil)))))))))) (Splits.of [0, 1, 2, 3, 4, 5] kr rfl)
     ·
      have h := condF hb2 h
      refine TC.exit (TX.thenExit (TX.thenExit (TX.blockHere (TX.blockNormal ?_))))
      exact TX.meetD (u7, stayed5, hd5) h rfl (Sbs.cons rfl (Sbs.cons rfl (Sbs.cons rfl (Sbs.cons rfl (Sbs.cons rfl (Sbs.nil)))))) (Splits.of [0, 1, 2, 3, 4, 5] kr rfl)
   ·
    rintro ⟨u3, stayed2, hd2⟩ h
    rw [hj2] at h
    show TC _ _ _ _ _ ([]) _ _ [(1, .pointer (some ⟨bc0, 0, none⟩)), (2, .pointer (some ⟨b1, 0, none⟩)), (4, hd2.v), (22, .agg #[u1_h0.v, u1_h1.v]), (23, .int .i64 0)] [cells bc0 [.map (some bmc0)] 66, mapA (fun p : Gfold_pair => Value.agg #[.int .i32 p.e0, .int .i32 p.e1]) (fun n : Int => Value.int .i32 n) bmc0 Mc0, vec (encI (.i32)) 21 1 u1_h0.v u1.low, vec (encI (.i32)) 21 1 u1_h1.v u1.high, cells b1 [.int .i64 u1.at_, .int .u8 u1.broken, .int .i32 u3, u1_h0.v, u1_h1.v] 46, vec (encI (.i32)) 21 1 hd2.v stayed2]
    refine TC.region (TO.bin rfl dc rfl rfl (bin_add (r := 1) dc) (TO.move rfl dc rfl (TO.nil (TX.nextN (TR.succ (TC.seq (TC.region (TO.bin rfl dc rfl rfl (bin_known (show Value.bool (decide ((1 : Int) < 2)) = Value.bool true from congrArg Value.bool dc) bin_lss) (TO.nil (TX.next (TC.seq (TC.condT rfl (TC.skip ?_)))))))))))))
    refine TX.next ?_
    obtain ⟨j4, hj4, h⟩ := joinE h
    refine TC.cutN (β := Int × (List Int) × Hd) 0 rfl (fun b => j4 b.1 b.2.1 = some r) (fun b => []) (fun b => [(1, .pointer (some ⟨bc0, 0, none⟩)), (2, .pointer (some ⟨b1, 0, none⟩)), (4, b.2.2.v), (22, .agg #[u1_h0.v, u1_h1.v]), (23, .int .i64 1)]) (fun b => [cells bc0 [.map (some bmc0)] 66, mapA (fun p : Gfold_pair => Value.agg #[.int .i32 p.e0, .int .i32 p.e1]) (fun n : Int => Value.int .i32 n) bmc0 Mc0, vec (encI (.i32)) 21 1 u1_h0.v u1.low, vec (encI (.i32)) 21 1 u1_h1.v u1.high, cells b1 [.int .i64 u1.at_, .int .u8 u1.broken, .int .i32 b.1, u1_h0.v, u1_h1.v] 46, vec (encI (.i32)) 21 1 b.2.2.v b.2.1]) (fun cut => ?_) ?_
    ·
     refine cut (TC.block (TC.seq (TC.region ?_)))
     refine TO.index (v := u1_h1.v) rfl dc rfl rfl (fun _ => by kernel_rfl) ?_
     refine TO.assign rfl dc rfl (TO.nil (TX.next (TC.seq (TC.region (TO.assign rfl dc rfl (TO.nil (TX.next (TC.seq (TC.region (TO.move rfl dc rfl (TO.lenVec (k := 3) rfl dc rfl rfl Try.underlying44 (TO.move rfl dc rfl (TO.nil ?_)))))))))))))
     refine TX.next (TC.block ?_)
     refine TC.loopD (β := Nat × Int × (List Int) × Bool × Int × Hd) (fun b => loopG (fun _ _ _ _ => none) (fold_Together_1_s2 u1 Mc0 j4) b.1 b.2.1 b.2.2.1 b.2.2.2.1 b.2.2.2.2.1 = some r) (fun b => []) (fun b => [(1, .pointer (some ⟨bc0, 0, none⟩)), (2, .pointer (some ⟨b1, 0, none⟩)), (4, b.2.2.2.2.2.v), (7, .bool b.2.2.2.1), (22, .agg #[u1_h0.v, u1_h1.v]), (23, .int .i64 1), (26, u1_h1.v), (27, .int .i64 (u1.high.length : Int)), (28, .int .i64 b.2.2.2.2.1)]) (fun b => [cells bc0 [.map (some bmc0)] 66, mapA (fun p : Gfold_pair => Value.agg #[.int .i32 p.e0, .int .i32 p.e1]) (fun n : Int => Value.int .i32 n) bmc0 Mc0, vec (encI (.i32)) 21 1 u1_h0.v u1.low, vec (encI (.i32)) 21 1 u1_h1.v u1.high, cells b1 [.int .i64 u1.at_, .int .u8 u1.broken, .int .i32 b.2.1, u1_h0.v, u1_h1.v] 46, vec (encI (.i32)) 21 1 b.2.2.2.2.2.v b.2.2.1]) (fun b => b.1) (fuel, u3, stayed2, true, 0, hd2) h rfl (Sbs.cons rfl (Sbs.cons rfl (Sbs.cons rfl (Sbs.cons rfl (Sbs.cons rfl (Sbs.cons rfl (Sbs.cons rfl (Sbs.cons rfl (Sbs.cons rfl (Sbs.nil)))))))))) (Splits.of [0, 1, 2, 3, 4, 5] kr rfl) ?_
     rintro ⟨n2, u12, stayed10, free7, x6, hd12⟩ h
     cases n2 with
     | zero => exact noneE h
     | succ n2 =>
      obtain ⟨ag2, hag2⟩ : ∃ ag, ag = loopG (fun _ _ _ _ => none) (fold_Together_1_s2 u1 Mc0 j4) n2 := ⟨_, rfl⟩
      have h : fold_Together_1_s2 u1 Mc0 j4 ag2 u12 stayed10 free7 x6 = some r := by rw [hag2]; exact h
      unfold fold_Together_1_s2 at h
      show TC _ _ _ _ _ ([]) _ _ [(1, .pointer (some ⟨bc0, 0, none⟩)), (2, .pointer (some ⟨b1, 0, none⟩)), (4, hd12.v), (7, .bool free7), (22, .agg #[u1_h0.v, u1_h1.v]), (23, .int .i64 1), (26, u1_h1.v), (27, .int .i64 (u1.high.length : Int)), (28, .int .i64 x6)] [cells bc0 [.map (some bmc0)] 66, mapA (fun p : Gfold_pair => Value.agg #[.int .i32 p.e0, .int .i32 p.e1]) (fun n : Int => Value.int .i32 n) bmc0 Mc0, vec (encI (.i32)) 21 1 u1_h0.v u1.low, vec (encI (.i32)) 21 1 u1_h1.v u1.high, cells b1 [.int .i64 u1.at_, .int .u8 u1.broken, .int .i32 u12, u1_h0.v, u1_h1.v] 46, vec (encI (.i32)) 21 1 hd12.v stayed10]
      refine TC.seq (TC.region (TO.bin rfl dc rfl rfl bin_lss (TO.nil (TX.next (TC.seq ?_)))))
      refine TC.condB rfl (fun hb5 => ?_) (fun hb5 => ?_)
      ·
       have h := condT hb5 h
       refine TC.skip (TX.next ?_)
       obtain ⟨j5, hj5, h⟩ := joinE h
       refine TC.cutN (β := Int × (List Int) × Bool × Hd) 0 rfl (fun b => j5 b.1 b.2.1 b.2.2.1 = some r) (fun b => []) (fun b => [(1, .pointer (some ⟨bc0, 0, none⟩)), (2, .pointer (some ⟨b1, 0, none⟩)), (4, b.2.2.2.v), (7, .bool b.2.2.1), (22, .agg #[u1_h0.v, u1_h1.v]), (23, .int .i64 1), (26, u1_h1.v), (27, .int .i64 (u1.high.length : Int)), (28, .int .i64 x6)]) (fun b => [cells bc0 [.map (some bmc0)] 66, mapA (fun p : Gfold_pair => Value.agg #[.int .i32 p.e0, .int .i32 p.e1]) (fun n : Int => Value.int .i32 n) bmc0 Mc0, vec (encI (.i32)) 21 1 u1_h0.v u1.low, vec (encI (.i32)) 21 1 u1_h1.v u1.high, cells b1 [.int .i64 u1.at_, .int .u8 u1.broken, .int .i32 b.1, u1_h0.v, u1_h1.v] 46, vec (encI (.i32)) 21 1 b.2.2.2.v b.2.1]) (fun cut => ?_) ?_
       ·
        refine cut (TC.block (TC.seq (TC.region ?_)))
        obtain ⟨q2, hq3, h⟩ := andE h
        refine TO.indexVecI (k := 3) hq3 Try.underlying44 sz_21 rfl dc rfl rfl rfl rfl (TO.loadVec (i := (x6 : Int).toNat) (j := 0) (k := 3) (q := q2) sc_21 encI_len rfl dc rfl rfl (getO_get hq3) rfl dc rfl (TO.assign rfl dc rfl (TO.nil (TX.next (TC.seq (TC.region (TO.load (k := 0) sc_66 rfl dc rfl rfl rfl (TO.fieldAddr fl_46_2 rfl dc rfl (show _ = 2 from rfl) (TO.load (k := 4) sc_21 rfl dc rfl rfl rfl (TO.move rfl dc rfl ?_))))))))))
        refine TO.build (v := .agg #[.int .i32 u12, .int .i32 q2]) (ps := [(0, .tmp 35), (1, .tmp 36)]) rfl dc rfl (fun _ => by kernel_rfl) ?_
        refine TO.lookupOk (k := 1) (ek := (fun p : Gfold_pair => Value.agg #[.int .i32 p.e0, .int .i32 p.e1])) (ev' := (fun n : Int => Value.int .i32 n)) (kk := (⟨u12, q2⟩ : Gfold_pair)) (z0 := 0) (KeyOk.arr2 (f0 := fun p : Gfold_pair => p.e0) (f1 := fun p : Gfold_pair => p.e1) (fun a b h1 h2 => by cases a; cases b; simp_all) Try.underlying73 Try.underlying21 sz_21) Try.underlying66 kr rfl dc rfl rfl rfl ?_
        refine TO.move rfl dc rfl (TO.extract rfl dc rfl rfl (TO.extract rfl dc rfl rfl (TO.assign rfl dc rfl (TO.assign rfl dc rfl (TO.nil (TX.next (TC.seq (TC.region (TO.move rfl dc rfl (TO.move rfl dc rfl ?_))))))))))
        refine TO.split (s := 42) rfl (fun hb6 => ?_) (fun hb6 => ?_)
        ·
         have h := condT hb6 h
         refine TO.move rfl dc rfl (TO.pick (b := true) rfl dc rfl rfl (TO.nil (TX.next ?_)))
         refine TC.condB rfl (fun hb7 => ?_) (fun hb7 => ?_)
         ·
          have h := condT hb7 h
          refine TC.region (TO.move rfl dc rfl (TO.fieldAddr fl_46_2 rfl dc rfl (show _ = 2 from rfl) ?_))
          refine TO.store (k := 4) (l' := [.int .i64 u1.at_, .int .u8 u1.broken, .int .i32 ((getM (⟨u12, q2⟩ : Gfold_pair) Mc0).getD 0), u1_h0.v, u1_h1.v]) sz_21 rfl rfl rfl rfl rfl (fun _ _ => rfl) rfl ?_
          refine TO.nil (TX.blockNormal ?_)
          exact TX.meetD (((getM (⟨u12, q2⟩ : Gfold_pair) Mc0).getD 0), stayed10, free7, hd12) h rfl (Sbs.cons rfl (Sbs.cons rfl (Sbs.cons rfl (Sbs.cons rfl (Sbs.cons rfl (Sbs.cons rfl (Sbs.cons rfl (Sbs.cons rfl (Sbs.cons rfl (Sbs.nil)))))))))) (Splits.of [0, 1, 2, 3, 4, 5] kr rfl)
         ·
          have h := condF hb7 h
          refine TC.seq (TC.region (TO.move rfl dc rfl (TO.move rfl dc rfl ?_)))
          refine TO.buildSlice (cs := [.int .i32 q2]) (te := 21) (ps := [(0, .tmp 48)]) rfl dc rfl (fun _ => by kernel_rfl) (fun b4 => ?_)
          obtain ⟨hg4, h⟩ := grdE h
          refine TO.appendVec (k := 5) (k2 := 6) (ys := [q2]) Try.underlying44 el_21 encI_len encI_one rfl dc rfl rfl rfl rfl rfl rfl hg4 (fun v3 => ?_)
          refine TO.nameHd (k := 5) rfl (fun hd14 he3 => ?_)
          subst he3
          show TO _ _ _ _ _ _ _ _ _ _ [cells bc0 [.map (some bmc0)] 66, mapA (fun p : Gfold_pair => Value.agg #[.int .i32 p.e0, .int .i32 p.e1]) (fun n : Int => Value.int .i32 n) bmc0 Mc0, vec (encI (.i32)) 21 1 u1_h0.v u1.low, vec (encI (.i32)) 21 1 u1_h1.v u1.high, cells b1 [.int .i64 u1.at_, .int .u8 u1.broken, .int .i32 u12, u1_h0.v, u1_h1.v] 46, vec (encI (.i32)) 21 1 hd14.v (stayed10 ++ [q2]), cells b4 [.int .i32 q2] 21]
          refine TO.assign rfl dc rfl (TO.nil (TX.next (TC.region (TO.assign rfl dc rfl (TO.nil (TX.blockNormal ?_))))))
          exact TX.meetD (u12, stayed10 ++ [q2], false, hd14) h rfl (Sbs.cons rfl (Sbs.cons rfl (Sbs.cons rfl (Sbs.cons rfl (Sbs.cons rfl (Sbs.cons rfl (Sbs.cons rfl (Sbs.cons rfl (Sbs.cons rfl (Sbs.nil)))))))))) (Splits.of [0, 1, 2, 3, 4, 5] kr rfl)
        ·
         have h := condF hb6 h
         refine TO.skip rfl dc (TO.pick (b := false) rfl dc rfl rfl (TO.nil (TX.next (TC.condF rfl (TC.seq (TC.region (TO.move rfl dc rfl (TO.move rfl dc rfl ?_))))))))
         refine TO.buildSlice (cs := [.int .i32 q2]) (te := 21) (ps := [(0, .tmp 48)]) rfl dc rfl (fun _ => by kernel_rfl) (fun b5 => ?_)
         obtain ⟨hg5, h⟩ := grdE h
         refine TO.appendVec (k := 5) (k2 := 6) (ys := [q2]) Try.underlying44 el_21 encI_len encI_one rfl dc rfl rfl rfl rfl rfl rfl hg5 (fun v4 => ?_)
         refine TO.nameHd (k := 5) rfl (fun hd15 he4 => ?_)
         subst he4
         show TO _ _ _ _ _ _ _ _ _ _ [cells bc0 [.map (some bmc0)] 66, mapA (fun p : Gfold_pair => Value.agg #[.int .i32 p.e0, .int .i32 p.e1]) (fun n : Int => Value.int .i32 n) bmc0 Mc0, vec (encI (.i32)) 21 1 u1_h0.v u1.low, vec (encI (.i32)) 21 1 u1_h1.v u1.high, cells b1 [.int .i64 u1.at_, .int .u8 u1.broken, .int .i32 u12, u1_h0.v, u1_h1.v] 46, vec (encI (.i32)) 21 1 hd15.v (stayed10 ++ [q2]), cells b5 [.int .i32 q2] 21]
         refine TO.assign rfl dc rfl (TO.nil (TX.next (TC.region (TO.assign rfl dc rfl (TO.nil (TX.blockNormal ?_))))))
         exact TX.meetD (u12, stayed10 ++ [q2], false, hd15) h rfl (Sbs.cons rfl (Sbs.cons rfl (Sbs.cons rfl (Sbs.cons rfl (Sbs.cons rfl (Sbs.cons rfl (Sbs.cons rfl (Sbs.cons rfl (Sbs.cons rfl (Sbs.nil)))))))))) (Splits.of [0, 1, 2, 3, 4, 5] kr rfl)
       ·
        rintro ⟨u13, stayed11, free8, hd13⟩ h
        rw [hj5] at h
        show TC _ _ _ _ _ ([]) _ _ [(1, .pointer (some ⟨bc0, 0, none⟩)), (2, .pointer (some ⟨b1, 0, none⟩)), (4, hd13.v), (7, .bool free8), (22, .agg #[u1_h0.v, u1_h1.v]), (23, .int .i64 1), (26, u1_h1.v), (27, .int .i64 (u1.high.length : Int)), (28, .int .i64 x6)] [cells bc0 [.map (some bmc0)] 66, mapA (fun p : Gfold_pair => Value.agg #[.int .i32 p.e0, .int .i32 p.e1]) (fun n : Int => Value.int .i32 n) bmc0 Mc0, vec (encI (.i32)) 21 1 u1_h0.v u1.low, vec (encI (.i32)) 21 1 u1_h1.v u1.high, cells b1 [.int .i64 u1.at_, .int .u8 u1.broken, .int .i32 u13, u1_h0.v, u1_h1.v] 46, vec (encI (.i32)) 21 1 hd13.v stayed11]
        refine TC.region ?_
        obtain ⟨hg6, h⟩ := grdE h
        refine TO.bin rfl dc rfl rfl (bin_add (r := x6 + 1) (IntWalk.i64_in _ hg6)) (TO.move rfl dc rfl (TO.nil ?_))
        subst hag2
        exact TX.againD (n2, u13, stayed11, free8, x6 + 1, hd13) h (Nat.lt_succ_self _) rfl (Sbs.cons rfl (Sbs.cons rfl (Sbs.cons rfl (Sbs.cons rfl (Sbs.cons rfl (Sbs.cons rfl (Sbs.cons rfl (Sbs.cons rfl (Sbs.cons rfl (Sbs.nil)))))))))) (Splits.of [0, 1, 2, 3, 4, 5] kr rfl)
      ·
       have h := condF hb5 h
       refine TC.exit (TX.thenExit (TX.thenExit (TX.blockHere (TX.blockNormal ?_))))
       exact TX.meetD (u12, stayed10, hd12) h rfl (Sbs.cons rfl (Sbs.cons rfl (Sbs.cons rfl (Sbs.cons rfl (Sbs.cons rfl (Sbs.nil)))))) (Splits.of [0, 1, 2, 3, 4, 5] kr rfl)
    ·
     rintro ⟨u9, stayed7, hd9⟩ h
     rw [hj4] at h
     show TC _ _ _ _ _ ([]) _ _ [(1, .pointer (some ⟨bc0, 0, none⟩)), (2, .pointer (some ⟨b1, 0, none⟩)), (4, hd9.v), (22, .agg #[u1_h0.v, u1_h1.v]), (23, .int .i64 1)] [cells bc0 [.map (some bmc0)] 66, mapA (fun p : Gfold_pair => Value.agg #[.int .i32 p.e0, .int .i32 p.e1]) (fun n : Int => Value.int .i32 n) bmc0 Mc0, vec (encI (.i32)) 21 1 u1_h0.v u1.low, vec (encI (.i32)) 21 1 u1_h1.v u1.high, cells b1 [.int .i64 u1.at_, .int .u8 u1.broken, .int .i32 u9, u1_h0.v, u1_h1.v] 46, vec (encI (.i32)) 21 1 hd9.v stayed7]
     refine TC.region (TO.bin rfl dc rfl rfl (bin_add (r := 2) dc) (TO.move rfl dc rfl (TO.nil (TX.nextN (TR.succ (TC.seq (TC.region (TO.bin rfl dc rfl rfl (bin_known (show Value.bool (decide ((2 : Int) < 2)) = Value.bool false from congrArg Value.bool dc) bin_lss) (TO.nil (TX.next (TC.seq (TC.condF rfl (TC.exit ?_)))))))))))))
     refine TX.thenExit (TX.thenExit (TX.blockHere ?_))
     exact TX.meetD (u9, stayed7, hd9) h rfl (Sbs.cons rfl (Sbs.cons rfl (Sbs.nil))) (Splits.of [0, 1, 2, 3, 4, 5] kr rfl)
  ·
   rintro ⟨u2, stayed1, hd1⟩ h
   rw [hj1] at h
   show TC _ _ _ _ _ ([]) _ _ [(2, .pointer (some ⟨b1, 0, none⟩)), (4, hd1.v)] [cells bc0 [.map (some bmc0)] 66, mapA (fun p : Gfold_pair => Value.agg #[.int .i32 p.e0, .int .i32 p.e1]) (fun n : Int => Value.int .i32 n) bmc0 Mc0, vec (encI (.i32)) 21 1 u1_h0.v u1.low, vec (encI (.i32)) 21 1 u1_h1.v u1.high, cells b1 [.int .i64 u1.at_, .int .u8 u1.broken, .int .i32 u2, u1_h0.v, u1_h1.v] 46, vec (encI (.i32)) 21 1 hd1.v stayed1]
   refine TC.seq (TC.region (TO.fieldAddr fl_46_2 rfl dc rfl (show _ = 2 from rfl) (TO.load (k := 4) sc_21 rfl dc rfl rfl rfl (TO.conv rfl dc rfl (conv_rune Try.underlying21 Try.underlying9) (TO.move rfl dc rfl (TO.runesStr (k := 5) rfl dc rfl rfl Try.underlying44 Try.underlying21 Try.underlying9 ?_))))))
   obtain ⟨hg7, h⟩ := grdE h
   refine TO.bin rfl dc rfl rfl (bin_sadd hg7) (TO.assign rfl dc rfl (TO.nil (TX.next (TC.ret ?_))))
   cases h
   exact TX.fin (rs := [.tmp 3]) () (.inl rfl) Try.results41 (.cons (.tmp rfl) .nil) rfl (Splits.of [2, 3, 0, 1] kr rfl)
end Go.Proofs.Ytlamcpgnmeileaa
namespace Go.Proofs.Ytlamcpgnmeileaa
open Go.RowKit Go.Lib
set_option linter.unusedVariables false
set_option linter.unusedSimpArgs false
def fold_written_Together_1_s1 (l1 : List Gfold_unit) (Mof10 : List (Gfold_pair × Int)) (j1 : ByteArray → Option ByteArray) (ag1 : ByteArray → Int → Option ByteArray) (b4 : ByteArray) (x3 : Int) : Option ByteArray := bcond (decide ((x3 : Int) < (l1.length : Int))) ( joinK (fun (j2 : ByteArray → Option ByteArray) => andThen (getO l1 x3) fun (x4 : Gfold_unit) => bcond (decide ((x4.base : Int) < 0)) ( grd (b4.size + 1 ≤ 140737488355328) <| grd (∀ x ∈ ([x4.broken] : List Int), U8 x) <| j2 (b4 ++ (bytesOf [x4.broken]))
) ( andThen (fold_Together_1_v x4 Mof10) fun (r1 : ByteArray) => grd (b4.size + r1.size ≤ 140737488355328) <| j2 (b4 ++ r1)
)
) (fun (b5 : ByteArray) => grd (I64 (x3 + 1)) <| ag1 b5 (x3 + 1)
)
) ( j1 b4
)
def fold_written_Together_1_v (l1 : List Gfold_unit) (Mof10 : List (Gfold_pair × Int)) : Option ByteArray := joinK (fun (j1 : ByteArray → Option ByteArray) => loopG (fun _ _ => none) (fold_written_Together_1_s1 l1 Mof10 j1) fuel ByteArray.empty 0
) (fun (b1 : ByteArray) => some b1
)
set_option maxRecDepth 100000 in
set_option maxHeartbeats 4000000 in
theorem fold_written_Together_1_fn {vvl1 vl1 : Value} {Zl1 : List (Gfold_unit × Hd × Hd)} {kl1 : Nat} {zl1 : List (Gfold_unit × Hd × Hd)} {l1 : List Gfold_unit} (hwl1 : Vw vvl1 Zl1 5 kl1 vl1 zl1) (hzl1 : zl1.map Prod.fst = l1) {bof10 bmof10 : Nat} {Mof10 : List (Gfold_pair × Int)} {r : ByteArray} (h : fold_written_Together_1_v l1 Mof10 = some r) : Fn Try.prog 25 [vl1, .func (.func 41) #[] #[.pointer (some ⟨bof10, 0, none⟩)]] [vec encN_Gfold_unit 46 5 vvl1 Zl1, own nest_Gfold_unit Zl1, cells bof10 [.map (some bmof10)] 66, mapA (fun p : Gfold_pair => Value.agg #[.int .i32 p.e0, .int .i32 p.e1]) (fun n : Int => Value.int .i32 n) bmof10 Mof10] (fun _b : Unit => .string r) (fun _b => [vec encN_Gfold_unit 46 5 vvl1 Zl1, own nest_Gfold_unit Zl1, cells bof10 [.map (some bmof10)] 66, mapA (fun p : Gfold_pair => Value.agg #[.int .i32 p.e0, .int .i32 p.e1]) (fun n : Int => Value.int .i32 n) bmof10 Mof10]) := by
 unfold fold_written_Together_1_v at h
 refine Fn.intro Try.func25 rfl Try.ntmps25 (by simp) ?_
 intro w0 K
 obtain ⟨j1, hj1, h⟩ := joinE h
 refine TC.cutN (β := ByteArray × Value) 2 rfl (fun b => j1 b.1 = some r) (fun b => []) (fun b => [(5, b.2)]) (fun b => [cells bof10 [.map (some bmof10)] 66, mapA (fun p : Gfold_pair => Value.agg #[.int .i32 p.e0, .int .i32 p.e1]) (fun n : Int => Value.int .i32 n) bmof10 Mof10, vec encN_Gfold_unit 46 5 vvl1 Zl1, own nest_Gfold_unit Zl1, byt 5 b.2 b.1]) (fun cut => ?_) ?_
 ·
  refine TC.seq (TC.region (TO.assign rfl dc rfl (TO.nil (TX.next (TC.seq (TC.region (TO.assign rfl dc rfl (TO.nil (TX.next (cut (TC.seq (TC.region (TO.move rfl dc rfl ?_)))))))))))))
  refine TO.lenVwZ hzl1 hwl1 rfl dc rfl Try.underlying42 (TO.move rfl dc rfl (TO.nil (TX.next (TC.block (TC.newByt (e := 5) ?_)))))
  show TC _ _ _ _ _ _ _ _ _ [vec encN_Gfold_unit 46 5 vvl1 Zl1, own nest_Gfold_unit Zl1, cells bof10 [.map (some bmof10)] 66, mapA (fun p : Gfold_pair => Value.agg #[.int .i32 p.e0, .int .i32 p.e1]) (fun n : Int => Value.int .i32 n) bmof10 Mof10, byt 5 (.slice none 0 0) ByteArray.empty]
  refine TC.loopD (β := Nat × ByteArray × Int × Value) (fun b => loopG (fun _ _ => none) (fold_written_Together_1_s1 l1 Mof10 j1) b.1 b.2.1 b.2.2.1 = some r) (fun b => []) (fun b => [(1, .func (.func 41) #[] #[.pointer (some ⟨bof10, 0, none⟩)]), (5, b.2.2.2), (8, vl1), (9, .int .i64 (l1.length : Int)), (10, .int .i64 b.2.2.1)]) (fun b => [cells bof10 [.map (some bmof10)] 66, mapA (fun p : Gfold_pair => Value.agg #[.int .i32 p.e0, .int .i32 p.e1]) (fun n : Int => Value.int .i32 n) bmof10 Mof10, vec encN_Gfold_unit 46 5 vvl1 Zl1, own nest_Gfold_unit Zl1, byt 5 b.2.2.2 b.2.1]) (fun b => b.1) (fuel, ByteArray.empty, 0, (.slice none 0 0)) h rfl (Sbs.cons rfl (Sbs.cons rfl (Sbs.cons rfl (Sbs.cons rfl (Sbs.cons rfl (Sbs.nil)))))) (Splits.of [2, 3, 0, 1, 4] kr rfl) ?_
  rintro ⟨n1, b4, x3, v4⟩ h
  cases n1 with
  | zero => exact noneE h
  | succ n1 =>
   obtain ⟨ag1, hag1⟩ : ∃ ag, ag = loopG (fun _ _ => none) (fold_written_Together_1_s1 l1 Mof10 j1) n1 := ⟨_, rfl⟩
   have h : fold_written_Together_1_s1 l1 Mof10 j1 ag1 b4 x3 = some r := by rw [hag1]; exact h
   unfold fold_written_Together_1_s1 at h
   show TC _ _ _ _ _ ([]) _ _ [(1, .func (.func 41) #[] #[.pointer (some ⟨bof10, 0, none⟩)]), (5, v4), (8, vl1), (9, .int .i64 (l1.length : Int)), (10, .int .i64 x3)] [cells bof10 [.map (some bmof10)] 66, mapA (fun p : Gfold_pair => Value.agg #[.int .i32 p.e0, .int .i32 p.e1]) (fun n : Int => Value.int .i32 n) bmof10 Mof10, vec encN_Gfold_unit 46 5 vvl1 Zl1, own nest_Gfold_unit Zl1, byt 5 v4 b4]
   refine TC.seq (TC.region (TO.bin rfl dc rfl rfl bin_lss (TO.nil (TX.next (TC.seq ?_)))))
   refine TC.condB rfl (fun hb1 => ?_) (fun hb1 => ?_)
   ·
    have h := condT hb1 h
    refine TC.skip (TX.next ?_)
    obtain ⟨j2, hj2, h⟩ := joinE h
    refine TC.cutN (β := ByteArray × Value) 0 rfl (fun b => j2 b.1 = some r) (fun b => []) (fun b => [(1, .func (.func 41) #[] #[.pointer (some ⟨bof10, 0, none⟩)]), (5, b.2), (8, vl1), (9, .int .i64 (l1.length : Int)), (10, .int .i64 x3)]) (fun b => [cells bof10 [.map (some bmof10)] 66, mapA (fun p : Gfold_pair => Value.agg #[.int .i32 p.e0, .int .i32 p.e1]) (fun n : Int => Value.int .i32 n) bmof10 Mof10, vec encN_Gfold_unit 46 5 vvl1 Zl1, own nest_Gfold_unit Zl1, byt 5 b.2 b.1]) (fun cut => ?_) ?_
    ·
     refine cut (TC.block (TC.seq (TC.region ?_)))
     obtain ⟨x4, hq1, h⟩ := andE h
     obtain ⟨⟨eh1, eh2⟩, eq1⟩ := getO_z hzl1 hq1
     refine TO.indexVw hwl1 eq1 Try.underlying42 sz_46 rfl dc rfl rfl rfl (TO.loadsVec (i := kl1 + (x3 : Int).toNat) (j := 0) (k := 2) (q := (x4, (eh1, eh2))) (cs := [.int .i64 x4.at_, .int .u8 x4.broken, .int .i32 x4.base, eh1.v, eh2.v]) rw_46 encN_Gfold_unit_len rfl dc rfl rfl (Vw.get hwl1 eq1) rfl rfl rfl ?_)
     refine TO.alloc zr_46 rfl dc (fun b6 => ?_)
     refine TO.stores (k := 5) (vs := [.int .i64 x4.at_, .int .u8 x4.broken, .int .i32 x4.base, eh1.v, eh2.v]) (l' := [.int .i64 x4.at_, .int .u8 x4.broken, .int .i32 x4.base, eh1.v, eh2.v]) sz_46 rfl rfl rfl rfl rfl (show _ ≤ _ by simp) rfl rfl ?_
     show TO _ _ _ _ _ _ _ _ _ _ [cells bof10 [.map (some bmof10)] 66, mapA (fun p : Gfold_pair => Value.agg #[.int .i32 p.e0, .int .i32 p.e1]) (fun n : Int => Value.int .i32 n) bmof10 Mof10, vec encN_Gfold_unit 46 5 vvl1 Zl1, own nest_Gfold_unit Zl1, byt 5 v4 b4, cells b6 [.int .i64 x4.at_, .int .u8 x4.broken, .int .i32 x4.base, eh1.v, eh2.v] 46]
     refine TO.nil (TX.next (TC.seq (TC.region (TO.fieldAddr fl_46_2 rfl dc rfl (show _ = 2 from rfl) (TO.load (k := 5) sc_21 rfl dc rfl rfl rfl (TO.bin rfl dc rfl rfl bin_lss (TO.nil (TX.next ?_))))))))
     refine TC.condB rfl (fun hb2 => ?_) (fun hb2 => ?_)
     ·
      have h := condT hb2 h
      refine TC.region (TO.move rfl dc rfl (TO.fieldAddr fl_46_1 rfl dc rfl (show _ = 1 from rfl) (TO.load (k := 5) sc_5 rfl dc rfl rfl rfl ?_)))
      refine TO.buildSlice (cs := [.int .u8 x4.broken]) (te := 5) (ps := [(0, .tmp 19)]) rfl dc rfl (fun _ => by kernel_rfl) (fun b7 => ?_)
      obtain ⟨hg1, h⟩ := grdE h
      obtain ⟨hg2, h⟩ := grdE h
      refine TO.appendByt (k := 4) (k2 := 6) (ys := (bytesOf [x4.broken])) Try.underlying82 by_5 rfl dc rfl rfl rfl rfl (strCells_of hg2) rfl hg1 (fun v6 => ?_)
      show TO _ _ _ _ _ _ _ _ _ _ [cells bof10 [.map (some bmof10)] 66, mapA (fun p : Gfold_pair => Value.agg #[.int .i32 p.e0, .int .i32 p.e1]) (fun n : Int => Value.int .i32 n) bmof10 Mof10, vec encN_Gfold_unit 46 5 vvl1 Zl1, own nest_Gfold_unit Zl1, byt 5 v6 (b4 ++ (bytesOf [x4.broken])), cells b6 [.int .i64 x4.at_, .int .u8 x4.broken, .int .i32 x4.base, eh1.v, eh2.v] 46, cells b7 [.int .u8 x4.broken] 5]
      refine TO.assign rfl dc rfl (TO.nil (TX.blockNormal ?_))
      exact TX.meetD (b4 ++ (bytesOf [x4.broken]), v6) h rfl (Sbs.cons rfl (Sbs.cons rfl (Sbs.cons rfl (Sbs.cons rfl (Sbs.cons rfl (Sbs.nil)))))) (Splits.of [0, 1, 2, 3, 4] kr rfl)
     ·
      have h := condF hb2 h
      refine TC.region (TO.move rfl dc rfl (TO.move rfl dc rfl (TO.loads (k := 5) (cs := [.int .i64 x4.at_, .int .u8 x4.broken, .int .i32 x4.base, eh1.v, eh2.v]) rw_46 rfl dc rfl rfl rfl rfl ?_)))
      refine TO.unfold1 (k := 3) rfl (pullE (Vw.get hwl1 eq1)) (fun _ _ => ?_)
      show TO _ _ _ _ _ _ _ _ _ _ [cells bof10 [.map (some bmof10)] 66, mapA (fun p : Gfold_pair => Value.agg #[.int .i32 p.e0, .int .i32 p.e1]) (fun n : Int => Value.int .i32 n) bmof10 Mof10, vec encN_Gfold_unit 46 5 vvl1 Zl1, own nest_Gfold_unit (Zl1.eraseIdx (kl1 + (x3 : Int).toNat)), byt 5 v4 b4, cells b6 [.int .i64 x4.at_, .int .u8 x4.broken, .int .i32 x4.base, eh1.v, eh2.v] 46, vec (encI (.i32)) 21 1 eh1.v x4.low, vec (encI (.i32)) 21 1 eh2.v x4.high]
      obtain ⟨r1, hq2, h⟩ := andE h
      refine TO.callK (v := .string r1) (vs := [.agg #[.int .i64 x4.at_, .int .u8 x4.broken, .int .i32 x4.base, eh1.v, eh2.v]]) rfl dc rfl rfl rfl en_41 (fold_Together_1_fn (u1 := x4) (u1_h0 := eh1) (u1_h1 := eh2) (bmc0 := bmof10) hq2) [6, 7, 0, 1] kr rfl ?_
      obtain ⟨hg3, h⟩ := grdE h
      refine TO.appendStr (k := 4) Try.underlying82 Try.underlying9 by_5 rfl dc rfl rfl rfl hg3 (fun v7 => ?_)
      refine TO.assign rfl dc rfl (TO.nil (TX.blockNormal (TX.fold1 (k := 3) rfl (Splits.of [6, 7] kr rfl) rfl (pushE (nest := nest_Gfold_unit) (Vw.get hwl1 eq1) rfl) ?_)))
      show TX _ _ _ _ _ _ _ [cells bof10 [.map (some bmof10)] 66, mapA (fun p : Gfold_pair => Value.agg #[.int .i32 p.e0, .int .i32 p.e1]) (fun n : Int => Value.int .i32 n) bmof10 Mof10, vec encN_Gfold_unit 46 5 vvl1 Zl1, own nest_Gfold_unit Zl1, byt 5 v7 (b4 ++ r1), cells b6 [.int .i64 x4.at_, .int .u8 x4.broken, .int .i32 x4.base, eh1.v, eh2.v] 46, emp, emp]
      exact TX.meetD (b4 ++ r1, v7) h rfl (Sbs.cons rfl (Sbs.cons rfl (Sbs.cons rfl (Sbs.cons rfl (Sbs.cons rfl (Sbs.nil)))))) (Splits.of [0, 1, 2, 3, 4] kr rfl)
    ·
     rintro ⟨b5, v5⟩ h
     rw [hj2] at h
     show TC _ _ _ _ _ ([]) _ _ [(1, .func (.func 41) #[] #[.pointer (some ⟨bof10, 0, none⟩)]), (5, v5), (8, vl1), (9, .int .i64 (l1.length : Int)), (10, .int .i64 x3)] [cells bof10 [.map (some bmof10)] 66, mapA (fun p : Gfold_pair => Value.agg #[.int .i32 p.e0, .int .i32 p.e1]) (fun n : Int => Value.int .i32 n) bmof10 Mof10, vec encN_Gfold_unit 46 5 vvl1 Zl1, own nest_Gfold_unit Zl1, byt 5 v5 b5]
     refine TC.region ?_
     obtain ⟨hg4, h⟩ := grdE h
     refine TO.bin rfl dc rfl rfl (bin_add (r := x3 + 1) (IntWalk.i64_in _ hg4)) (TO.move rfl dc rfl (TO.nil ?_))
     subst hag1
     exact TX.againD (n1, b5, x3 + 1, v5) h (Nat.lt_succ_self _) rfl (Sbs.cons rfl (Sbs.cons rfl (Sbs.cons rfl (Sbs.cons rfl (Sbs.cons rfl (Sbs.nil)))))) (Splits.of [0, 1, 2, 3, 4] kr rfl)
   ·
    have h := condF hb1 h
    refine TC.exit (TX.thenExit (TX.thenExit (TX.blockHere ?_)))
    exact TX.meetD (b4, v4) h rfl (Sbs.cons rfl (Sbs.nil)) (Splits.of [0, 1, 2, 3, 4] kr rfl)
 ·
  rintro ⟨b1, v1⟩ h
  rw [hj1] at h
  show TC _ _ _ _ _ ([]) _ _ [(5, v1)] [cells bof10 [.map (some bmof10)] 66, mapA (fun p : Gfold_pair => Value.agg #[.int .i32 p.e0, .int .i32 p.e1]) (fun n : Int => Value.int .i32 n) bmof10 Mof10, vec encN_Gfold_unit 46 5 vvl1 Zl1, own nest_Gfold_unit Zl1, byt 5 v1 b1]
  refine TC.seq (TC.region (TO.move rfl dc rfl (TO.bytStr (k := 4) rfl dc rfl rfl Try.underlying82 Try.underlying5 Try.underlying9 (TO.assign rfl dc rfl (TO.nil (TX.next (TC.ret ?_)))))))
  cases h
  exact TX.fin (rs := [.tmp 4]) () (.inl rfl) Try.results25 (.cons (.tmp rfl) .nil) rfl (Splits.of [2, 3, 0, 1] kr rfl)
end Go.Proofs.Ytlamcpgnmeileaa
namespace Go.Proofs.Ytlamcpgnmeileaa
open Go.RowKit Go.Lib
set_option linter.unusedVariables false
set_option linter.unusedSimpArgs false
def fold_Together_v (s1 : ByteArray) : Option ByteArray := andThen (fold_tables_v) fun (r1 : ((List (Gfold_pair × Int)) × (List (Int × Gfold_pair)))) => andThen (fold_units_v s1) fun (r2 : (List Gfold_unit)) => andThen (fold_written_Together_1_v r2 r1.1) fun (r3 : ByteArray) => some r3
set_option maxRecDepth 100000 in
set_option maxHeartbeats 4000000 in
theorem fold_Together_fn {s1 : ByteArray} {r : ByteArray} (h : fold_Together_v s1 = some r) : FnP Try.prog 19 [.string s1] (.string r) := by
 unfold fold_Together_v at h
 refine FnP.intro Try.func19 rfl Try.ntmps19 (by simp) ?_
 intro w0 K
 refine TC.seq (TC.region (TO.assign rfl dc rfl (TO.nil (TX.next (TC.seq (TC.region ?_))))))
 obtain ⟨r1, hq1, h⟩ := andE h
 refine TO.call (vs := []) rfl dc rfl rfl rfl en_40 (fold_tables_fn hq1) Splits.nil ?_
 rintro ⟨b1, b2⟩
 show TO _ _ _ _ _ _ _ _ _ _ [mapA (fun p : Gfold_pair => Value.agg #[.int .i32 p.e0, .int .i32 p.e1]) (fun n : Int => Value.int .i32 n) b1 r1.1, mapA (fun n : Int => Value.int .i32 n) (fun p : Gfold_pair => Value.agg #[.int .i32 p.e0, .int .i32 p.e1]) b2 r1.2]
 refine TO.weakenL (L' := [mapA (fun p : Gfold_pair => Value.agg #[.int .i32 p.e0, .int .i32 p.e1]) (fun n : Int => Value.int .i32 n) b1 r1.1, mapA (fun n : Int => Value.int .i32 n) (fun p : Gfold_pair => Value.agg #[.int .i32 p.e0, .int .i32 p.e1]) b2 r1.2]) (Splits.of [0, 1] kr rfl) ?_
 refine TO.move rfl dc rfl (TO.extract rfl dc rfl rfl (TO.extract rfl dc rfl rfl ?_))
 refine TO.alloc zr_66 rfl dc (fun b3 => ?_)
 refine TO.store (k := 2) (l' := [.map (some b1)]) sz_66 rfl rfl rfl rfl rfl (fun _ _ => rfl) rfl ?_
 show TO _ _ _ _ _ _ _ _ _ _ [mapA (fun p : Gfold_pair => Value.agg #[.int .i32 p.e0, .int .i32 p.e1]) (fun n : Int => Value.int .i32 n) b1 r1.1, mapA (fun n : Int => Value.int .i32 n) (fun p : Gfold_pair => Value.agg #[.int .i32 p.e0, .int .i32 p.e1]) b2 r1.2, cells b3 [.map (some b1)] 66]
 refine TO.assign rfl dc rfl (TO.nil (TX.next (TC.seq (TC.region (TO.move rfl dc rfl ?_)))))
 obtain ⟨r2, hq2, h⟩ := andE h
 refine TO.call (vs := [.string s1]) rfl dc rfl rfl rfl en_24 (fold_units_fn hq2) Splits.nil ?_
 rintro v1
 show TO _ _ _ _ _ _ _ _ _ _ [mapA (fun p : Gfold_pair => Value.agg #[.int .i32 p.e0, .int .i32 p.e1]) (fun n : Int => Value.int .i32 n) b1 r1.1, mapA (fun n : Int => Value.int .i32 n) (fun p : Gfold_pair => Value.agg #[.int .i32 p.e0, .int .i32 p.e1]) b2 r1.2, cells b3 [.map (some b1)] 66, vecN encN_Gfold_unit nest_Gfold_unit 46 5 v1 r2]
 refine TO.weakenL (L' := [mapA (fun p : Gfold_pair => Value.agg #[.int .i32 p.e0, .int .i32 p.e1]) (fun n : Int => Value.int .i32 n) b1 r1.1, mapA (fun n : Int => Value.int .i32 n) (fun p : Gfold_pair => Value.agg #[.int .i32 p.e0, .int .i32 p.e1]) b2 r1.2, cells b3 [.map (some b1)] 66, vecN encN_Gfold_unit nest_Gfold_unit 46 5 v1 r2]) (Splits.of [0, 1, 2, 3] kr rfl) ?_
 refine TO.nameHdN (k := 3) rfl (fun hd1 he1 => ?_)
 subst he1
 refine TO.makeFunc (x1 := []) (x2 := [.tmp 3]) rfl dc rfl rfl ?_
 refine TO.unfold1 (k := 3) rfl openE (fun zs1 hz1 => ?_)
 show TO _ _ _ _ _ _ _ _ _ _ [mapA (fun p : Gfold_pair => Value.agg #[.int .i32 p.e0, .int .i32 p.e1]) (fun n : Int => Value.int .i32 n) b1 r1.1, mapA (fun n : Int => Value.int .i32 n) (fun p : Gfold_pair => Value.agg #[.int .i32 p.e0, .int .i32 p.e1]) b2 r1.2, cells b3 [.map (some b1)] 66, vec encN_Gfold_unit 46 5 hd1.v zs1, own nest_Gfold_unit zs1]
 refine TO.vecVw (k := 3) rfl (fun hw1 => ?_)
 obtain ⟨r3, hq3, h⟩ := andE h
 refine TO.callK (v := .string r3) (vs := [hd1.v, .func (.func 41) #[] #[.pointer (some ⟨b3, 0, none⟩)]]) rfl dc rfl rfl rfl en_25 (fold_written_Together_1_fn (bmof10 := b1) hw1 hz1 hq3) [3, 4, 2, 0] kr rfl (TO.assign rfl dc rfl (TO.nil (TX.next (TC.ret ?_))))
 cases h
 exact TX.fin (rs := [.tmp 2]) () (.inl rfl) Try.results19 (.cons (.tmp rfl) .nil) rfl Splits.nil
end Go.Proofs.Ytlamcpgnmeileaa
namespace Go.Proofs.Ytlamcpgnmeileaa
open Go.RowKit Go.Lib
set_option linter.unusedVariables false
set_option linter.unusedSimpArgs false

end Go.Proofs.Ytlamcpgnmeileaa
namespace Go.Proofs.Ytlamcpgnmeileaa
open Go.RowKit Go.Lib
set_option linter.unusedVariables false
set_option linter.unusedSimpArgs false
theorem wr_Together_1 (M : List (Gfold_pair × Int)) (of : Gfold_unit → ByteArray) (l : List Gfold_unit) (hl : l.length ≤ 1048576) (h : ∀ u ∈ l, u.base < 0 ∧ U8 u.broken ∨ 0 ≤ u.base ∧ fold_Together_1_v u M = some (of u) ∧ (of u).size ≤ 1048576) : fold_written_Together_1_v l M = some (J (wr of) l) := by
  unfold fold_written_Together_1_v
  refine joinI ((loop1 (xs := l) (f := fun b u => b ++ wr of u) (J := some) (fun k b => b.size ≤ k * 1048576) ?_ ?_ ?_ (big_fuel (by omega)) (by decide)).trans rfl)
  · intro ag k u b hu hb
    have hk := lp_lt' hu
    unfold fold_written_Together_1_s1
    refine condTI (lp_lt hu) (joinI (thenI (lp_get hu) ?_))
    rcases h u (List.mem_of_getElem? hu) with ⟨h1, h2⟩ | ⟨h1, h2, h3⟩
    · exact condTI (decide_eq_true h1) (grdI (by omega) (grdI (by simpa using h2) (grdI (lp_i64 (by omega)) (by simp only [wr, if_pos h1]))))
    · exact condFI (decide_eq_false (by omega)) (thenI h2 (grdI (by omega) (grdI (lp_i64 (by omega)) (by simp only [wr, if_neg (show ¬ u.base < 0 by omega)]))))
  · intro k u b hu hb
    have hw : (wr of u).size ≤ 1048576 := by
      rcases h u (List.mem_of_getElem? hu) with ⟨h1, h2⟩ | ⟨h1, h2, h3⟩
      · unfold wr; rw [if_pos h1, bytesOf_size]; simp
      · unfold wr; rw [if_neg (by omega)]; exact h3
    rw [ByteArray.size_append]; omega
  · intro ag b _; unfold fold_written_Together_1_s1; exact condFI lp_ge rfl

set_option maxRecDepth 100000 in
theorem tabP_rng : (tabP.all fun p => decide (0 < p.2 ∧ p.2 ≤ 2000) && letter p.2) = true := by decide +kernel
theorem joined_rng {b m j : Int} (h : joined b m = some j) : 0 < j ∧ j ≤ 2000 ∧ letter j = true := by
  have := List.all_eq_true.1 tabP_rng _ (getM_mem h)
  simp only [Bool.and_eq_true, decide_eq_true_eq] at this
  exact ⟨this.1.1, this.1.2, this.2⟩
/-- One mark more: it is joined, or it stays. -/
def tgS (a : Int × List Int × Bool) (m : Int) : Int × List Int × Bool :=
  match joined a.1 m with
  | some j => if a.2.2 then (j, a.2.1, true) else (a.1, a.2.1 ++ [m], false)
  | none => (a.1, a.2.1 ++ [m], false)
def tgU (b : Int) (lo hi : List Int) : ByteArray :=
  Utf8.encode (hi.foldl tgS ((lo.foldl tgS (b, [], true)).1, (lo.foldl tgS (b, [], true)).2.1, true)).1 ++ strOf (hi.foldl tgS ((lo.foldl tgS (b, [], true)).1, (lo.foldl tgS (b, [], true)).2.1, true)).2.1
theorem tgS_len (a : Int × List Int × Bool) (m : Int) : (tgS a m).2.1.length ≤ a.2.1.length + 1 := by
  unfold tgS
  split
  · split <;> simp
  · simp
theorem tgS_lens (ms : List Int) : ∀ a : Int × List Int × Bool, (ms.foldl tgS a).2.1.length ≤ a.2.1.length + ms.length := by
  induction ms with
  | nil => intro a; simp
  | cons m ms ih => intro a; have := ih (tgS a m); have := tgS_len a m; rw [List.foldl_cons, List.length_cons]; omega
section
variable {R X A B C : Type} {xs : List X}
theorem loop3 {F : (A → B → C → Int → Option R) → A → B → C → Int → Option R} {bot : A → B → C → Int → Option R} {f : A × B × C → X → A × B × C} {Jf : A → B → Option R} (Inv : Nat → A × B × C → Prop)
    (hs : ∀ ag k x (a : A × B × C), xs[k]? = some x → Inv k a → F ag a.1 a.2.1 a.2.2 (k : Int) = ag (f a x).1 (f a x).2.1 (f a x).2.2 ((k : Int) + 1)) (hI : ∀ k x a, xs[k]? = some x → Inv k a → Inv (k + 1) (f a x))
    (he : ∀ ag (a : A × B × C), Inv xs.length a → F ag a.1 a.2.1 a.2.2 (xs.length : Int) = Jf a.1 a.2.1) {n : Nat} (hn : xs.length < n) {a : A × B × C} (h0 : Inv 0 a) : loopG bot F n a.1 a.2.1 a.2.2 0 = Jf (xs.foldl f a).1 (xs.foldl f a).2.1 := by
  have key : ∀ (n k : Nat) (a : A × B × C), k ≤ xs.length → xs.length - k < n → Inv k a → loopG bot F n a.1 a.2.1 a.2.2 (k : Int) = Jf ((xs.drop k).foldl f a).1 ((xs.drop k).foldl f a).2.1 := by
    intro n
    induction n with
    | zero => intro k a _ h; omega
    | succ n ih =>
      intro k a hk hn hi
      rw [loopI]
      by_cases h : k < xs.length
      · have hx : xs[k]? = some xs[k] := List.getElem?_eq_getElem h
        rw [hs _ k _ a hx hi, List.drop_eq_getElem_cons h, List.foldl_cons]
        exact ih (k + 1) _ (by omega) (by omega) (hI k _ a hx hi)
      · have : k = xs.length := by omega
        subst this
        rw [he _ a hi, List.drop_length]; rfl
  have := key n 0 a (Nat.zero_le _) (by omega) h0
  simpa using this
end
def tgJ : Int → List Int → Option ByteArray := fun u9 stayed7 => grd ((Utf8.encode u9).size + (strOf stayed7).size ≤ 9223372036854775807) <| some ((Utf8.encode u9) ++ (strOf stayed7))
def tgJlo (u : Gfold_unit) : Int → List Int → Option ByteArray := fun u3 stayed2 => joinK (fun (j4 : Int → (List Int) → Option ByteArray) => loopG (fun _ _ _ _ => none) (fold_Together_1_s2 u tabP j4) fuel u3 stayed2 true 0) tgJ
theorem tg_v (u : Gfold_unit) (hu : I32 u.base) (h1 : u.low.length ≤ 200000) (h2 : u.high.length ≤ 200000) : fold_Together_1_v u tabP = some (if letter u.base then tgU u.base u.low u.high else Utf8.encode u.base) := by
  unfold fold_Together_1_v
  refine thenI (letter_v u hu) ?_
  cases hL : letter u.base with
  | false => exact condTI rfl rfl
  | true =>
    refine condFI rfl (joinI (joinI ?_))
    have step : ∀ (xs : List Int) (k : Nat) (x : Int) (a : Int × List Int × Bool) (ag : Int → List Int → Bool → Int → Option ByteArray), xs[k]? = some x → xs.length ≤ 200000 → a.2.1.length ≤ 400000 →
        (andThen (getO xs (k : Int)) fun (q1 : Int) => bcond ((getM (⟨a.1, q1⟩ : Gfold_pair) tabP).isSome) (bcond (a.2.2) ((fun (u8 : Int) (stayed6 : List Int) (free4 : Bool) => grd (I64 ((k : Int) + 1)) <| ag u8 stayed6 free4 ((k : Int) + 1)) ((getM (⟨a.1, q1⟩ : Gfold_pair) tabP).getD 0) a.2.1 a.2.2)
          (grd (a.2.1.length + 1 ≤ 2147483648) <| (fun (u8 : Int) (stayed6 : List Int) (free4 : Bool) => grd (I64 ((k : Int) + 1)) <| ag u8 stayed6 free4 ((k : Int) + 1)) a.1 (a.2.1 ++ [q1]) false))
          (grd (a.2.1.length + 1 ≤ 2147483648) <| (fun (u8 : Int) (stayed6 : List Int) (free4 : Bool) => grd (I64 ((k : Int) + 1)) <| ag u8 stayed6 free4 ((k : Int) + 1)) a.1 (a.2.1 ++ [q1]) false)) = ag (tgS a x).1 (tgS a x).2.1 (tgS a x).2.2 ((k : Int) + 1) := by
      intro xs k x a ag hx hxs ha
      have hk := lp_lt' hx
      refine thenI (lp_get hx) ?_
      unfold tgS joined
      cases getM (⟨a.1, x⟩ : Gfold_pair) tabP with
      | none => exact condFI rfl (grdI (by omega) (grdI (lp_i64 (by omega)) rfl))
      | some j =>
        refine condTI rfl ?_
        cases hf : a.2.2 with
        | true => exact condTI rfl (grdI (lp_i64 (by omega)) rfl)
        | false => exact condFI rfl (grdI (by omega) (grdI (lp_i64 (by omega)) rfl))
    have hb1 := tgS_lens u.low (u.base, [], true)
    have lo := loop3 (xs := u.low) (F := fold_Together_1_s1 u tabP (tgJlo u)) (bot := fun _ _ _ _ => none) (f := tgS) (Jf := tgJlo u) (fun k a => a.2.1.length ≤ k) (fun ag k x a hx hi => by
          have hk := lp_lt' hx
          unfold fold_Together_1_s1
          exact condTI (lp_lt hx) (joinI (step u.low k x a ag hx h1 (by omega)))) (fun k x a _ hi => by have := tgS_len a x; omega) (fun ag a _ => by unfold fold_Together_1_s1; exact condFI lp_ge rfl) (n := fuel) (big_fuel (by omega)) (a := (u.base, [], true)) (Nat.le_refl _)
    refine lo.trans ?_
    show loopG (fun _ _ _ _ => none) (fold_Together_1_s2 u tabP tgJ) fuel _ _ true 0 = _
    simp only [List.length_nil, Nat.zero_add] at hb1
    generalize hA : u.low.foldl tgS (u.base, [], true) = A at hb1 ⊢
    have hb2 := tgS_lens u.high (A.1, A.2.1, true)
    have hi' := loop3 (xs := u.high) (F := fold_Together_1_s2 u tabP tgJ) (bot := fun _ _ _ _ => none) (f := tgS) (Jf := tgJ) (fun k a => a.2.1.length ≤ 200000 + k) (fun ag k x a hx hi => by
          have hk := lp_lt' hx
          unfold fold_Together_1_s2
          exact condTI (lp_lt hx) (joinI (step u.high k x a ag hx h2 (by omega)))) (fun k x a _ hi => by have := tgS_len a x; omega) (fun ag a _ => by unfold fold_Together_1_s2; exact condFI lp_ge rfl) (n := fuel) (big_fuel (by omega)) (a := (A.1, A.2.1, true)) (by show A.2.1.length ≤ 200000 + 0; omega)
    refine hi'.trans ?_
    simp only at hb2
    have e1 := enc_size4 (u.high.foldl tgS (A.1, A.2.1, true)).1
    have e2 := strOf_size (u.high.foldl tgS (A.1, A.2.1, true)).2.1
    refine grdI (by omega) ?_
    show some _ = some (tgU _ _ _)
    unfold tgU
    rw [hA]
def tgC (c : Itm × List Itm) : ByteArray := if isL c.1 then tgU c.1.Rune ((loI c.2).map (·.Rune)) ((hiI c.2).map (·.Rune)) else c.1.Text
def togS (s : ByteArray) : ByteArray := J tgC (clus s)
theorem tgU_size (b : Int) (lo hi : List Int) (h1 : lo.length ≤ 200000) (h2 : hi.length ≤ 200000) : (tgU b lo hi).size ≤ 4 + 4 * (lo.length + hi.length) := by
  unfold tgU
  rw [ByteArray.size_append]
  have a1 := tgS_lens lo (b, [], true)
  have a2 := tgS_lens hi ((lo.foldl tgS (b, [], true)).1, (lo.foldl tgS (b, [], true)).2.1, true)
  have a3 := strOf_size (hi.foldl tgS ((lo.foldl tgS (b, [], true)).1, (lo.foldl tgS (b, [], true)).2.1, true)).2.1
  have a4 := enc_size4 (hi.foldl tgS ((lo.foldl tgS (b, [], true)).1, (lo.foldl tgS (b, [], true)).2.1, true)).1
  simp only [List.length_nil, Nat.zero_add] at a1
  simp only at a2
  omega
theorem tog_v (s : ByteArray) (hs : s.size ≤ 65536) : fold_Together_v s = some (togS s) := by
  unfold fold_Together_v
  obtain ⟨hl, hc⟩ := clus_ok hs
  refine thenI tables_v (thenI (units_v s hs) (thenI (wr_Together_1 tabP (fun u => if letter u.base then tgU u.base u.low u.high else Utf8.encode u.base) _ (by rw [List.length_map]; omega) ?_) ?_))
  · intro u hu
    obtain ⟨c, hcm, rfl⟩ := List.mem_map.1 hu
    obtain ⟨h1, _, _, h4⟩ := hc c hcm
    rcases toU_cases c h1 with ⟨g1, g2, _⟩ | ⟨g1, g2, g3, g4⟩
    · exact .inl ⟨g1, g2⟩
    · have hh := lohi_le c.2
      have e1 : (toU c).low.length ≤ 196608 := by rw [g4]; simp; omega
      have e2 : (toU c).high.length ≤ 196608 := by rw [g4]; simp; omega
      have e3 : (toU c).low.length + (toU c).high.length ≤ 196608 := by
        rw [g4]; have := lohi_len c.2; rw [List.length_append] at this; simp; omega
      refine .inr ⟨g1, tg_v _ (by rw [toU_base c g2]; exact h1.1) (by omega) (by omega), ?_⟩
      split
      · have := tgU_size (toU c).base (toU c).low (toU c).high (by omega) (by omega); omega
      · have := enc_size4 (toU c).base; omega
  · rw [wr_of _ tgC s hs (fun c hcm h0 => by
      obtain ⟨h1, _⟩ := hc c hcm
      rcases toU_cases c h1 with ⟨_, _, g3, _⟩ | ⟨g1, g2, g3, g4⟩
      · omega
      · unfold tgC isL
        rw [g4]
        show (if letter c.1.Rune then _ else _) = _
        cases letter c.1.Rune with
        | true => rfl
        | false => simp [g3]) (fun c hcm h0 => by unfold tgC; rw [not_letter_neg h0]; rfl)]; rfl
theorem mark_text {m : Itm} (h : okT m) (hm : isM m = true) : m.Text = Utf8.encode m.Rune := by
  rcases h.2 with ⟨h3, _⟩ | ⟨_, h3⟩
  · have : mrk m.Rune = true := hm
    unfold mrk at this; simp at this; omega
  · exact h3
end Go.Proofs.Ytlamcpgnmeileaa
namespace Go.Proofs.Ytlamcpgnmeileaa
open Go.RowKit Go.Lib
set_option linter.unusedVariables false
set_option linter.unusedSimpArgs false
theorem size_listN (s : ByteArray) : s.data.toList.length = s.size := by rw [Array.length_toList]; rfl
/-! ### Clusters of two texts -/
theorem clF_append (y : Itm) (Y : List Itm) (hy : isM y = false) : ∀ (X : List Itm) (cur : Option (Itm × List Itm)), clF cur (X ++ y :: Y) = clF cur X ++ clF none (y :: Y)
  | [], none => rfl
  | [], some c => by
    show (if isL c.1 && isM y then _ else c :: clF (some (y, [])) Y) = _
    rw [hy, Bool.and_false]; rfl
  | x :: X, none => clF_append y Y hy X (some (x, []))
  | x :: X, some c => by
    show (if isL c.1 && isM x then clF (some (c.1, c.2 ++ [x])) (X ++ y :: Y) else c :: clF (some (x, [])) (X ++ y :: Y)) = (if isL c.1 && isM x then clF (some (c.1, c.2 ++ [x])) X else c :: clF (some (x, [])) X) ++ _
    split
    · exact clF_append y Y hy X _
    · rw [clF_append y Y hy X]; rfl
theorem clT_append (ta tb : List Tok) (h : ∀ t, tb.head? = some t → mrk (tokI t).Rune = false) : clT (ta ++ tb) = clT ta ++ clT tb := by
  unfold clT
  rw [List.map_append]
  have e : ∀ x y : List Itm, apL (x ++ y) = apL x ++ apL y := fun x y => by unfold apL; rw [List.flatMap_append]
  rw [e]
  cases tb with
  | nil => simp [apL, cl, clF]
  | cons t tb =>
    have ht := h t rfl
    obtain ⟨y, ys, hy, hm⟩ : ∃ y ys, apL ((t :: tb).map tokI) = y :: ys ∧ isM y = false := by
      unfold apL
      rw [List.map_cons, List.flatMap_cons]
      unfold apI
      split
      · rename_i hL
        obtain ⟨b, ms, hq, hb, _⟩ := parts_shape (show letter (tokI t).Rune = true from hL)
        rw [hq]
        refine ⟨_, _, rfl, ?_⟩
        cases e : isM (⟨b, Utf8.encode b, (tokI t).At⟩ : Itm) with
        | false => rfl
        | true => have := mrk_not_letter (show mrk b = true from e); rw [hb] at this; cases this
      · exact ⟨_, _, rfl, ht⟩
    rw [hy]
    exact clF_append y ys hm _ none
theorem lo_strip (l : List Itm) : loI (l.map strip) = (loI l).map strip ∧ hiI (l.map strip) = (hiI l).map strip := by
  unfold loI hiI
  rw [List.filter_map, List.filter_map]
  exact ⟨rfl, rfl⟩
theorem apartC_strip (c : Itm × List Itm) : apartC (stripC c) = apartC c := by
  unfold apartC ordC stripC
  simp only
  rw [(lo_strip c.2).1, (lo_strip c.2).2, ← List.map_append, J_cons, J_cons, J_map]; rfl
theorem tgC_strip (c : Itm × List Itm) : tgC (stripC c) = tgC c := by
  unfold tgC stripC
  simp only
  rw [isL_strip, (lo_strip c.2).1, (lo_strip c.2).2, List.map_map, List.map_map]; rfl
end Go.Proofs.Ytlamcpgnmeileaa
namespace Go.Proofs.Ytlamcpgnmeileaa
open Go.RowKit Go.Lib
set_option linter.unusedVariables false
set_option linter.unusedSimpArgs false

end Go.Proofs.Ytlamcpgnmeileaa
namespace Go.Proofs.Ytlamcpgnmeileaa
open Go.RowKit Go.Lib
set_option linter.unusedVariables false
set_option linter.unusedSimpArgs false
def okTok (t : Tok) : Prop := t.valid ∨ t.broken = true
def itT (x : Itm) : Tok := ⟨if x.Rune < 0 then 65533 else x.Rune.toNat, x.Text.data.toList⟩
theorem itT_tok {t : Tok} (h : okTok t) : itT (tokI t) = t := by
  unfold itT tokI
  rcases h with h | h
  · rw [valid_not_broken h]
    cases t; simp; intro h; omega
  · rw [h]
    have : t.r = 65533 := by unfold Tok.broken at h; simp at h; exact h.1
    cases t; simp at this; subst this; simp
def LM (t : Tok) : Prop := letter (t.r : Int) = true ∨ mrk (t.r : Int) = true
/-- A group of tokens and its cluster. -/
def grpOk (g : List Tok × (Itm × List Itm)) : Prop :=
  (isL g.2.1 = true ∧ g.1 ≠ [] ∧ (∀ t ∈ g.1, t.valid ∧ LM t) ∧ (∀ m ∈ g.2.2, isM m = true) ∧ getM g.2.1.Rune tabS = none) ∨ (isL g.2.1 = false ∧ g.2.2 = [] ∧ ∃ t, g.1 = [t] ∧ okTok t ∧ g.2.1 = tokI t)
theorem tok_mark {t : Tok} (h : okTok t) (hm : isM (tokI t) = true) : t.valid ∧ mrk (t.r : Int) = true := by
  rcases h with h | h
  · refine ⟨h, ?_⟩
    unfold isM tokI at hm
    rw [valid_not_broken h] at hm; exact hm
  · unfold isM tokI at hm
    rw [h] at hm; exact absurd (show mrk (-1) = true from hm) (by decide)
/-- What a token becomes. -/
theorem apI_tok {t : Tok} (h : okTok t) : ∃ x ms, apI (tokI t) = x :: ms ∧ grpOk ([t], (x, ms)) ∧ (∀ m ∈ ms, isM m = true) ∧ (isL x = false → ms = []) ∧ isM x = isM (tokI t) := by
  cases hL : isL (tokI t) with
  | false =>
    exact ⟨tokI t, [], by unfold apI; rw [hL]; rfl, .inr ⟨hL, rfl, t, rfl, h, rfl⟩, by simp, fun _ => rfl, rfl⟩
  | true =>
    have hL' : letter (tokI t).Rune = true := hL
    obtain ⟨b, ms, hq, hb, hn, hms, _⟩ := parts_shape hL'
    have hv : t.valid := by
      rcases h with h | h
      · exact h
      · unfold tokI at hL'; rw [h] at hL'; exact absurd (show letter (-1) = true from hL') (by decide)
    have hlt : letter (t.r : Int) = true := by unfold tokI at hL'; rw [valid_not_broken hv] at hL'; exact hL'
    have hM1 : isM (tokI t) = false := by
      cases e : isM (tokI t) with
      | false => rfl
      | true => have := mrk_not_letter (show mrk (tokI t).Rune = true from e); rw [hL'] at this; cases this
    have hM2 : isM (⟨b, Utf8.encode b, (tokI t).At⟩ : Itm) = false := by
      cases e : isM (⟨b, Utf8.encode b, (tokI t).At⟩ : Itm) with
      | false => rfl
      | true => have := mrk_not_letter (show mrk b = true from e); rw [hb] at this; cases this
    have hmm : ∀ m ∈ ms.map (fun r => (⟨r, Utf8.encode r, (tokI t).At⟩ : Itm)), isM m = true := fun m hm => by
      obtain ⟨r, hr, rfl⟩ := List.mem_map.1 hm; exact hms r hr
    exact ⟨⟨b, Utf8.encode b, (tokI t).At⟩, ms.map fun r => ⟨r, Utf8.encode r, (tokI t).At⟩, by unfold apI; rw [hL, hq]; rfl, .inl ⟨hb, by simp, fun u hu => by simp at hu; subst hu; exact ⟨hv, .inl hlt⟩, hmm, hn⟩, hmm,
      (fun e => by rw [show isL (⟨b, Utf8.encode b, (tokI t).At⟩ : Itm) = true from hb] at e; cases e), by rw [hM1, hM2]⟩
theorem groupsF : ∀ (ts gs : List Tok) (c : Itm × List Itm), (∀ t ∈ ts, okTok t) → grpOk (gs, c) → ∃ G : List (List Tok × (Itm × List Itm)), gs ++ ts = G.flatMap (·.1) ∧ clF (some c) (apL (ts.map tokI)) = G.map (·.2) ∧ ∀ g ∈ G, grpOk g
  | [], gs, c, _, hc => ⟨[(gs, c)], by simp, by simp [apL, clF], by simpa using hc⟩
  | t :: ts, gs, c, hok, hc => by
    have ht := hok t (List.mem_cons_self ..)
    have hts := fun u hu => hok u (List.mem_cons_of_mem _ hu)
    have hap : apL ((t :: ts).map tokI) = apI (tokI t) ++ apL (ts.map tokI) := by unfold apL; rw [List.map_cons, List.flatMap_cons]
    obtain ⟨x, ms, h1, h2, h3, h4, h5⟩ := apI_tok ht
    rw [hap]
    cases hk : (isL c.1 && isM (tokI t)) with
    | true =>
      rw [Bool.and_eq_true] at hk
      have hL : isL (tokI t) = false := mrk_not_letter (show mrk (tokI t).Rune = true from hk.2)
      have ha : apI (tokI t) = [tokI t] := by unfold apI; rw [hL]; rfl
      obtain ⟨hv, hm⟩ := tok_mark ht hk.2
      have hc' : grpOk (gs ++ [t], (c.1, c.2 ++ [tokI t])) := by
        rcases hc with ⟨g1, g2, g3, g4, g5⟩ | ⟨g1, _⟩
        · refine .inl ⟨g1, by simp, fun u hu => ?_, fun m hm2 => ?_, g5⟩
          · rcases List.mem_append.1 hu with hu | hu
            · exact g3 u hu
            · simp at hu; subst hu; exact ⟨hv, .inr hm⟩
          · rcases List.mem_append.1 hm2 with hm2 | hm2
            · exact g4 m hm2
            · simp at hm2; subst hm2; exact hk.2
        · rw [hk.1] at g1; cases g1
      obtain ⟨G, e1, e2, e3⟩ := groupsF ts (gs ++ [t]) (c.1, c.2 ++ [tokI t]) hts hc'
      refine ⟨G, by rw [← e1]; simp, ?_, e3⟩
      rw [ha, ← e2, List.singleton_append]
      show (if isL c.1 && isM (tokI t) then clF (some (c.1, c.2 ++ [tokI t])) (apL (ts.map tokI)) else _) = _
      rw [hk.1, hk.2]; rfl
    | false =>
      obtain ⟨G, e1, e2, e3⟩ := groupsF ts [t] (x, ms) hts h2
      refine ⟨(gs, c) :: G, by rw [List.flatMap_cons, ← e1]; simp, ?_, fun g hg => ?_⟩
      · rw [h1, List.cons_append, List.map_cons, ← e2]
        show (if isL c.1 && isM x then _ else c :: clF (some (x, [])) (ms ++ apL (ts.map tokI))) = _
        rw [h5, hk]
        have h6 : clF (some (x, [])) (ms ++ apL (ts.map tokI)) = clF (some (x, ms)) (apL (ts.map tokI)) := by
          cases hx : isL x with
          | true => rw [clF_marks x hx _ ms [] h3]; rfl
          | false => rw [h4 hx]; rfl
        rw [← h6]; rfl
      · rcases List.mem_cons.1 hg with rfl | hg
        · exact hc
        · exact e3 g hg
theorem groups (ts : List Tok) (hok : ∀ t ∈ ts, okTok t) : ∃ G : List (List Tok × (Itm × List Itm)), ts = G.flatMap (·.1) ∧ clT ts = G.map (·.2) ∧ ∀ g ∈ G, grpOk g := by
  cases ts with
  | nil => exact ⟨[], rfl, rfl, by simp⟩
  | cons t ts =>
    obtain ⟨x, ms, h1, h2, h3, h4, h5⟩ := apI_tok (hok t (List.mem_cons_self ..))
    obtain ⟨G, e1, e2, e3⟩ := groupsF ts [t] (x, ms) (fun u hu => hok u (List.mem_cons_of_mem _ hu)) h2
    refine ⟨G, by rw [← e1]; rfl, ?_, e3⟩
    unfold clT
    have hap : apL ((t :: ts).map tokI) = apI (tokI t) ++ apL (ts.map tokI) := by unfold apL; rw [List.map_cons, List.flatMap_cons]
    rw [hap, h1, ← e2]
    show clF (some (x, [])) (ms ++ apL (ts.map tokI)) = _
    cases hx : isL x with
    | true => rw [clF_marks x hx _ ms [] h3]; rfl
    | false => rw [h4 hx]; rfl
/-- How a form lays out a cluster. -/
structure OutOk (out : Itm × List Itm → List Tok) : Prop where
  other : ∀ x, isL x = false → out (x, []) = [itT x]
  ne : ∀ c, isL c.1 = true → out c ≠ []
  val : ∀ c, isL c.1 = true → getM c.1.Rune tabS = none → (∀ m ∈ c.2, isM m = true) → ∀ t ∈ out c, t.valid ∧ LM t
theorem out_sub {out : Itm × List Itm → List Tok} (ho : OutOk out) : ∀ (G : List (List Tok × (Itm × List Itm))), (∀ g ∈ G, grpOk g) → Sub (G.flatMap (·.1)) ((G.map (·.2)).flatMap out)
  | [], _ => Sub.nil
  | g :: G, h => by
    have ih := out_sub ho G (fun x hx => h x (List.mem_cons_of_mem _ hx))
    rw [List.flatMap_cons, List.map_cons, List.flatMap_cons]
    rcases h g (List.mem_cons_self ..) with ⟨g1, g2, g3, g4, g5⟩ | ⟨g1, g2, t, g3, g4, g5⟩
    · exact Sub.val g2 (ho.ne _ g1) (fun t ht => (g3 t ht).1) (fun t ht => (ho.val _ g1 g5 g4 t ht).1) ih
    · have e : out g.2 = [t] := by
        rw [show g.2 = (g.2.1, []) from Prod.ext rfl g2, ho.other _ g1, g5, itT_tok g4]
      rw [g3, e]
      rcases g4 with g4 | g4
      · exact Sub.one g4 (by simp) (by simpa using g4) ih
      · exact Sub.brk g4 ih
/-- The tokens of a form. -/
theorem out_toks {out : Itm × List Itm → List Tok} (ho : OutOk out) {s x : ByteArray} (hx : x.data.toList = flat ((clT (toks s.data.toList)).flatMap out)) : toks x.data.toList = (clT (toks s.data.toList)).flatMap out := by
  obtain ⟨G, e1, e2, e3⟩ := groups (toks s.data.toList) (toks_ok _)
  rw [hx, e2]
  have := (out_sub ho G e3).good (by rw [← e1]; exact good_toks _)
  exact this
end Go.Proofs.Ytlamcpgnmeileaa
namespace Go.Proofs.Ytlamcpgnmeileaa
open Go.RowKit Go.Lib
set_option linter.unusedVariables false
set_option linter.unusedSimpArgs false
theorem apI_item (x : Itm) : ∃ y ms, apI x = y :: ms ∧ (∀ m ∈ ms, isM m = true) ∧ (isL y = false → ms = []) ∧ isM y = isM x ∧ y.At = x.At ∧ isL y = isL x := by
  cases hL : isL x with
  | false => exact ⟨x, [], by unfold apI; rw [hL]; rfl, by simp, fun _ => rfl, rfl, rfl, hL⟩
  | true =>
    obtain ⟨b, ms, hq, hb, hn, hms, _⟩ := parts_shape (show letter x.Rune = true from hL)
    have hM1 : isM x = false := by
      cases e : isM x with
      | false => rfl
      | true => have := mrk_not_letter (show mrk x.Rune = true from e); rw [show letter x.Rune = true from hL] at this; cases this
    have hM2 : isM (⟨b, Utf8.encode b, x.At⟩ : Itm) = false := by
      cases e : isM (⟨b, Utf8.encode b, x.At⟩ : Itm) with
      | false => rfl
      | true => have := mrk_not_letter (show mrk b = true from e); rw [hb] at this; cases this
    refine ⟨⟨b, Utf8.encode b, x.At⟩, ms.map fun r => ⟨r, Utf8.encode r, x.At⟩, by unfold apI; rw [hL, hq]; rfl, fun m hm => ?_, (fun e => by rw [show isL (⟨b, Utf8.encode b, x.At⟩ : Itm) = true from hb] at e; cases e), by rw [hM1, hM2], rfl, hb⟩
    obtain ⟨r, hr, rfl⟩ := List.mem_map.1 hm; exact hms r hr
theorem clF_own (y : Itm) (ms xs : List Itm) (h3 : ∀ m ∈ ms, isM m = true) (h4 : isL y = false → ms = []) : clF (some (y, [])) (ms ++ xs) = clF (some (y, ms)) xs := by
  cases hx : isL y with
  | true => rw [clF_marks y hx _ ms [] h3]; rfl
  | false => rw [h4 hx]; rfl
end Go.Proofs.Ytlamcpgnmeileaa
namespace Go.Proofs.Ytlamcpgnmeileaa
open Go.RowKit Go.Lib
set_option linter.unusedVariables false
set_option linter.unusedSimpArgs false
/-- A form that lays runes out for a letter and its marks. -/
def mkO (g : Itm × List Itm → List Int) (c : Itm × List Itm) : List Tok := if isL c.1 then (g c).map tokR else [itT c.1]
theorem strOf_flat (rs : List Int) : (strOf rs).data.toList = flat (rs.map tokR) := by
  rw [strOf_J]
  induction rs with
  | nil => rfl
  | cons r rs ih =>
    rw [J_cons, List.map_cons, flat_cons, ← ih]
    have : (Utf8.encode r).data.toList = encodeRune r := encode_list r
    show (Utf8.encode r ++ J Utf8.encode rs).data.toList = encodeRune r ++ _
    rw [← this]; simp
theorem letter_vr {r : Int} (h : letter r = true) : vr r := by have := letter_rng r h; unfold vr; omega
theorem mrk_vr {r : Int} (h : mrk r = true) : vr r := by unfold mrk at h; simp at h; unfold vr; omega
theorem tokR_LM {r : Int} (h : letter r = true ∨ mrk r = true) : (tokR r).valid ∧ LM (tokR r) := by
  have hv : vr r := by rcases h with h | h; exact letter_vr h; exact mrk_vr h
  refine ⟨tokR_valid hv, ?_⟩
  unfold LM
  have : (((tokR r).r : Nat) : Int) = r := by show ((r.toNat : Nat) : Int) = r; unfold vr at hv; omega
  rw [this]; exact h
theorem mkO_ok {g : Itm × List Itm → List Int} (h0 : ∀ c, isL c.1 = true → g c ≠ []) (h : ∀ c, isL c.1 = true → getM c.1.Rune tabS = none → (∀ m ∈ c.2, isM m = true) → ∀ r ∈ g c, letter r = true ∨ mrk r = true) : OutOk (mkO g) where
  other x hx := by unfold mkO; rw [hx]; rfl
  ne c hc := by unfold mkO; rw [hc]; simpa using h0 c hc
  val c hc hn hm t ht := by
    unfold mkO at ht; rw [hc] at ht
    obtain ⟨r, hr, rfl⟩ := List.mem_map.1 (show t ∈ (g c).map tokR from ht)
    exact tokR_LM (h c hc hn hm r hr)
theorem flat_J (f : Itm × List Itm → ByteArray) (out : Itm × List Itm → List Tok) : ∀ l : List (Itm × List Itm), (∀ c ∈ l, (f c).data.toList = flat (out c)) → (J f l).data.toList = flat (l.flatMap out)
  | [], _ => rfl
  | c :: l, h => by
    rw [J_cons, List.flatMap_cons, flat_append, ← flat_J f out l (fun d hd => h d (List.mem_cons_of_mem _ hd)), ← h c (List.mem_cons_self ..)]
    simp
theorem okT_strip {x : Itm} (h : okT x) : okT (strip x) := h
/-- The bytes of a form. -/
theorem form_bytes {f : Itm × List Itm → ByteArray} {g : Itm × List Itm → List Int} (hf : ∀ c, f (stripC c) = f c)
    (h1 : ∀ c, isL c.1 = true → okT c.1 → (∀ m ∈ c.2, isM m = true ∧ okT m) → f c = strOf (g c)) (h2 : ∀ c, isL c.1 = false → c.2 = [] → f c = c.1.Text)
    (s : ByteArray) (hs : s.size ≤ 65536) : (J f (clus s)).data.toList = flat ((clT (toks s.data.toList)).flatMap (mkO g)) := by
  have e : J f (clus s) = J f (clT (toks s.data.toList)) := by
    rw [← clus_strip, J_map]; exact J_congr fun c _ => (hf c).symm
  rw [e]
  refine flat_J f _ _ fun c hc => ?_
  rw [← clus_strip] at hc
  obtain ⟨d, hd, rfl⟩ := List.mem_map.1 hc
  obtain ⟨o1, o2, o3, _⟩ := (clus_ok hs).2 d hd
  unfold mkO
  cases hL : isL (stripC d).1 with
  | true =>
    rw [h1 _ hL (okT_strip o1) (fun m hm => by obtain ⟨y, hy, rfl⟩ := List.mem_map.1 (show m ∈ d.2.map strip from hm); exact ⟨(o2 y hy).1, okT_strip (o2 y hy).2⟩), strOf_flat]; rfl
  | false =>
    rw [h2 _ hL (by show d.2.map strip = []; rw [o3 hL]; rfl)]
    show _ = flat [itT (stripC d).1]
    simp [flat, itT]
/-! ### Apart, bare -/
def gA (c : Itm × List Itm) : List Int := (ordC c).map (·.Rune)
def gB (c : Itm × List Itm) : List Int := [c.1.Rune]
def gT (c : Itm × List Itm) : List Int := let hi := (hiI c.2).map (·.Rune); let lo := (loI c.2).map (·.Rune)
  (hi.foldl tgS ((lo.foldl tgS (c.1.Rune, [], true)).1, (lo.foldl tgS (c.1.Rune, [], true)).2.1, true)).1 :: (hi.foldl tgS ((lo.foldl tgS (c.1.Rune, [], true)).1, (lo.foldl tgS (c.1.Rune, [], true)).2.1, true)).2.1
def gF (c : Itm × List Itm) : List Int := runesOf (plainR (lower c.1.Rune))
theorem mem_ord {c : Itm × List Itm} {x : Itm} (h : x ∈ ordC c) : x = c.1 ∨ x ∈ c.2 := by
  unfold ordC at h
  rcases List.mem_cons.1 h with h | h
  · exact .inl h
  · unfold loI hiI at h
    rw [List.mem_append, List.mem_filter, List.mem_filter] at h
    exact .inr (by rcases h with h | h <;> exact h.1)
theorem gA_ok : OutOk (mkO gA) := mkO_ok (fun c _ => by unfold gA ordC; simp) (fun c hc hn hm r hr => by
  unfold gA at hr
  obtain ⟨x, hx, rfl⟩ := List.mem_map.1 hr
  rcases mem_ord hx with rfl | hx
  · exact .inl hc
  · exact .inr (hm x hx))
theorem gB_ok : OutOk (mkO gB) := mkO_ok (fun c _ => by unfold gB; simp) (fun c hc hn hm r hr => by
  unfold gB at hr; simp at hr; subst hr; exact .inl hc)
theorem letter_text {x : Itm} (h : okT x) (hL : isL x = true) : x.Text = Utf8.encode x.Rune := by
  rcases h.2 with ⟨h1, _⟩ | ⟨_, h1⟩
  · have := (letter_rng _ hL).1; omega
  · exact h1
theorem apartS_bytes (s : ByteArray) (hs : s.size ≤ 65536) : (apartS s).data.toList = flat ((clT (toks s.data.toList)).flatMap (mkO gA)) := by
  refine form_bytes apartC_strip (fun c hL h1 h2 => ?_) (fun c hL h2 => ?_) s hs
  · unfold apartC gA
    rw [strOf_J, J_map]
    refine J_congr fun x hx => ?_
    rcases mem_ord hx with rfl | hx
    · exact letter_text h1 hL
    · exact mark_text (h2 x hx).2 (h2 x hx).1
  · unfold apartC ordC loI hiI; rw [h2]; rw [J_cons]; simp [J_nil]
theorem bareS_bytes (s : ByteArray) (hs : s.size ≤ 65536) : (bareS s).data.toList = flat ((clT (toks s.data.toList)).flatMap (mkO gB)) := by
  refine form_bytes (fun c => rfl) (fun c hL h1 h2 => ?_) (fun c hL h2 => rfl) s hs
  unfold gB
  rw [strOf_J, J_cons, J_nil, ByteArray.append_empty]; exact letter_text h1 hL
/-! ### Together -/
theorem strOf_cons' (x : Int) (l : List Int) : strOf (x :: l) = Utf8.encode x ++ strOf l := by rw [strOf_J, strOf_J, J_cons]
theorem tgS_letter {a : Int × List Int × Bool} {m : Int} (h : letter a.1 = true ∧ ∀ x ∈ a.2.1, mrk x = true) (hm : mrk m = true) : letter (tgS a m).1 = true ∧ ∀ x ∈ (tgS a m).2.1, mrk x = true := by
  have app : ∀ x ∈ a.2.1 ++ [m], mrk x = true := fun x hx => by
    rcases List.mem_append.1 hx with hx | hx
    · exact h.2 x hx
    · simp at hx; subst hx; exact hm
  unfold tgS
  split
  · rename_i j hj
    split
    · exact ⟨(joined_rng hj).2.2, h.2⟩
    · exact ⟨h.1, app⟩
  · exact ⟨h.1, app⟩
theorem tgS_letters : ∀ (ms : List Int) (a : Int × List Int × Bool), (letter a.1 = true ∧ ∀ x ∈ a.2.1, mrk x = true) → (∀ m ∈ ms, mrk m = true) → letter (ms.foldl tgS a).1 = true ∧ ∀ x ∈ (ms.foldl tgS a).2.1, mrk x = true
  | [], a, h, _ => h
  | m :: ms, a, h, hm => tgS_letters ms _ (tgS_letter h (hm m (List.mem_cons_self ..))) (fun x hx => hm x (List.mem_cons_of_mem _ hx))
theorem lohi_mem {c : Itm × List Itm} (hm : ∀ m ∈ c.2, isM m = true) : (∀ m ∈ (loI c.2).map (·.Rune), mrk m = true) ∧ ∀ m ∈ (hiI c.2).map (·.Rune), mrk m = true := by
  constructor <;> intro m h <;> obtain ⟨x, hx, rfl⟩ := List.mem_map.1 h
  · unfold loI at hx; rw [List.mem_filter] at hx; exact hm x hx.1
  · unfold hiI at hx; rw [List.mem_filter] at hx; exact hm x hx.1
theorem gT_all {c : Itm × List Itm} (hL : isL c.1 = true) (hm : ∀ m ∈ c.2, isM m = true) : ∃ j st, gT c = j :: st ∧ letter j = true ∧ ∀ x ∈ st, mrk x = true := by
  obtain ⟨h1, h2⟩ := lohi_mem hm
  have a := tgS_letters _ (c.1.Rune, [], true) ⟨hL, by simp⟩ h1
  have b := tgS_letters _ (((loI c.2).map (·.Rune)).foldl tgS (c.1.Rune, [], true) |>.1, (((loI c.2).map (·.Rune)).foldl tgS (c.1.Rune, [], true)).2.1, true) a h2
  exact ⟨_, _, rfl, b.1, b.2⟩
theorem gT_ok : OutOk (mkO gT) := mkO_ok (fun c _ => by unfold gT; simp) (fun c hc hn hm r hr => by
  obtain ⟨j, st, e, h1, h2⟩ := gT_all hc hm
  rw [e] at hr
  rcases List.mem_cons.1 hr with rfl | hr
  · exact .inl h1
  · exact .inr (h2 r hr))
theorem togS_bytes (s : ByteArray) (hs : s.size ≤ 65536) : (togS s).data.toList = flat ((clT (toks s.data.toList)).flatMap (mkO gT)) := by
  refine form_bytes tgC_strip (fun c hL h1 h2 => ?_) (fun c hL h2 => ?_) s hs
  · unfold tgC tgU
    rw [hL]
    exact (strOf_cons' _ _).symm
  · unfold tgC; rw [hL]; rfl
/-! ### Fold -/
def foldLet (r : Int) : Bool := !letter r || (decide (plainR (lower r) = strOf (runesOf (plainR (lower r)))) && !(runesOf (plainR (lower r))).isEmpty &&
  ((getM r tabS).isSome || (runesOf (plainR (lower r))).all fun x => letter x && !great x && (getM x tabS).isNone && decide (plainR x = Utf8.encode x) && decide (lower x = x)))
set_option maxRecDepth 100000 in
theorem foldLets : ((List.range 1120).all fun n => foldLet (n : Int)) = true := by decide +kernel
theorem foldLet_of {r : Int} (h : letter r = true) : plainR (lower r) = strOf (runesOf (plainR (lower r))) ∧ runesOf (plainR (lower r)) ≠ [] ∧ (getM r tabS = none → ∀ x ∈ runesOf (plainR (lower r)), letter x = true ∧ great x = false ∧ getM x tabS = none ∧ plainR x = Utf8.encode x ∧ lower x = x) := by
  have hr := letter_rng r h
  have := List.all_eq_true.1 foldLets r.toNat (List.mem_range.2 (by omega))
  rw [show ((r.toNat : Nat) : Int) = r by omega] at this
  unfold foldLet at this
  rw [h] at this
  simp only [Bool.not_true, Bool.false_or, Bool.and_eq_true, decide_eq_true_eq, Bool.or_eq_true] at this
  obtain ⟨⟨h1, h2⟩, h3⟩ := this
  refine ⟨h1, ?_, fun hn x hx => ?_⟩
  · intro e; rw [e] at h2; cases h2
  · rw [hn] at h3
    rcases h3 with h3 | h3
    · cases h3
    · have := List.all_eq_true.1 h3 x hx
      simp only [Bool.and_eq_true, decide_eq_true_eq, Bool.not_eq_true', Option.isNone_iff_eq_none] at this
      obtain ⟨⟨⟨⟨a, b⟩, c⟩, d⟩, e⟩ := this
      exact ⟨a, b, c, d, e⟩
theorem gF_ok : OutOk (mkO gF) := mkO_ok (fun c hc => (foldLet_of hc).2.1) (fun c hc hn hm r hr => .inl ((foldLet_of hc).2.2 hn r hr).1)
theorem foldS_bytes (s : ByteArray) (hs : s.size ≤ 65536) : (foldS s).data.toList = flat ((clT (toks s.data.toList)).flatMap (mkO gF)) := by
  refine form_bytes foldC_strip (fun c hL h1 h2 => ?_) (fun c hL h2 => ?_) s hs
  · unfold foldC foldI gF
    rw [hL]; exact (foldLet_of hL).1
  · unfold foldC foldI; rw [hL]; rfl
end Go.Proofs.Ytlamcpgnmeileaa
namespace Go.Proofs.Ytlamcpgnmeileaa
open Go.RowKit Go.Lib
set_option linter.unusedVariables false
set_option linter.unusedSimpArgs false
/-! ### What stands beside what -/
def adjC : Bool → List (Itm × List Itm) → Prop
  | _, [] => True
  | p, c :: cs => (p = true → isM c.1 = false) ∧ adjC (isL c.1) cs
theorem clF_adjC : ∀ (xs : List Itm) (c : Itm × List Itm) (p : Bool), (p = true → isM c.1 = false) → adjC p (clF (some c) xs)
  | [], c, p, h => ⟨h, trivial⟩
  | x :: xs, c, p, h => by
    show adjC p (if isL c.1 && isM x then clF (some (c.1, c.2 ++ [x])) xs else c :: clF (some (x, [])) xs)
    cases e : (isL c.1 && isM x) with
    | true => exact clF_adjC xs (c.1, c.2 ++ [x]) p h
    | false => exact ⟨h, clF_adjC xs (x, []) (isL c.1) (fun hL => by rw [hL] at e; exact e)⟩
theorem cl_adjC (xs : List Itm) : adjC false (cl xs) := by
  cases xs with
  | nil => trivial
  | cons x xs => exact clF_adjC xs (x, []) false (fun h => by cases h)
def clOk (c : Itm × List Itm) : Prop := (isL c.1 = true ∧ (∀ m ∈ c.2, isM m = true) ∧ getM c.1.Rune tabS = none) ∨ (isL c.1 = false ∧ c.2 = [] ∧ ∃ t, okTok t ∧ c.1 = tokI t)
theorem clT_clOk {ts : List Tok} (hok : ∀ t ∈ ts, okTok t) : ∀ c ∈ clT ts, clOk c := by
  obtain ⟨G, e1, e2, e3⟩ := groups ts hok
  intro c hc
  rw [e2] at hc
  obtain ⟨g, hg, rfl⟩ := List.mem_map.1 hc
  rcases e3 g hg with ⟨g1, g2, g3, g4, g5⟩ | ⟨g1, g2, t, g3, g4, g5⟩
  · exact .inl ⟨g1, g4, g5⟩
  · exact .inr ⟨g1, g2, t, g4, g5⟩
theorem apL_cons (x : Itm) (xs : List Itm) : apL (x :: xs) = apI x ++ apL xs := by unfold apL; rw [List.flatMap_cons]
theorem clT_other {t : Tok} (h : isL (tokI t) = false) (ts : List Tok) : clT (t :: ts) = (tokI t, []) :: clT ts := by
  unfold clT
  rw [List.map_cons, apL_cons, show apI (tokI t) = [tokI t] by unfold apI; rw [h]; rfl]
  exact cl_other h _
theorem clT_flat {out : Itm × List Itm → List Tok} (ho : OutOk out) (hh : ∀ c, isL c.1 = true → getM c.1.Rune tabS = none → (∀ m ∈ c.2, isM m = true) → ∀ t, (out c).head? = some t → mrk (tokI t).Rune = false) :
    ∀ (cs : List (Itm × List Itm)) (p : Bool), (∀ c ∈ cs, clOk c) → adjC p cs → clT (cs.flatMap out) = cs.flatMap (fun c => clT (out c))
  | [], _, _, _ => rfl
  | c :: cs, p, hc, ha => by
    have ih := clT_flat ho hh cs (isL c.1) (fun d hd => hc d (List.mem_cons_of_mem _ hd)) ha.2
    rw [List.flatMap_cons, List.flatMap_cons, ← ih]
    rcases hc c (List.mem_cons_self ..) with ⟨g1, g2, g3⟩ | ⟨g1, g2, t, g3, g4⟩
    · refine clT_append _ _ fun t ht => ?_
      cases cs with
      | nil => cases ht
      | cons c' cs =>
        have ha' := ha.2.1 g1
        rw [List.flatMap_cons] at ht
        rcases hc c' (List.mem_cons_of_mem _ (List.mem_cons_self ..)) with ⟨k1, k2, k3⟩ | ⟨k1, k2, u, k3, k4⟩
        · obtain ⟨v, vs, hv⟩ := List.exists_cons_of_ne_nil (ho.ne c' k1)
          rw [hv] at ht
          exact hh c' k1 k3 k2 t (by rw [hv]; exact ht)
        · have e : out c' = [u] := by rw [show c' = (c'.1, []) from Prod.ext rfl k2, ho.other _ k1, k4, itT_tok k3]
          rw [e] at ht
          have : u = t := Option.some.inj ht
          subst this
          rw [← k4]; exact ha'
    · have e : out c = [t] := by rw [show c = (c.1, []) from Prod.ext rfl g2, ho.other _ g1, g4, itT_tok g3]
      have hL : isL (tokI t) = false := by rw [← g4]; exact g1
      rw [e, List.singleton_append, clT_other hL, clT_other hL]; rfl
/-- A form of a form. -/
theorem form_form {out : Itm × List Itm → List Tok} (ho : OutOk out) (hh : ∀ c, isL c.1 = true → getM c.1.Rune tabS = none → (∀ m ∈ c.2, isM m = true) → ∀ t, (out c).head? = some t → mrk (tokI t).Rune = false)
    {f g : Itm × List Itm → ByteArray} (hf : ∀ c, f (stripC c) = f c) (hg : ∀ c, g (stripC c) = g c) {s x : ByteArray} (hs : s.size ≤ 65536) (hx : x.data.toList = flat ((clT (toks s.data.toList)).flatMap out))
    (hL : ∀ c, isL c.1 = true → (∀ m ∈ c.2, isM m = true ∧ okT m) → getM c.1.Rune tabS = none → okT c.1 → J f (clT (out c)) = g c)
    (hN : ∀ y, isL y = false → f (y, []) = g (y, [])) : J f (clus x) = J g (clus s) := by
  have e : ∀ (h : Itm × List Itm → ByteArray) (u : ByteArray), (∀ c, h (stripC c) = h c) → J h (clus u) = J h (clT (toks u.data.toList)) := fun h u hh => by
    rw [← clus_strip, J_map]; exact J_congr fun c _ => (hh c).symm
  rw [e f x hf, e g s hg, out_toks ho hx]
  have hadj : adjC false (clT (toks s.data.toList)) := cl_adjC _
  have hcl := clT_clOk (toks_ok s.data.toList)
  rw [clT_flat ho hh _ false hcl hadj, J_flat]
  refine J_congr fun c hc => ?_
  rcases hcl c hc with ⟨g1, g2, g3⟩ | ⟨g1, g2, t, g3, g4⟩
  · rw [← clus_strip] at hc
    obtain ⟨d, hd, rfl⟩ := List.mem_map.1 hc
    obtain ⟨o1, o2, o3, _⟩ := (clus_ok hs).2 d hd
    exact hL _ g1 (fun m hm => by obtain ⟨y, hy, rfl⟩ := List.mem_map.1 (show m ∈ d.2.map strip from hm); exact ⟨(o2 y hy).1, okT_strip (o2 y hy).2⟩) g3 (okT_strip o1)
  · have ec : c = (c.1, []) := Prod.ext rfl g2
    have e1 : out c = [t] := by rw [ec, ho.other _ g1, g4, itT_tok g3]
    have hLt : isL (tokI t) = false := by rw [← g4]; exact g1
    rw [e1, clT_other hLt]
    show J f [(tokI t, [])] = g c
    rw [J_cons, J_nil, ByteArray.append_empty, ← g4, hN _ g1, ← ec]
/-! ### A letter and its marks, as runes -/
theorem mrk_letter {r : Int} (h : letter r = true) : mrk r = false := by
  cases e : mrk r with
  | false => rfl
  | true => have := mrk_not_letter e; rw [h] at this; cases this
theorem tokR_mk {r : Int} (h : vr r) : tokI (tokR r) = mkI r := by
  rw [tokI_valid (tokR_valid h)]
  show mkI ((r.toNat : Nat) : Int) = mkI r
  rw [show ((r.toNat : Nat) : Int) = r by unfold vr at h; omega]
theorem tokR_row {rs : List Int} (h : ∀ r ∈ rs, vr r) : (rs.map tokR).map tokI = rs.map mkI := by
  rw [List.map_map]
  exact List.map_congr_left fun r hr => tokR_mk (h r hr)
theorem marks_parts : ∀ {st : List Int}, (∀ m ∈ st, mrk m = true) → st.flatMap parts = st
  | [], _ => rfl
  | m :: st, h => by
    rw [List.flatMap_cons, parts_other (mrk_not_letter (h m (List.mem_cons_self ..))), marks_parts fun x hx => h x (List.mem_cons_of_mem _ hx)]; rfl
theorem tw_all {α : Type} {p : α → Bool} : ∀ {l : List α}, (∀ x ∈ l, p x = true) → l.takeWhile p = l
  | [], _ => rfl
  | x :: l, h => by rw [List.takeWhile_cons, if_pos (h x (List.mem_cons_self ..)), tw_all fun y hy => h y (List.mem_cons_of_mem _ hy)]
theorem dw_all {α : Type} {p : α → Bool} : ∀ {l : List α}, (∀ x ∈ l, p x = true) → l.dropWhile p = []
  | [], _ => rfl
  | x :: l, h => by rw [List.dropWhile_cons, if_pos (h x (List.mem_cons_self ..)), dw_all fun y hy => h y (List.mem_cons_of_mem _ hy)]
theorem clT_lm {j b : Int} {st ms : List Int} (hj : letter j = true) (hst : ∀ m ∈ st, mrk m = true) (hp : parts j = b :: ms) : clT ((j :: st).map tokR) = [(mkI b, (ms ++ st).map mkI)] := by
  unfold clT
  rw [tokR_row (fun r hr => by
    rcases List.mem_cons.1 hr with rfl | hr
    · exact letter_vr hj
    · exact mrk_vr (hst r hr)), apL_mk, List.flatMap_cons, hp, marks_parts hst]
  obtain ⟨b', ms', hq, hb, hn, hms, _⟩ := parts_shape hj
  rw [hp] at hq
  obtain ⟨rfl, rfl⟩ := List.cons.inj hq
  rw [List.cons_append, List.map_cons, cl_letter (show isL (mkI b) = true from hb)]
  have hall : ∀ x ∈ (ms ++ st).map mkI, isM x = true := fun x hx => by
    obtain ⟨r, hr, rfl⟩ := List.mem_map.1 hx
    show mrk r = true
    rcases List.mem_append.1 hr with hr | hr
    · exact hms r hr
    · exact hst r hr
  have h1 : ((ms ++ st).map mkI).takeWhile isM = (ms ++ st).map mkI := tw_all hall
  have h2 : ((ms ++ st).map mkI).dropWhile isM = [] := dw_all hall
  rw [h1, h2, cl_nil]
/-- A letter's low marks, and its others. -/
def kLo (c : Itm × List Itm) : List Int := (loI c.2).map (·.Rune)
def kHi (c : Itm × List Itm) : List Int := (hiI c.2).map (·.Rune)
theorem kLo_mk (b : Int) (ks : List Int) : kLo (mkI b, ks.map mkI) = ks.filter lowR ∧ kHi (mkI b, ks.map mkI) = ks.filter (fun r => !lowR r) := by
  unfold kLo kHi loI hiI
  constructor
  · induction ks with
    | nil => rfl
    | cons k ks ih =>
      rw [List.map_cons, List.filter_cons, List.filter_cons, show isLo (mkI k) = lowR k from rfl]
      split
      · rw [List.map_cons]; exact congrArg _ ih
      · exact ih
  · induction ks with
    | nil => rfl
    | cons k ks ih =>
      rw [List.map_cons, List.filter_cons, List.filter_cons, show isLo (mkI k) = lowR k from rfl]
      split
      · rw [List.map_cons]; exact congrArg _ ih
      · exact ih
theorem kLo_low (c : Itm × List Itm) : (∀ x ∈ kLo c, lowR x = true) ∧ ∀ x ∈ kHi c, lowR x = false := by
  unfold kLo kHi loI hiI
  constructor
  · intro x hx
    obtain ⟨y, hy, rfl⟩ := List.mem_map.1 hx
    rw [List.mem_filter] at hy; exact hy.2
  · intro x hx
    obtain ⟨y, hy, rfl⟩ := List.mem_map.1 hx
    rw [List.mem_filter] at hy
    simpa [isLo] using hy.2
theorem gA_key (c : Itm × List Itm) : gA c = c.1.Rune :: (kLo c ++ kHi c) := by unfold gA ordC kLo kHi; simp
/-- The key of a cluster. -/
def SameKey (c d : Itm × List Itm) : Prop := c.1.Rune = d.1.Rune ∧ kLo c = kLo d ∧ kHi c = kHi d
theorem gT_key {c d : Itm × List Itm} (h : SameKey c d) : gT c = gT d := by
  obtain ⟨h1, h2, h3⟩ := h
  unfold kLo at h2; unfold kHi at h3
  unfold gT; rw [h1, h2, h3]
theorem gA_key2 {c d : Itm × List Itm} (h : SameKey c d) : gA c = gA d := by
  obtain ⟨h1, h2, h3⟩ := h
  rw [gA_key, gA_key, h1, h2, h3]
/-! ### What is put together -/
set_option maxRecDepth 100000 in
theorem join_all : (tabP.all fun p => decide (parts p.2 = parts p.1.e0 ++ [p.1.e1])) = true := by decide +kernel
theorem join_parts {b m j : Int} (h : joined b m = some j) : parts j = parts b ++ [m] := by
  unfold joined at h
  have := List.all_eq_true.1 join_all _ (getM_mem h)
  simpa using this
theorem tg_stay : ∀ (l : List Int) (b : Int) (st : List Int), l.foldl tgS (b, st, false) = (b, st ++ l, false)
  | [], b, st => by simp
  | m :: l, b, st => by
    have : tgS (b, st, false) m = (b, st ++ [m], false) := by unfold tgS; split <;> rfl
    rw [List.foldl_cons, this, tg_stay l]; simp
theorem tg_free : ∀ (l : List Int) (b : Int) (st : List Int), ∃ La Ls, l = La ++ Ls ∧ (l.foldl tgS (b, st, true)).2.1 = st ++ Ls ∧ parts (l.foldl tgS (b, st, true)).1 = parts b ++ La
  | [], b, st => ⟨[], [], rfl, by simp, by simp⟩
  | m :: l, b, st => by
    rw [List.foldl_cons]
    cases h : joined b m with
    | some j =>
      have e : tgS (b, st, true) m = (j, st, true) := by unfold tgS; rw [h]; rfl
      rw [e]
      obtain ⟨La, Ls, h1, h2, h3⟩ := tg_free l j st
      exact ⟨m :: La, Ls, by rw [h1]; rfl, h2, by rw [h3, join_parts h]; simp⟩
    | none =>
      have e : tgS (b, st, true) m = (b, st ++ [m], false) := by unfold tgS; rw [h]
      rw [e, tg_stay]
      exact ⟨[], m :: l, rfl, by simp, by simp⟩
theorem gT_split {c : Itm × List Itm} (hn : getM c.1.Rune tabS = none) : ∃ j La Ls Ha Hs, gT c = j :: (Ls ++ Hs) ∧ kLo c = La ++ Ls ∧ kHi c = Ha ++ Hs ∧ parts j = c.1.Rune :: (La ++ Ha) := by
  obtain ⟨La, Ls, h1, h2, h3⟩ := tg_free (kLo c) c.1.Rune []
  obtain ⟨Ha, Hs, k1, k2, k3⟩ := tg_free (kHi c) ((kLo c).foldl tgS (c.1.Rune, [], true)).1 ((kLo c).foldl tgS (c.1.Rune, [], true)).2.1
  have hp : parts c.1.Rune = [c.1.Rune] := by unfold parts; rw [hn]
  refine ⟨((kHi c).foldl tgS (((kLo c).foldl tgS (c.1.Rune, [], true)).1, ((kLo c).foldl tgS (c.1.Rune, [], true)).2.1, true)).1, La, Ls, Ha, Hs, ?_, h1, k1, ?_⟩
  · show gT c = _ :: _
    unfold kLo kHi at *
    unfold gT
    simp only
    rw [k2, h2]; simp
  · rw [k3, h3, hp]; simp
/-! ### A cluster laid out is one cluster again -/
def OneC (c : Itm × List Itm) (ts : List Tok) (d : Itm × List Itm) : Prop := clT ts = [d] ∧ isL d.1 = true ∧ okT d.1 ∧ (∀ m ∈ d.2, isM m = true ∧ okT m) ∧ d.1.Rune = c.1.Rune
theorem okT_mk {r : Int} (h : vr r) : okT (mkI r) := by
  unfold vr at h
  refine ⟨?_, .inr ⟨?_, rfl⟩⟩
  · show I32 r; exact ⟨by omega, by omega⟩
  · show 0 ≤ r; omega
theorem one_mk {c : Itm × List Itm} {j b : Int} {st ms : List Int} (hj : letter j = true) (hst : ∀ m ∈ st, mrk m = true) (hp : parts j = b :: ms) (hb : b = c.1.Rune) : OneC c ((j :: st).map tokR) (mkI b, (ms ++ st).map mkI) := by
  obtain ⟨b', ms', hq, hb', hn, hms, _⟩ := parts_shape hj
  rw [hp] at hq
  obtain ⟨rfl, rfl⟩ := List.cons.inj hq
  refine ⟨clT_lm hj hst hp, hb', okT_mk (letter_vr hb'), fun m hm => ?_, hb⟩
  obtain ⟨r, hr, rfl⟩ := List.mem_map.1 hm
  have hm' : mrk r = true := by
    rcases List.mem_append.1 hr with hr | hr
    · exact hms r hr
    · exact hst r hr
  exact ⟨hm', okT_mk (mrk_vr hm')⟩
theorem lo_only {l : List Int} (h : ∀ x ∈ l, lowR x = true) : l.filter lowR = l ∧ l.filter (fun r => !lowR r) = [] :=
  ⟨List.filter_eq_self.2 h, List.filter_eq_nil_iff.2 fun x hx => by simp [h x hx]⟩
theorem hi_only {l : List Int} (h : ∀ x ∈ l, lowR x = false) : l.filter lowR = [] ∧ l.filter (fun r => !lowR r) = l :=
  ⟨List.filter_eq_nil_iff.2 fun x hx => by simp [h x hx], List.filter_eq_self.2 fun x hx => by simp [h x hx]⟩
theorem one_A {c : Itm × List Itm} (hL : isL c.1 = true) (hm : ∀ m ∈ c.2, isM m = true) (hn : getM c.1.Rune tabS = none) : ∃ d, OneC c (mkO gA c) d ∧ SameKey d c := by
  obtain ⟨h1, h2⟩ := lohi_mem hm
  have e : mkO gA c = (c.1.Rune :: (kLo c ++ kHi c)).map tokR := by unfold mkO; rw [hL, gA_key]; rfl
  rw [e]
  have hp : parts c.1.Rune = [c.1.Rune] := by unfold parts; rw [hn]
  refine ⟨_, one_mk hL (fun m hm => ?_) hp rfl, rfl, ?_⟩
  · rcases List.mem_append.1 hm with hm | hm
    · exact h1 m hm
    · exact h2 m hm
  · obtain ⟨k1, k2⟩ := kLo_mk c.1.Rune ([] ++ (kLo c ++ kHi c))
    obtain ⟨l1, l2⟩ := kLo_low c
    rw [k1, k2, List.nil_append, List.filter_append, List.filter_append, (lo_only l1).1, (lo_only l1).2, (hi_only l2).1, (hi_only l2).2]
    simp
theorem one_T {c : Itm × List Itm} (hL : isL c.1 = true) (hm : ∀ m ∈ c.2, isM m = true) (hn : getM c.1.Rune tabS = none) : ∃ d, OneC c (mkO gT c) d ∧ SameKey d c := by
  obtain ⟨j, La, Ls, Ha, Hs, h1, h2, h3, h4⟩ := gT_split hn
  obtain ⟨j', st', g1, g2, g3⟩ := gT_all hL hm
  rw [h1] at g1
  obtain ⟨rfl, rfl⟩ := List.cons.inj g1
  have e : mkO gT c = (j :: (Ls ++ Hs)).map tokR := by unfold mkO; rw [hL, h1]; rfl
  rw [e]
  refine ⟨_, one_mk g2 g3 h4 rfl, rfl, ?_⟩
  obtain ⟨k1, k2⟩ := kLo_mk c.1.Rune ((La ++ Ha) ++ (Ls ++ Hs))
  obtain ⟨l1, l2⟩ := kLo_low c
  rw [h2] at l1
  rw [h3] at l2
  have a1 := lo_only (l := La) fun x hx => l1 x (List.mem_append_left _ hx)
  have a2 := lo_only (l := Ls) fun x hx => l1 x (List.mem_append_right _ hx)
  have a3 := hi_only (l := Ha) fun x hx => l2 x (List.mem_append_left _ hx)
  have a4 := hi_only (l := Hs) fun x hx => l2 x (List.mem_append_right _ hx)
  rw [k1, k2, h2, h3]
  simp only [List.filter_append, a1.1, a1.2, a2.1, a2.2, a3.1, a3.2, a4.1, a4.2]
  simp
theorem one_B {c : Itm × List Itm} (hL : isL c.1 = true) (hn : getM c.1.Rune tabS = none) : ∃ d, OneC c (mkO gB c) d := by
  have e : mkO gB c = (c.1.Rune :: []).map tokR := by unfold mkO gB; rw [hL]; rfl
  have hp : parts c.1.Rune = [c.1.Rune] := by unfold parts; rw [hn]
  rw [e]
  exact ⟨_, one_mk hL (by simp) hp rfl⟩
/-! ### The forms of a cluster, as runes -/
theorem apartC_str {c : Itm × List Itm} (hL : isL c.1 = true) (h1 : okT c.1) (h2 : ∀ m ∈ c.2, isM m = true ∧ okT m) : apartC c = strOf (gA c) := by
  unfold apartC gA
  rw [strOf_J, J_map]
  refine J_congr fun x hx => ?_
  rcases mem_ord hx with rfl | hx
  · exact letter_text h1 hL
  · exact mark_text (h2 x hx).2 (h2 x hx).1
theorem tgC_str {c : Itm × List Itm} (hL : isL c.1 = true) : tgC c = strOf (gT c) := by
  unfold tgC tgU
  rw [hL]
  exact (strOf_cons' _ _).symm
theorem bareC_str {c : Itm × List Itm} (hL : isL c.1 = true) (h1 : okT c.1) : c.1.Text = strOf (gB c) := by
  unfold gB
  rw [strOf_J, J_cons, J_nil, ByteArray.append_empty]; exact letter_text h1 hL
theorem foldC_str {c : Itm × List Itm} (hL : isL c.1 = true) : foldC c = plainR (lower c.1.Rune) := by
  unfold foldC foldI; rw [hL]; rfl
/-! ### Heads -/
theorem head_R {r : Int} {rs : List Int} (h : letter r = true) : ∀ t, ((r :: rs).map tokR).head? = some t → mrk (tokI t).Rune = false := by
  intro t ht
  have : tokR r = t := Option.some.inj ht
  subst this
  rw [tokR_mk (letter_vr h)]
  exact mrk_letter h
theorem hd_A : ∀ c : Itm × List Itm, isL c.1 = true → getM c.1.Rune tabS = none → (∀ m ∈ c.2, isM m = true) → ∀ t, (mkO gA c).head? = some t → mrk (tokI t).Rune = false := by
  intro c hL _ _
  have e : mkO gA c = (c.1.Rune :: (kLo c ++ kHi c)).map tokR := by unfold mkO; rw [hL, gA_key]; rfl
  rw [e]; exact head_R hL
theorem hd_B : ∀ c : Itm × List Itm, isL c.1 = true → getM c.1.Rune tabS = none → (∀ m ∈ c.2, isM m = true) → ∀ t, (mkO gB c).head? = some t → mrk (tokI t).Rune = false := by
  intro c hL _ _
  have e : mkO gB c = (c.1.Rune :: []).map tokR := by unfold mkO gB; rw [hL]; rfl
  rw [e]; exact head_R hL
theorem hd_T : ∀ c : Itm × List Itm, isL c.1 = true → getM c.1.Rune tabS = none → (∀ m ∈ c.2, isM m = true) → ∀ t, (mkO gT c).head? = some t → mrk (tokI t).Rune = false := by
  intro c hL _ hm
  obtain ⟨j, st, g1, g2, g3⟩ := gT_all hL hm
  have e : mkO gT c = (j :: st).map tokR := by unfold mkO; rw [hL, g1]; rfl
  rw [e]; exact head_R g2
theorem hd_F : ∀ c : Itm × List Itm, isL c.1 = true → getM c.1.Rune tabS = none → (∀ m ∈ c.2, isM m = true) → ∀ t, (mkO gF c).head? = some t → mrk (tokI t).Rune = false := by
  intro c hL hn _
  obtain ⟨_, f2, f3⟩ := foldLet_of (show letter c.1.Rune = true from hL)
  obtain ⟨r, rs, hr⟩ := List.exists_cons_of_ne_nil f2
  have e : mkO gF c = (r :: rs).map tokR := by
    unfold mkO; rw [hL]
    show (gF c).map tokR = _
    rw [show gF c = r :: rs from hr]
  rw [e]; exact head_R (f3 hn r (by rw [hr]; exact List.mem_cons_self ..)).1
/-! ### The laws -/
theorem bareC_strip (c : Itm × List Itm) : (fun c : Itm × List Itm => c.1.Text) (stripC c) = (fun c : Itm × List Itm => c.1.Text) c := rfl
theorem one_J {c d : Itm × List Itm} {ts : List Tok} (f : Itm × List Itm → ByteArray) (h : OneC c ts d) : J f (clT ts) = f d := by
  rw [h.1, J_cons, J_nil, ByteArray.append_empty]
/-- Folded once is folded. -/
theorem fold_cl {rs : List Int} : (∀ x ∈ rs, letter x = true ∧ getM x tabS = none ∧ plainR x = Utf8.encode x ∧ lower x = x) → J foldC (clT (rs.map tokR)) = strOf rs := by
  induction rs with
  | nil => intro _; rfl
  | cons r rs ih =>
    intro h
    obtain ⟨h1, h2, h3, h4⟩ := h r (List.mem_cons_self ..)
    have ih := ih fun x hx => h x (List.mem_cons_of_mem _ hx)
    have hp : parts r = [r] := by unfold parts; rw [h2]
    have e : clT ((r :: rs).map tokR) = clT ((r :: []).map tokR) ++ clT (rs.map tokR) := by
      refine clT_append [tokR r] (rs.map tokR) fun t ht => ?_
      cases rs with
      | nil => cases ht
      | cons r' rs => exact head_R (h r' (by simp)).1 t ht
    rw [e, J_append, ih, clT_lm h1 (by simp) hp, strOf_cons', J_cons, J_nil, ByteArray.append_empty]
    congr 1
    rw [foldC_str (show isL (mkI r) = true from h1)]
    show plainR (lower r) = _
    rw [h4, h3]
theorem fold_fold (s : ByteArray) (hs : s.size ≤ 65536) : foldS (foldS s) = foldS s := by
  refine form_form gF_ok hd_F foldC_strip foldC_strip hs (foldS_bytes s hs) (fun c hL hm hn hok => ?_) (fun y hy => rfl)
  obtain ⟨f1, _, f3⟩ := foldLet_of (show letter c.1.Rune = true from hL)
  have e : mkO gF c = (gF c).map tokR := by unfold mkO; rw [hL]; rfl
  rw [e, fold_cl fun x hx => by obtain ⟨a, _, b, d, e⟩ := f3 hn x hx; exact ⟨a, b, d, e⟩, foldC_str hL]
  exact f1.symm
theorem fold_apart (s : ByteArray) (hs : s.size ≤ 65536) : foldS (apartS s) = foldS s := by
  refine form_form gA_ok hd_A foldC_strip foldC_strip hs (apartS_bytes s hs) (fun c hL hm hn hok => ?_) (fun y hy => rfl)
  obtain ⟨d, hd, _⟩ := one_A hL (fun m h => (hm m h).1) hn
  rw [one_J _ hd, foldC_str hd.2.1, foldC_str hL, hd.2.2.2.2]
theorem fold_tog (s : ByteArray) (hs : s.size ≤ 65536) : foldS (togS s) = foldS s := by
  refine form_form gT_ok hd_T foldC_strip foldC_strip hs (togS_bytes s hs) (fun c hL hm hn hok => ?_) (fun y hy => rfl)
  obtain ⟨d, hd, _⟩ := one_T hL (fun m h => (hm m h).1) hn
  rw [one_J _ hd, foldC_str hd.2.1, foldC_str hL, hd.2.2.2.2]
theorem fold_bare (s : ByteArray) (hs : s.size ≤ 65536) : foldS (bareS s) = foldS s := by
  refine form_form gB_ok hd_B foldC_strip foldC_strip hs (bareS_bytes s hs) (fun c hL hm hn hok => ?_) (fun y hy => rfl)
  obtain ⟨d, hd⟩ := one_B hL hn
  rw [one_J _ hd, foldC_str hd.2.1, foldC_str hL, hd.2.2.2.2]
theorem apart_apart (s : ByteArray) (hs : s.size ≤ 65536) : apartS (apartS s) = apartS s := by
  refine form_form gA_ok hd_A apartC_strip apartC_strip hs (apartS_bytes s hs) (fun c hL hm hn hok => ?_) (fun y hy => rfl)
  obtain ⟨d, hd, hk⟩ := one_A hL (fun m h => (hm m h).1) hn
  rw [one_J _ hd, apartC_str hd.2.1 hd.2.2.1 hd.2.2.2.1, apartC_str hL hok hm, gA_key2 hk]
theorem apart_tog (s : ByteArray) (hs : s.size ≤ 65536) : apartS (togS s) = apartS s := by
  refine form_form gT_ok hd_T apartC_strip apartC_strip hs (togS_bytes s hs) (fun c hL hm hn hok => ?_) (fun y hy => rfl)
  obtain ⟨d, hd, hk⟩ := one_T hL (fun m h => (hm m h).1) hn
  rw [one_J _ hd, apartC_str hd.2.1 hd.2.2.1 hd.2.2.2.1, apartC_str hL hok hm, gA_key2 hk]
theorem tog_tog (s : ByteArray) (hs : s.size ≤ 65536) : togS (togS s) = togS s := by
  refine form_form gT_ok hd_T tgC_strip tgC_strip hs (togS_bytes s hs) (fun c hL hm hn hok => ?_) (fun y hy => rfl)
  obtain ⟨d, hd, hk⟩ := one_T hL (fun m h => (hm m h).1) hn
  rw [one_J _ hd, tgC_str hd.2.1, tgC_str hL, gT_key hk]
theorem tog_apart (s : ByteArray) (hs : s.size ≤ 65536) : togS (apartS s) = togS s := by
  refine form_form gA_ok hd_A tgC_strip tgC_strip hs (apartS_bytes s hs) (fun c hL hm hn hok => ?_) (fun y hy => rfl)
  obtain ⟨d, hd, hk⟩ := one_A hL (fun m h => (hm m h).1) hn
  rw [one_J _ hd, tgC_str hd.2.1, tgC_str hL, gT_key hk]
theorem bare_bare (s : ByteArray) (hs : s.size ≤ 65536) : bareS (bareS s) = bareS s := by
  refine form_form gB_ok hd_B bareC_strip bareC_strip hs (bareS_bytes s hs) (fun c hL hm hn hok => ?_) (fun y hy => rfl)
  obtain ⟨d, hd⟩ := one_B hL hn
  rw [one_J _ hd, bareC_str hd.2.1 hd.2.2.1, bareC_str hL hok]
  unfold gB; rw [hd.2.2.2.2]
theorem bare_apart (s : ByteArray) (hs : s.size ≤ 65536) : bareS (apartS s) = bareS s := by
  refine form_form gA_ok hd_A bareC_strip bareC_strip hs (apartS_bytes s hs) (fun c hL hm hn hok => ?_) (fun y hy => rfl)
  obtain ⟨d, hd, _⟩ := one_A hL (fun m h => (hm m h).1) hn
  rw [one_J _ hd, bareC_str hd.2.1 hd.2.2.1, bareC_str hL hok]
  unfold gB; rw [hd.2.2.2.2]
theorem bare_tog (s : ByteArray) (hs : s.size ≤ 65536) : bareS (togS s) = bareS s := by
  refine form_form gT_ok hd_T bareC_strip bareC_strip hs (togS_bytes s hs) (fun c hL hm hn hok => ?_) (fun y hy => rfl)
  obtain ⟨d, hd, _⟩ := one_T hL (fun m h => (hm m h).1) hn
  rw [one_J _ hd, bareC_str hd.2.1 hd.2.2.1, bareC_str hL hok]
  unfold gB; rw [hd.2.2.2.2]
end Go.Proofs.Ytlamcpgnmeileaa
namespace Go.Proofs.Ytlamcpgnmeileaa
open Go.RowKit Go.Lib Go.Shelf
attribute [local go_sem] Oper.semAt_some wide_fn wide_in_fn wide_depth
set_option linter.unusedVariables false
set_option linter.unusedSimpArgs false

theorem pieces_any (s : ByteArray) (w : World) :
    Calls Try.prog 67 #[.string s] w fun e w' => e = .returned (.func (.func 86) #[] #[.pointer (some ⟨w.heap.size, 0, none⟩)]) ∧ w' = w.alloc (.cells #[.string s] 9) := by
  go_enter Try.func67, Try.ntmps67
  go_wp2
  go_ret
  exact ⟨rfl, rfl⟩
theorem pcsF_valid : ∀ (f i : Nat) (l : List UInt8), ∀ p ∈ pcsF f i l, p.r ≤ 1114111
  | 0, _, _, p, h => by simp [pcsF] at h
  | f + 1, i, l, p, h => by
    unfold pcsF at h
    split at h
    · simp at h
    · rcases List.mem_cons.1 h with rfl | h
      · exact dec_rune_le l
      · exact pcsF_valid f _ _ p h
theorem pcs_valid (l : List UInt8) : ∀ p ∈ pcs l, p.r ≤ 1114111 := pcsF_valid _ _ _
def pcCells (p : Pc) : Array Value := #[.int .i64 p.i, .int .i64 p.w, .int .i32 p.r, .bool p.broken]

end Go.Proofs.Ytlamcpgnmeileaa
namespace Go.Proofs.Ytlamcpgnmeileaa
open Go.RowKit Go.Lib Go.Shelf
attribute [local go_sem] Oper.semAt_some
set_option linter.unusedVariables false
set_option linter.unusedSimpArgs false

theorem pcs_count (l : List UInt8) : ∀ (n : Nat) (D : List Pc) (p : Pc) (B : List Pc), D.length ≤ n → pcs l = D ++ p :: B → D.length ≤ p.i
  | 0, D, p, B, hn, h => by omega
  | n + 1, D, p, B, hn, h => by
    rcases List.eq_nil_or_concat D with rfl | ⟨D, q, rfl⟩
    · simp
    · rw [List.concat_eq_append] at h hn ⊢
      have h1 := pcs_count l n D q (p :: B) (by simp at hn; omega) (by rw [h]; simp)
      obtain ⟨_, hok, _, h4⟩ := pcs_split l D q (p :: B) (by rw [h]; simp)
      have := hok.pos
      have h5 : p.i = q.i + q.w := by
        by_cases hd : l.drop (q.i + q.w) = []
        · rw [hd, pcsFrom_nil] at h4; simp at h4
        · rw [pcsFrom_cons _ _ hd] at h4
          simp only [List.cons.injEq] at h4
          rw [h4.1]
      rw [List.length_append, h5]
      simp only [List.length_singleton]; omega

end Go.Proofs.Ytlamcpgnmeileaa
namespace Go.Proofs.Ytlamcpgnmeileaa
open Go.RowKit Go.Lib Go.Shelf
attribute [local go_sem] Oper.semAt_some wide_fn wide_in_fn wide_depth
set_option linter.unusedVariables false
set_option linter.unusedSimpArgs false

end Go.Proofs.Ytlamcpgnmeileaa
namespace Go.Proofs.Ytlamcpgnmeileaa
open Go.RowKit Go.Lib Go.Shelf
set_option linter.unusedVariables false
set_option linter.unusedSimpArgs false

end Go.Proofs.Ytlamcpgnmeileaa
namespace Go.Proofs.Ytlamcpgnmeileaa
open Go.RowKit Go.Lib Go.Shelf
set_option linter.unusedVariables false
set_option linter.unusedSimpArgs false

end Go.Proofs.Ytlamcpgnmeileaa
namespace Go.Proofs.Ytlamcpgnmeileaa
open Go.RowKit Go.Lib Go.Shelf
set_option linter.unusedVariables false
set_option linter.unusedSimpArgs false

end Go.Proofs.Ytlamcpgnmeileaa
namespace Go.Proofs.Ytlamcpgnmeileaa
open Go.RowKit Go.Lib Go.Shelf
attribute [local go_sem] Oper.semAt_some
set_option linter.unusedVariables false
set_option linter.unusedSimpArgs false

theorem take_snoc {α : Type} (L : List α) (k : Nat) (x : α) (h : L[k]? = some x) : L.take (k + 1) = L.take k ++ [x] := by
  obtain ⟨hk, rfl⟩ := List.getElem?_eq_some_iff.1 h
  simp
theorem pcs_len (s : ByteArray) : (pcs s.data.toList).length ≤ s.size := by
  rcases List.eq_nil_or_concat (pcs s.data.toList) with h0 | ⟨D, p, h0⟩
  · rw [h0]; simp
  · rw [List.concat_eq_append] at h0
    have h1 := pcs_count _ _ D p [] (Nat.le_refl _) h0
    have h2 := pcs_pos s.data.toList p (by rw [h0]; simp)
    have h3 : p.i + p.w ≤ s.size := by simpa using h2.2.1
    rw [h0, List.length_append]; simp; omega

end Go.Proofs.Ytlamcpgnmeileaa
namespace Go.Proofs.Ytlamcpgnmeileaa
open Go.RowKit Go.Lib

/-- A longest row of pieces of one kind. -/
structure Rn where
  f : Nat
  t : Nat
  k : Int
  deriving DecidableEq
def pk (p : Pc) : Int := kindOf p.broken p.r
end Go.Proofs.Ytlamcpgnmeileaa
namespace Go.Proofs.Ytlamcpgnmeileaa
open Go.RowKit Go.Lib Go.Shelf
attribute [local go_sem] Oper.semAt_some
set_option linter.unusedVariables false
set_option linter.unusedSimpArgs false

/-- Is the first piece that is no mark a letter? -/
def aft : List Pc → Bool
  | [] => false
  | p :: t => if pk p = 2 then aft t else pk p == 1
end Go.Proofs.Ytlamcpgnmeileaa
namespace Go.Proofs.Ytlamcpgnmeileaa
open Go.RowKit Go.Lib Go.Shelf
attribute [local go_sem] Oper.semAt_some wide_fn wide_in_fn wide_depth
set_option linter.unusedVariables false
set_option linter.unusedSimpArgs false

theorem aft_skip : ∀ (pre q : List Pc), (∀ p ∈ pre, pk p = 2) → aft (pre ++ q) = aft q
  | [], q, _ => rfl
  | p :: pre, q, h => by
    rw [List.cons_append, aft, if_pos (h p (List.mem_cons_self ..))]
    exact aft_skip pre q (fun r hr => h r (List.mem_cons_of_mem _ hr))

set_option maxRecDepth 100000 in
set_option maxHeartbeats 4000000 in
theorem followed_any (s : ByteArray) (w : World) (hs : s.size ≤ 2147483647) :
    Calls Try.prog 71 #[.string s] w fun e w' => e = .returned (.bool (aft (pcs s.data.toList))) ∧ Below w.heap.size w w' := by
  (refine calls_of_body Try.func71 rfl ?_; simp only [Try.ntmps71, List.size_toArray, List.length_cons, List.length_nil, Nat.reduceAdd, Nat.reduceSub, Array.replicate_succ, Array.replicate_zero, List.push_toArray, List.append_toArray, List.nil_append, List.cons_append])
  gi_wp2_with (gi_at_call 67; refine (CallsIn.mono (callsIn_wide.2 (pieces_any _ _)) ?_); rintro e w' ⟨rfl, rfl⟩)
  have bR := (Boxed.new w 4 (.bool false)).alloc (.cells #[.string s] 9)
  have bD := Boxed.new (w.alloc (.cells #[.bool false] 4)) 9 (.string s)
  have hba : Below w.heap.size w ((w.alloc (.cells #[.bool false] 4)).alloc (.cells #[.string s] 9)) := ((Below.refl _ w).alloc (Nat.le_refl _) _).alloc (by simp) _
  have hsa : ((w.alloc (.cells #[.bool false] 4)).alloc (.cells #[.string s] 9)).heap.size = w.heap.size + 1 + 1 := by simp
  simp only [World.size_alloc] at bD
  obtain ⟨Wa, hWa⟩ : ∃ Wa, ((w.alloc (.cells #[.bool false] 4)).alloc (.cells #[.string s] 9)) = Wa := ⟨_, rfl⟩
  rw [hWa] at bR bD hba hsa
  simp only [hWa]
  clear hWa
  have hloc : Local (fun (pre : List Pc) C W' => C = (fun k => k = w.heap.size) ∧ Boxed W' w.heap.size 4 (.bool false) ∧ (∀ p ∈ pre, pk p = 2)) := by
    rintro pre C W1 W2 ⟨rfl, h1, h2⟩ hs hk
    exact ⟨rfl, (hk _ rfl).trans h1, h2⟩
  refine wp_range (gf := 86) (lb := #[.pointer (some ⟨w.heap.size + 1, 0, none⟩)]) rfl (enters_of Try.func86 (by kernel_rfl) rfl)
    (pieces1_yields s (by omega) (w.heap.size + 1) Wa bD) (fun k hk => ⟨by rw [hk, hsa]; omega, rfl⟩) (Nat.le_refl _) (fun _ => rfl)
    (fun (pre : List Pc) C W' => C = (fun k => k = w.heap.size) ∧ Boxed W' w.heap.size 4 (.bool false) ∧ (∀ p ∈ pre, pk p = 2))
    (fun c (pre : List Pc) C W' => c = .ret ∧ C = (fun k => k = w.heap.size) ∧ Boxed W' w.heap.size 4 (.bool (aft (pcs s.data.toList))))
    (JBox (fun (pre : List Pc) C W' => C = (fun k => k = w.heap.size) ∧ Boxed W' w.heap.size 4 (.bool false) ∧ (∀ p ∈ pre, pk p = 2)) 55 pcCells ?act)
    hloc ?hX ?hJ (fun k => k = w.heap.size) ?hC0 ⟨rfl, bR, by simp⟩ ?hassign ?hbody ?hdone ?hstop
  case hX => rintro c pre C W1 W2 ⟨rfl, rfl, h⟩ hs hk; exact ⟨rfl, rfl, (hk _ rfl).trans h⟩
  case hJ => exact fun pre x a => JBox.local hloc pre x a
  case hC0 => rintro k rfl; exact ⟨by omega, by omega⟩
  case hassign =>
    intro l' pre x post C W1 hxs hext hi hn hlt hr
    simp only [encPc]
    gi_wp2
    refine JBox.assign hloc hi (hext.lt (fun k hk => by subst hk; omega)) rfl ?_
    intro b hb
    rw [← hb]
  case hbody =>
    rintro l' pre x post C1 W1 a1 hxs hext ⟨C, b, rfl, hnb, ⟨rfl, bR1, hm⟩, hb, rfl⟩ hn hlt hr
    have hv : x.r ≤ 1114111 := pcs_valid _ x (by rw [hxs]; simp)
    have hv1 : (-2147483648 : Int) ≤ (x.r : Int) := by omega
    have hv2 : (x.r : Int) ≤ 2147483647 := by omega
    have d0 := cell_at hb (j := 0) rfl
    have d1 := cell_at hb (j := 1) rfl
    have d2 := cell_at hb (j := 2) rfl
    have d3 := cell_at hb (j := 3) rfl
    have haft : pk x ≠ 2 → aft (pcs s.data.toList) = (pk x == 1) := fun h => by rw [hxs, aft_skip _ _ hm, aft, if_neg h]
    have Hext := Lib.hid hext; have Hxs := Lib.hid hxs; have Haft := Lib.hid haft; have Hm := Lib.hid hm
    clear hxs hext hr hn haft hm
    gi_wp2_with (fail)
    refine CallsIn.inRound l' (CallsIn.mono (callsIn_wide.2 (of_any _ _ _ _ _ (by omega) (by omega))) ?_)
    rintro e w2 ⟨rfl, hb2⟩
    have bR2 : Boxed w2 w.heap.size _ _ := some_lt bR1 hb2
    have fR := bR2.frozen; have cR := bR2.cell
    have Hb2 := Lib.hid hb2
    clear hb2
    have hpk : kindOf x.broken (x.r : Int) = pk x := rfl
    rw [hpk]
    clear hpk
    by_cases hp : pk x = 2
    · have e1 : (pk x != 2) = false := by simp [hp]
      have hfin : RPost (fun (pre : List Pc) C W' => C = (fun k => k = w.heap.size) ∧ Boxed W' w.heap.size 4 (.bool false) ∧ (∀ p ∈ pre, pk p = 2))
          (fun c (pre : List Pc) C W' => c = .ret ∧ C = (fun k => k = w.heap.size) ∧ Boxed W' w.heap.size 4 (.bool (aft (pcs s.data.toList)))) (pre ++ [x]) (fun k => k = w.heap.size ∨ k = b) W1 .normal ⟨#[], []⟩ w2 :=
        ⟨fun k => k = w.heap.size, (Ext.below Hb2.out).sub (fun k hk => .inl hk), rfl, bR2, by
          intro p hp'; rcases List.mem_append.1 hp' with h | h
          · exact Hm.out p h
          · rw [List.mem_singleton.1 h]; exact hp⟩
      have Hfin := Lib.hid hfin
      clear hfin hp
      gi_wp2
      exact Hfin.out
    · have e1 : (pk x != 2) = true := by simp [bne, hp]
      have hfin : RPost (fun (pre : List Pc) C W' => C = (fun k => k = w.heap.size) ∧ Boxed W' w.heap.size 4 (.bool false) ∧ (∀ p ∈ pre, pk p = 2))
          (fun c (pre : List Pc) C W' => c = .ret ∧ C = (fun k => k = w.heap.size) ∧ Boxed W' w.heap.size 4 (.bool (aft (pcs s.data.toList)))) (pre ++ [x]) (fun k => k = w.heap.size ∨ k = b) W1 .ret ⟨#[], []⟩ (w2.setCell ⟨w.heap.size, 0, none⟩ (.bool (pk x == 1))) :=
        ⟨fun k => k = w.heap.size, ⟨Fr.setCell (C := fun k => k = w.heap.size ∨ k = b) ((Fr.refl _ _).below Hb2.out) (p := ⟨w.heap.size, 0, none⟩) (.inl (.inl rfl)) _, fun k hk => .inl (.inl hk)⟩, rfl, rfl, by rw [Haft.out hp]; exact bR2.set _⟩
      have Hfin := Lib.hid hfin
      clear hfin hp
      gi_wp2
      exact Hfin.out
  case hdone =>
    rintro d C W hext ⟨rfl, bR2, hm⟩ hld hCd hdef
    have hz : aft (pcs s.data.toList) = false := by
      have := aft_skip (pcs s.data.toList) [] hm
      rw [List.append_nil] at this; rw [this]; rfl
    have hWs := hext.1.size
    have cR := bR2.cell; have fR := bR2.frozen
    have Hext := Lib.hid hext; have Hdef := Lib.hid hdef; have Hba := Lib.hid hba; have Hz := Lib.hid hz; have Hm := Lib.hid hm
    clear hext hdef hba hz hm
    gi_wp2
    have bRn : Boxed (W.setCell ⟨w.heap.size, 0, none⟩ (.bool false)) w.heap.size 4 (.bool false) := bR2.set _
    have hdd : (W.setCell ⟨w.heap.size, 0, none⟩ (.bool false)).heap[d]? = some (.deferred (some [])) := (Below.heap_setCell _ _ _ _ (by show d ≠ w.heap.size; omega)).trans Hdef.out
    refine leaves_marks [d] _ (by simp) (by intro e he; simp at he; subst he; exact hdd) (fun w' hw hsw => ?_)
    have hc : w'.cell? ⟨w.heap.size, 0, none⟩ = some (.bool false) := cell_at (hw.at bRn (by simp; omega)) rfl
    refine ⟨.bool false, by simp [results, Try.results71, go_sem, hc], ret_bool Hz.out.symm, ?_⟩
    have F1 : Fr (fun k => w.heap.size ≤ k) Wa (W.setCell ⟨w.heap.size, 0, none⟩ (.bool false)) :=
      Fr.setCell (Hext.out.1.weaken (fun k _ h => by show w.heap.size ≤ k; have : k = w.heap.size := h; omega)) (p := ⟨w.heap.size, 0, none⟩) (Or.inl (by show w.heap.size ≤ w.heap.size; omega)) _
    have F2 : Fr (fun k => w.heap.size ≤ k) Wa w' := F1.trans' hw (fun k _ h => by show w.heap.size ≤ k; have h5 : k = d := (List.mem_singleton.1 h); omega)
    exact Hba.out.trans (F2.toBelow (by omega) (fun k hk h => by have : w.heap.size ≤ k := h; omega))
  case hstop =>
    rintro d c pre x post C W hxs hext ⟨rfl, rfl, bR2⟩ hld hCd hdef
    have hWs := hext.1.size
    have Hext := Lib.hid hext; have Hdef := Lib.hid hdef; have Hba := Lib.hid hba; have Hxs := Lib.hid hxs
    clear hext hdef hba hxs
    gi_wp2
    refine leaves_marks [d] _ (by simp) (by intro e he; simp at he; subst he; exact Hdef.out) (fun w' hw hsw => ?_)
    have hc : w'.cell? ⟨w.heap.size, 0, none⟩ = some (.bool (aft (pcs s.data.toList))) := cell_at (hw.at bR2 (by simp; omega)) rfl
    refine ⟨.bool (aft (pcs s.data.toList)), by simp [results, Try.results71, go_sem, hc], rfl, ?_⟩
    have F2 : Fr (fun k => w.heap.size ≤ k) Wa w' := (Hext.out.1.weaken (fun k _ h => by show w.heap.size ≤ k; have : k = w.heap.size := h; omega)).trans' hw (fun k _ h => by show w.heap.size ≤ k; have h5 : k = d := (List.mem_singleton.1 h); omega)
    exact Hba.out.trans (F2.toBelow (by omega) (fun k hk h => by have : w.heap.size ≤ k := h; omega))

end Go.Proofs.Ytlamcpgnmeileaa
namespace Go.Proofs.Ytlamcpgnmeileaa
open Go.RowKit Go.Lib Go.Shelf
attribute [local go_sem] Oper.semAt_some
set_option linter.unusedVariables false
set_option linter.unusedSimpArgs false

/-- The k-th piece in small letters. -/
def lowOne (s : ByteArray) (l : List Pc) (k : Nat) (p : Pc) : ByteArray :=
  if pk p ≠ 1 then s.extract p.i (p.i + p.w)
  else if p.r = 931 ∧ aft (l.take k).reverse = true ∧ aft (l.drop (k + 1)) = false then ⟨#[207, 130]⟩
  else Utf8.encode (lower p.r)

theorem ret_str {a b : ByteArray} (h : a = b) : Ending.returned (.string a) = .returned (.string b) := by rw [h]

end Go.Proofs.Ytlamcpgnmeileaa
namespace Go.Proofs.Ytlamcpgnmeileaa
open Go.RowKit Go.Lib

/-- The slice value v owns the bytes b. -/
def Br (w : World) (base : Nat) (e : TypeId) (v : Value) (b : ByteArray) : Prop := w.ownsRow base e 1 v b.size (strCells b)
theorem Br.nil (w : World) (base : Nat) (e : TypeId) : Br w base e (.slice none 0 0) ⟨#[]⟩ := World.ownsRow_nil w base e 1
theorem Br.below {w w' : World} {base : Nat} {e : TypeId} {v : Value} {b : ByteArray} (h : Br w base e v b) (hb : Below w.heap.size w w') : Br w' base e v b := by
  refine ⟨h.1, ?_⟩
  rcases h.2 with hn | ⟨g, cap, cur, rfl, h2, h3, rest⟩
  · exact .inl hn
  · exact .inr ⟨g, cap, cur, rfl, h2, some_lt h3 hb, rest⟩
theorem Br.lt {w : World} {base : Nat} {e : TypeId} {v : Value} {b : ByteArray} (h : Br w base e v b) : ∀ k, v.ownBlock = some k → base ≤ k ∧ k < w.heap.size := World.ownsRow.lt h
theorem Br.conv {P : Program} {w : World} {base : Nat} {el : TypeId} {v : Value} {b : ByteArray} (h : Br w base el v b) (src dst e : TypeId) (hs : P.underlying src = some (.slice e)) (he : P.underlying e = some (.int .u8)) (hd : P.underlying dst = some .string) :
    (convert src dst v).run P w = .ok (.string b) w := by
  rcases h.2 with ⟨rfl, h2⟩ | ⟨g, cap, cur, rfl, _, _, _⟩
  · have hb : b = ⟨#[]⟩ := by
      apply ByteArray.ext; exact Array.eq_empty_of_size_eq_zero h2
    rw [hb]; exact run_convert_nil_bytes w src dst e 0 hs he hd
  · have hl : b.data.toList.length = b.size := by rw [Array.length_toList]; rfl
    have := run_convert_bytes_back (P := P) w src dst e ⟨g, 0, none⟩ cap b.data.toList hs he hd (fun j hj => by
      refine World.ownsRow.cells h rfl j _ ?_
      unfold strCells; rw [List.getElem?_map, List.getElem?_eq_getElem hj]; rfl)
    rw [hl] at this
    rw [this]

end Go.Proofs.Ytlamcpgnmeileaa
