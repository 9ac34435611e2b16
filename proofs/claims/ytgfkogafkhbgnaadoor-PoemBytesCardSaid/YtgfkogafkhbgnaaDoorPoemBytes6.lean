/-
  Texts laid together: LqL, PlPoemBytes. Nothing is assumed.
-/
import Derived.Test.YtgfkogafkhbgnaaDoorPoemBytes5
namespace Go.Proofs.YtgfkogafkhbgnaaDoor
open Go.RowKit Go.Lib
set_option linter.unusedVariables false
set_option linter.unusedSimpArgs false
def law17_PoemBytes_s1 (s1 : ByteArray) (j1 : (List Int) → Option Bool) (ag1 : (List Int) → Nat → Option Bool) (starts4 : List Int) (m3 : Nat) : Option Bool := bcond (decide (m3 < (pcs s1.data.toList).length)) ( andThen ((pcs s1.data.toList)[m3]?) fun (p1 : Pc) => andThen (getO starts4 (p1.i : Int)) fun (q1 : Int) => ag1 (starts4.set ((p1.i : Int) : Int).toNat 1) (m3 + 1)
) ( j1 starts4
)
def law17_PoemBytes_s2 (s1 : ByteArray) (starts1 : List Int) (ek1 : Int → Option Bool) (x1 : Int × Gapi_Verse) (ag2 : Int → Option Bool) (last3 : Int) : Option Bool := grd (I64 (x1.2.Span_From - x1.2.Indent)) <| bcond (decide (((x1.2.Span_From - x1.2.Indent) : Int) ≤ last3)) ( ek1 last3
) ( bcond (decide (((s1.size : Int) : Int) < x1.2.Span_To)) ( ek1 last3
) ( bcond (decide ((x1.2.Span_To : Int) ≤ x1.2.Span_From)) ( ek1 last3
) ( grd (0 ≤ (x1.2.Span_From : Int) ∧ (x1.2.Span_From : Int) ≤ x1.2.Span_To ∧ (x1.2.Span_To : Int) ≤ (s1.size : Int)) <| bcond (!decide (cutB s1 x1.2.Span_From x1.2.Span_To = x1.2.Text)) ( ek1 last3
) ( grd (0 ≤ (x1.2.Span_From - x1.2.Indent : Int) ∧ (x1.2.Span_From - x1.2.Indent : Int) ≤ x1.2.Span_From ∧ (x1.2.Span_From : Int) ≤ (s1.size : Int)) <| grd (0 ≤ x1.2.Indent ∧ x1.2.Indent ≤ 140737488355328) <| bcond (!decide (cutB s1 (x1.2.Span_From - x1.2.Indent) x1.2.Span_From = spacesB x1.2.Indent)) ( ek1 last3
) ( andThen (strings_HasPrefix_v x1.2.Text (⟨#[32]⟩ : ByteArray)) fun (r5 : Bool) => bcond (r5) ( ek1 last3
) ( joinK (fun (j3 : Option Bool) => bcond (decide ((0 : Int) < (x1.2.Span_From - x1.2.Indent))) ( grd (I64 ((x1.2.Span_From - x1.2.Indent) - 1)) <| andThen (getB s1 ((x1.2.Span_From - x1.2.Indent) - 1)) fun (c1 : Int) => bcond ((c1 : Int) != 10) ( grd (I64 ((x1.2.Span_From - x1.2.Indent) - 1)) <| bcond ((c1 : Int) != 13) ( ek1 last3
) ( bcond (decide ((x1.2.Span_To : Int) < (s1.size : Int))) ( andThen (getB s1 x1.2.Span_To) fun (c2 : Int) => bcond ((c2 : Int) != 10) ( bcond ((c2 : Int) != 13) ( ek1 last3
) ( grd (x1.2.Text.size ≤ 4294967280) <| bcond (anyEnd x1.2.Text) ( ek1 last3
) ( andThen (getO (starts1.set ((s1.size : Int) : Int).toNat 1) x1.2.Span_From) fun (q3 : Int) => bcond ((q3 : Int) == 0) ( ek1 last3
) ( andThen (getO (starts1.set ((s1.size : Int) : Int).toNat 1) x1.2.Span_To) fun (q4 : Int) => bcond ((q4 : Int) == 0) ( ek1 last3
) ( j3
)
)
)
)
) ( grd (x1.2.Text.size ≤ 4294967280) <| bcond (anyEnd x1.2.Text) ( ek1 last3
) ( andThen (getO (starts1.set ((s1.size : Int) : Int).toNat 1) x1.2.Span_From) fun (q5 : Int) => bcond ((q5 : Int) == 0) ( ek1 last3
) ( andThen (getO (starts1.set ((s1.size : Int) : Int).toNat 1) x1.2.Span_To) fun (q6 : Int) => bcond ((q6 : Int) == 0) ( ek1 last3
) ( j3
)
)
)
)
) ( grd (x1.2.Text.size ≤ 4294967280) <| bcond (anyEnd x1.2.Text) ( ek1 last3
) ( andThen (getO (starts1.set ((s1.size : Int) : Int).toNat 1) x1.2.Span_From) fun (q7 : Int) => bcond ((q7 : Int) == 0) ( ek1 last3
) ( andThen (getO (starts1.set ((s1.size : Int) : Int).toNat 1) x1.2.Span_To) fun (q8 : Int) => bcond ((q8 : Int) == 0) ( ek1 last3
) ( j3
)
)
)
)
)
) ( bcond (decide ((x1.2.Span_To : Int) < (s1.size : Int))) ( andThen (getB s1 x1.2.Span_To) fun (c3 : Int) => bcond ((c3 : Int) != 10) ( bcond ((c3 : Int) != 13) ( ek1 last3
) ( grd (x1.2.Text.size ≤ 4294967280) <| bcond (anyEnd x1.2.Text) ( ek1 last3
) ( andThen (getO (starts1.set ((s1.size : Int) : Int).toNat 1) x1.2.Span_From) fun (q9 : Int) => bcond ((q9 : Int) == 0) ( ek1 last3
) ( andThen (getO (starts1.set ((s1.size : Int) : Int).toNat 1) x1.2.Span_To) fun (q10 : Int) => bcond ((q10 : Int) == 0) ( ek1 last3
) ( j3
)
)
)
)
) ( grd (x1.2.Text.size ≤ 4294967280) <| bcond (anyEnd x1.2.Text) ( ek1 last3
) ( andThen (getO (starts1.set ((s1.size : Int) : Int).toNat 1) x1.2.Span_From) fun (q11 : Int) => bcond ((q11 : Int) == 0) ( ek1 last3
) ( andThen (getO (starts1.set ((s1.size : Int) : Int).toNat 1) x1.2.Span_To) fun (q12 : Int) => bcond ((q12 : Int) == 0) ( ek1 last3
) ( j3
)
)
)
)
) ( grd (x1.2.Text.size ≤ 4294967280) <| bcond (anyEnd x1.2.Text) ( ek1 last3
) ( andThen (getO (starts1.set ((s1.size : Int) : Int).toNat 1) x1.2.Span_From) fun (q13 : Int) => bcond ((q13 : Int) == 0) ( ek1 last3
) ( andThen (getO (starts1.set ((s1.size : Int) : Int).toNat 1) x1.2.Span_To) fun (q14 : Int) => bcond ((q14 : Int) == 0) ( ek1 last3
) ( j3
)
)
)
)
)
) ( bcond (decide ((x1.2.Span_To : Int) < (s1.size : Int))) ( andThen (getB s1 x1.2.Span_To) fun (c4 : Int) => bcond ((c4 : Int) != 10) ( bcond ((c4 : Int) != 13) ( ek1 last3
) ( grd (x1.2.Text.size ≤ 4294967280) <| bcond (anyEnd x1.2.Text) ( ek1 last3
) ( andThen (getO (starts1.set ((s1.size : Int) : Int).toNat 1) x1.2.Span_From) fun (q15 : Int) => bcond ((q15 : Int) == 0) ( ek1 last3
) ( andThen (getO (starts1.set ((s1.size : Int) : Int).toNat 1) x1.2.Span_To) fun (q16 : Int) => bcond ((q16 : Int) == 0) ( ek1 last3
) ( j3
)
)
)
)
) ( grd (x1.2.Text.size ≤ 4294967280) <| bcond (anyEnd x1.2.Text) ( ek1 last3
) ( andThen (getO (starts1.set ((s1.size : Int) : Int).toNat 1) x1.2.Span_From) fun (q17 : Int) => bcond ((q17 : Int) == 0) ( ek1 last3
) ( andThen (getO (starts1.set ((s1.size : Int) : Int).toNat 1) x1.2.Span_To) fun (q18 : Int) => bcond ((q18 : Int) == 0) ( ek1 last3
) ( j3
)
)
)
)
) ( grd (x1.2.Text.size ≤ 4294967280) <| bcond (anyEnd x1.2.Text) ( ek1 last3
) ( andThen (getO (starts1.set ((s1.size : Int) : Int).toNat 1) x1.2.Span_From) fun (q19 : Int) => bcond ((q19 : Int) == 0) ( ek1 last3
) ( andThen (getO (starts1.set ((s1.size : Int) : Int).toNat 1) x1.2.Span_To) fun (q20 : Int) => bcond ((q20 : Int) == 0) ( ek1 last3
) ( j3
)
)
)
)
)
) ( ag2 x1.2.Span_To
)
)
)
)
)
)
)
def law17_PoemBytes_v (s1 : ByteArray) : Option Bool := andThen (law17_works_v) fun (r1 : Bool) => bcond (!r1) ( some false
) ( andThen (poem_Read_v s1) fun (r2 : ((Option Gpoem_Poem) × Gapi_Spot)) => bcond (!(eq_Gapi_Spot r2.2 (⟨0, 0⟩ : Gapi_Spot))) ( bcond (r2.1.isNone) ( andThen (law17_works_v) fun (r3 : Bool) => some r3
) ( some false
)
) ( joinK (fun (j1 : (List Int) → Option Bool) => grd (I64 ((s1.size : Int) + 1)) <| grd (0 ≤ ((s1.size : Int) + 1) ∧ ((s1.size : Int) + 1) ≤ 2147483648) <| loopG (fun _ _ => none) (law17_PoemBytes_s1 s1 j1) fuel (List.replicate ((s1.size : Int) + 1 : Int).toNat 0 : List Int) 0
) (fun (starts1 : List Int) => joinK (fun (j2 : Option Bool) => andThen (getO starts1 (s1.size : Int)) fun (q2 : Int) => andThen (r2.1) fun (p2 : Gpoem_Poem) => andThen (poem_Poem_Each_v p2) fun (r4 : Unit) => andThen (poem_Poem_Each_1_v p2) fun (its1 : (List (Int × Gapi_Verse))) => joinK (fun (ek1 : Int → Option Bool) => joinK (fun (dn1 : Int → Option Bool) => rangeG dn1 (law17_PoemBytes_s2 s1 starts1 ek1) its1 (-1)
) (fun (last3 : Int) => j2
)
) (fun (last4 : Int) => some false
)
) ( andThen (law17_works_v) fun (r6 : Bool) => some r6
)
)
)
)
set_option maxRecDepth 100000 in
set_option maxHeartbeats 4000000 in
theorem law17_PoemBytes_fn {s1 : ByteArray} {r : Bool} (h : law17_PoemBytes_v s1 = some r) : FnP Tryd.prog 3 [.string s1] (.bool r) := by
 unfold law17_PoemBytes_v at h
 refine FnP.intro Tryd.func3 rfl Tryd.ntmps3 (by simp) ?_
 intro w0 K
 refine TC.star0 ?_
 show TC _ _ _ _ _ _ _ _ _ [star ((([] : List Nat) : List Nat).map mark)]
 refine TC.seq (TC.region ?_)
 refine TO.box rfl dc rfl (fun b1 => ?_)
 refine TO.alloc zr_4 rfl dc (fun b2 => ?_)
 show TO _ _ _ _ _ _ _ _ _ _ [star ((([] : List Nat) : List Nat).map mark), cells b1 [.string s1] 9, cells b2 [.bool false] 4]
 refine TO.nil (TX.next (TC.seq (TC.seq (TC.region ?_))))
 obtain ⟨r1, hq1, h⟩ := andE h
 refine TO.callP (v := .bool r1) (vs := []) rfl dc rfl rfl rfl en_12 (law17_works_fn hq1) (TO.un rfl dc rfl un_not (TO.nil (TX.next ?_)))
 refine TC.condB rfl (fun hb1 => ?_) (fun hb1 => ?_)
 ·
  have h := condT hb1 h
  refine TC.seq (TC.region ?_)
  refine TO.store (k := 2) (l' := [.bool false]) sz_4 rfl rfl rfl rfl rfl (fun _ _ => rfl) rfl ?_
  refine TO.nil (TX.next (TC.ret (TX.thenRet ?_)))
  cases h
  exact TX.finM (rs := [.cell 2 4]) ([] : List Nat) () (.inl rfl) (Splits.open0 (k := 0) rfl) Tryd.results3 (.cons (.cell sc_4 (k := 2) rfl rfl) .nil) rfl Splits.nil
 ·
  have h := condF hb1 h
  refine TC.skip (TX.next (TC.seq (TC.region (TO.load (k := 1) sc_9 rfl dc rfl rfl rfl ?_))))
  obtain ⟨r2, hq2, h⟩ := andE h
  refine TO.call (vs := [.string s1]) rfl dc rfl rfl rfl en_13 (poem_Read_fn hq2) Splits.nil ?_
  rintro v1
  show TO _ _ _ _ _ _ _ _ _ _ [star ((([] : List Nat) : List Nat).map mark), cells b1 [.string s1] 9, cells b2 [.bool false] 4, pobj encN_Gpoem_Poem nest_Gpoem_Poem 93 v1 r2.1]
  refine TO.weakenL (L' := [star ((([] : List Nat) : List Nat).map mark), cells b1 [.string s1] 9, cells b2 [.bool false] 4, pobj encN_Gpoem_Poem nest_Gpoem_Poem 93 v1 r2.1]) (Splits.of [0, 1, 2, 3] kr rfl) (TO.move rfl dc rfl (TO.extract rfl dc rfl rfl (TO.extract rfl dc rfl rfl ?_)))
  refine TO.alloc zr_26 rfl dc (fun b3 => ?_)
  refine TO.assign rfl dc rfl (TO.stores (k := 4) (vs := [.int .i64 r2.2.Err, .int .i64 r2.2.At]) (l' := [.int .i64 r2.2.Err, .int .i64 r2.2.At]) sz_26 rfl rfl rfl rfl rfl (show _ ≤ _ by simp) rfl rfl ?_)
  show TO _ _ _ _ _ _ _ _ _ _ [star ((([] : List Nat) : List Nat).map mark), cells b1 [.string s1] 9, cells b2 [.bool false] 4, pobj encN_Gpoem_Poem nest_Gpoem_Poem 93 v1 r2.1, cells b3 [.int .i64 r2.2.Err, .int .i64 r2.2.At] 26]
  refine TO.nil (TX.next (TC.seq (TC.seq (TC.region (TO.loads (k := 4) (cs := [.int .i64 r2.2.Err, .int .i64 r2.2.At]) rw_26 rfl dc rfl rfl rfl rfl ?_)))))
  refine TO.build (v := .agg #[.int .i64 0, .int .i64 0]) (ps := []) rfl dc rfl (fun _ => by kernel_rfl) ?_
  refine TO.bin rfl dc rfl rfl (bin_neq_26 r2.2 (⟨0, 0⟩ : Gapi_Spot)) (TO.nil (TX.next ?_))
  refine TC.condB rfl (fun hb2 => ?_) (fun hb2 => ?_)
  ·
   have h := condT hb2 h
   refine TC.seq (TC.region (TO.move rfl dc rfl ?_))
   refine TO.objVal (k := 3) rfl (fun hv1 => ?_)
   refine TO.bin rfl dc rfl rfl (bin_objeql Tryd.underlying23 hv1) (TO.move rfl dc rfl ?_)
   refine TO.split (s := 23) rfl (fun hb3 => ?_) (fun hb3 => ?_)
   ·
    have h := condT hb3 h
    obtain ⟨r3, hq3, h⟩ := andE h
    refine TO.callP (v := .bool r3) (vs := []) rfl dc rfl rfl rfl en_12 (law17_works_fn hq3) (TO.pick (b := true) rfl dc rfl rfl ?_)
    refine TO.store (k := 2) (l' := [.bool r3]) sz_4 rfl rfl rfl rfl rfl (fun _ _ => rfl) rfl ?_
    refine TO.nil (TX.next (TC.ret (TX.thenRet ?_)))
    cases h
    exact TX.finM (rs := [.cell 2 4]) ([] : List Nat) () (.inl rfl) (Splits.open0 (k := 0) rfl) Tryd.results3 (.cons (.cell sc_4 (k := 2) rfl rfl) .nil) rfl Splits.nil
   ·
    have h := condF hb3 h
    refine TO.skip rfl dc (TO.pick (b := false) rfl dc rfl rfl ?_)
    refine TO.store (k := 2) (l' := [.bool false]) sz_4 rfl rfl rfl rfl rfl (fun _ _ => rfl) rfl ?_
    refine TO.nil (TX.next (TC.ret (TX.thenRet ?_)))
    cases h
    exact TX.finM (rs := [.cell 2 4]) ([] : List Nat) () (.inl rfl) (Splits.open0 (k := 0) rfl) Tryd.results3 (.cons (.cell sc_4 (k := 2) rfl rfl) .nil) rfl Splits.nil
  ·
   have h := condF hb2 h
   refine TC.skip (TX.next ?_)
   obtain ⟨j1, hj1, h⟩ := joinE h
   refine TC.cutN (β := (List Int) × Nat × Value) 1 rfl (fun b => j1 b.1 = some r) (fun b => marksOf ([] : List Nat)) (fun b => [(1, .pointer (some ⟨b1, 0, none⟩)), (2, .pointer (some ⟨b2, 0, none⟩)), (3, v1), (5, .pointer (some ⟨b.2.1, 0, none⟩))]) (fun b => [cells b1 [.string s1] 9, cells b2 [.bool false] 4, pobj encN_Gpoem_Poem nest_Gpoem_Poem 93 v1 r2.1, cells b.2.1 [b.2.2] 29, vec (encI (.i64)) 3 1 b.2.2 b.1, star ((([] : List Nat) : List Nat).map mark)]) (fun cut => ?_) ?_
   ·
    refine TC.seq (TC.region (TO.load (k := 1) sc_9 rfl dc rfl rfl rfl (TO.lenStr rfl dc rfl Tryd.underlying9 ?_)))
    obtain ⟨hg1, h⟩ := grdE h
    refine TO.bin rfl dc rfl rfl (bin_add (r := (s1.size : Int) + 1) (IntWalk.i64_in _ hg1)) ?_
    obtain ⟨hg2, h⟩ := grdE h
    refine TO.makeVec (z := 0) Tryd.underlying29 el_3 zr_3 encI_len rfl dc rfl hg2 (fun v3 => ?_)
    refine TO.alloc zr_29 rfl dc (fun b5 => ?_)
    show TO _ _ _ _ _ _ _ _ _ _ [star ((([] : List Nat) : List Nat).map mark), cells b1 [.string s1] 9, cells b2 [.bool false] 4, pobj encN_Gpoem_Poem nest_Gpoem_Poem 93 v1 r2.1, cells b3 [.int .i64 r2.2.Err, .int .i64 r2.2.At] 26, vec (encI (.i64)) 3 1 v3 (List.replicate ((s1.size : Int) + 1 : Int).toNat 0 : List Int), cells b5 [.slice none 0 0] 29]
    refine TO.store (k := 6) (l' := [v3]) sz_29 rfl rfl rfl rfl rfl (fun _ h => one_vec h (k := 5) rfl) rfl ?_
    refine TO.nil (TX.next (cut (TC.seq (TC.region (TO.load (k := 1) sc_9 rfl dc rfl rfl rfl ?_)))))
    refine TO.rangeStr Tryd.underlying9 rfl dc rfl (fun b6 => ?_)
    show TO _ _ _ _ _ _ _ _ _ _ [star ((([] : List Nat) : List Nat).map mark), cells b1 [.string s1] 9, cells b2 [.bool false] 4, pobj encN_Gpoem_Poem nest_Gpoem_Poem 93 v1 r2.1, cells b3 [.int .i64 r2.2.Err, .int .i64 r2.2.At] 26, vec (encI (.i64)) 3 1 v3 (List.replicate ((s1.size : Int) + 1 : Int).toNat 0 : List Int), cells b5 [v3] 29, obj b6 (.stringIter s1 (posAt s1 0))]
    refine TO.nil (TX.next (TC.block ?_))
    refine TC.loopD (β := Nat × (List Int) × Nat) (fun b => loopG (fun _ _ => none) (law17_PoemBytes_s1 s1 j1) b.1 b.2.1 b.2.2 = some r) (fun b => marksOf ([] : List Nat)) (fun b => [(1, .pointer (some ⟨b1, 0, none⟩)), (2, .pointer (some ⟨b2, 0, none⟩)), (3, v1), (5, .pointer (some ⟨b5, 0, none⟩)), (31, .pointer (some ⟨b6, 0, none⟩))]) (fun b => [cells b1 [.string s1] 9, cells b2 [.bool false] 4, pobj encN_Gpoem_Poem nest_Gpoem_Poem 93 v1 r2.1, cells b5 [v3] 29, vec (encI (.i64)) 3 1 v3 b.2.1, obj b6 (.stringIter s1 (posAt s1 b.2.2)), star ((([] : List Nat) : List Nat).map mark)]) (fun b => b.1) (fuel, (List.replicate ((s1.size : Int) + 1 : Int).toNat 0 : List Int), 0) (by exact h) rfl (Sbs.cons rfl (Sbs.cons rfl (Sbs.cons rfl (Sbs.cons rfl (Sbs.cons rfl (Sbs.nil)))))) (Splits.of [1, 2, 3, 6, 5, 7, 0] kr rfl) ?_
    rintro ⟨n1, starts4, m3⟩ h
    cases n1 with
    | zero => exact noneE h
    | succ n1 =>
     obtain ⟨ag1, hag1⟩ : ∃ ag, ag = loopG (fun _ _ => none) (law17_PoemBytes_s1 s1 j1) n1 := ⟨_, rfl⟩
     have h : law17_PoemBytes_s1 s1 j1 ag1 starts4 m3 = some r := by rw [hag1]; exact h
     unfold law17_PoemBytes_s1 at h
     show TC _ _ _ _ _ (marksOf ([] : List Nat)) _ _ [(1, .pointer (some ⟨b1, 0, none⟩)), (2, .pointer (some ⟨b2, 0, none⟩)), (3, v1), (5, .pointer (some ⟨b5, 0, none⟩)), (31, .pointer (some ⟨b6, 0, none⟩))] [cells b1 [.string s1] 9, cells b2 [.bool false] 4, pobj encN_Gpoem_Poem nest_Gpoem_Poem 93 v1 r2.1, cells b5 [v3] 29, vec (encI (.i64)) 3 1 v3 starts4, obj b6 (.stringIter s1 (posAt s1 m3)), star ((([] : List Nat) : List Nat).map mark)]
     refine TC.seq (TC.region ?_)
     refine TO.bySplit (b := decide (m3 < (pcs s1.data.toList).length)) (fun hb4 => ?_) (fun hb4 => ?_)
     ·
      have h := condT hb4 h
      obtain ⟨p1, hq4, h⟩ := andE h
      refine TO.nextStr (k := 5) (m := m3) (p := p1) rfl dc rfl rfl hq4 (TO.extract rfl dc rfl rfl (TO.nil (TX.next (TC.seq (TC.condT rfl (TC.skip (TX.next (TC.block (TC.seq (TC.region (TO.extract rfl dc rfl rfl (TO.assign rfl dc rfl (TO.nil ?_)))))))))))))
      refine TX.next (TC.region (TO.load (k := 3) sc_29 rfl dc rfl rfl rfl (TO.move rfl dc rfl ?_)))
      obtain ⟨q1, hq5, h⟩ := andE h
      refine TO.indexVecI (k := 4) hq5 Tryd.underlying29 sz_3 rfl dc rfl rfl rfl rfl ?_
      refine TO.storeVec (i := ((p1.i : Int) : Int).toNat) (j := 0) (k := 4) (q := q1) (q' := 1) sz_3 encI_len rfl rfl rfl rfl (getO_get hq5) rfl dc rfl (fun _ _ => rfl) ?_
      show TO _ _ _ _ _ _ _ _ _ _ [cells b1 [.string s1] 9, cells b2 [.bool false] 4, pobj encN_Gpoem_Poem nest_Gpoem_Poem 93 v1 r2.1, cells b5 [v3] 29, vec (encI (.i64)) 3 1 v3 (starts4.set ((p1.i : Int) : Int).toNat 1), obj b6 (.stringIter s1 (posAt s1 (m3 + 1))), star ((([] : List Nat) : List Nat).map mark)]
      refine TO.nil (TX.blockNormal ?_)
      subst hag1
      exact TX.againD (n1, starts4.set ((p1.i : Int) : Int).toNat 1, m3 + 1) h (Nat.lt_succ_self _) rfl (Sbs.cons rfl (Sbs.cons rfl (Sbs.cons rfl (Sbs.cons rfl (Sbs.cons rfl (Sbs.nil)))))) (Splits.of [0, 1, 2, 3, 4, 5, 6] kr rfl)
     ·
      have h := condF hb4 h
      refine TO.nextEnd (k := 5) (m := m3) rfl dc rfl rfl (Nat.le_of_not_lt (of_decide_eq_false hb4)) (TO.extract rfl dc rfl rfl (TO.nil (TX.next (TC.seq (TC.condF rfl (TC.exit (TX.thenExit (TX.thenExit (TX.blockHere ?_)))))))))
      exact TX.meetD (starts4, b5, v3) h rfl (Sbs.cons rfl (Sbs.cons rfl (Sbs.cons rfl (Sbs.cons rfl (Sbs.nil))))) (Splits.of [0, 1, 2, 3, 4, 6] kr rfl)
   ·
    rintro ⟨starts1, b4, v2⟩ h
    rw [hj1] at h
    show TC _ _ _ _ _ (marksOf ([] : List Nat)) _ _ [(1, .pointer (some ⟨b1, 0, none⟩)), (2, .pointer (some ⟨b2, 0, none⟩)), (3, v1), (5, .pointer (some ⟨b4, 0, none⟩))] [cells b1 [.string s1] 9, cells b2 [.bool false] 4, pobj encN_Gpoem_Poem nest_Gpoem_Poem 93 v1 r2.1, cells b4 [v2] 29, vec (encI (.i64)) 3 1 v2 starts1, star ((([] : List Nat) : List Nat).map mark)]
    obtain ⟨j2, hj2, h⟩ := joinE h
    refine TC.cutN (β := (List Nat)) 2 rfl (fun b => j2 = some r) (fun b => marksOf b) (fun b => [(2, .pointer (some ⟨b2, 0, none⟩))]) (fun b => [cells b2 [.bool false] 4, star ((b : List Nat).map mark)]) (fun cut => ?_) ?_
    ·
     refine TC.seq (TC.region (TO.load (k := 3) sc_29 rfl dc rfl rfl rfl (TO.load (k := 0) sc_9 rfl dc rfl rfl rfl (TO.lenStr rfl dc rfl Tryd.underlying9 ?_))))
     obtain ⟨q2, hq6, h⟩ := andE h
     refine TO.indexVecI (k := 4) hq6 Tryd.underlying29 sz_3 rfl dc rfl rfl rfl rfl ?_
     refine TO.storeVec (i := ((s1.size : Int) : Int).toNat) (j := 0) (k := 4) (q := q2) (q' := 1) sz_3 encI_len rfl rfl rfl rfl (getO_get hq6) rfl dc rfl (fun _ _ => rfl) ?_
     refine TO.nil (TX.next (TC.seq (TC.region ?_)))
     refine TO.alloc zr_3 rfl dc (fun b7 => ?_)
     show TO _ _ _ _ _ _ _ _ _ _ [cells b1 [.string s1] 9, cells b2 [.bool false] 4, pobj encN_Gpoem_Poem nest_Gpoem_Poem 93 v1 r2.1, cells b4 [v2] 29, vec (encI (.i64)) 3 1 v2 (starts1.set ((s1.size : Int) : Int).toNat 1), star ((([] : List Nat) : List Nat).map mark), cells b7 [.int .i64 0] 3]
     refine TO.store (k := 6) (l' := [.int .i64 (-1)]) sz_3 rfl rfl rfl rfl rfl (fun _ _ => rfl) rfl ?_
     refine TO.nil (TX.next (cut (TC.seq (TC.region (TO.move rfl dc rfl ?_)))))
     obtain ⟨p2, hq7, h⟩ := andE h
     refine TO.entl (As := [pobj encN_Gpoem_Poem nest_Gpoem_Poem 93 v1 r2.1]) (Splits.of [2] kr rfl) (Entl.objOpen hq7) ?_
     rintro ⟨b8, hd1, hd2⟩ hv2
     subst hv2
     show TO _ _ _ _ _ _ _ _ _ _ [cells b1 [.string s1] 9, cells b2 [.bool false] 4, emp, cells b4 [v2] 29, vec (encI (.i64)) 3 1 v2 (starts1.set ((s1.size : Int) : Int).toNat 1), star ((([] : List Nat) : List Nat).map mark), cells b7 [.int .i64 (-1)] 3, cells b8 [.string p2.told_title, hd1.v, hd2.v, .string p2.source] 93, vec enc_Gapi_Verse 36 6 hd1.v p2.told_lines, vec enc_Gapi_Span 34 2 hd2.v p2.told_stanzas]
     obtain ⟨r4, hq8, h⟩ := andE h
     refine TO.callR (vs := [.pointer (some ⟨b8, 0, none⟩)]) (Rd.nil : Rd _ _ []) rfl dc rfl rfl rfl en_14 (poem_Poem_Each_fn (bp1 := b8) (p1 := p2) (p1_h0 := hd1) (p1_h1 := hd2) hq8) Splits.nil (.own (Splits.of [7] (by kernel_rfl) rfl) (fun _ _ h => sepL.one1.1 h) (.own (Splits.of [8] (by kernel_rfl) rfl) (fun _ _ h => sepL.one1.1 h) (.own (Splits.of [9] (by kernel_rfl) rfl) (fun _ _ h => sepL.one1.1 h) .nil))) ?_
     rintro b9
     show TO _ _ _ _ _ _ _ _ _ _ [cells b1 [.string s1] 9, cells b2 [.bool false] 4, emp, cells b4 [v2] 29, vec (encI (.i64)) 3 1 v2 (starts1.set ((s1.size : Int) : Int).toNat 1), star ((([] : List Nat) : List Nat).map mark), cells b7 [.int .i64 (-1)] 3, cells b8 [.string p2.told_title, hd1.v, hd2.v, .string p2.source] 93, vec enc_Gapi_Verse 36 6 hd1.v p2.told_lines, vec enc_Gapi_Span 34 2 hd2.v p2.told_stanzas, cells b9 [.pointer (some ⟨b8, 0, none⟩)] 23]
     refine TO.weakenL (L' := [cells b1 [.string s1] 9, cells b2 [.bool false] 4, emp, cells b4 [v2] 29, vec (encI (.i64)) 3 1 v2 (starts1.set ((s1.size : Int) : Int).toNat 1), star ((([] : List Nat) : List Nat).map mark), cells b7 [.int .i64 (-1)] 3, cells b8 [.string p2.told_title, hd1.v, hd2.v, .string p2.source] 93, vec enc_Gapi_Verse 36 6 hd1.v p2.told_lines, vec enc_Gapi_Span 34 2 hd2.v p2.told_stanzas, cells b9 [.pointer (some ⟨b8, 0, none⟩)] 23]) (Splits.of [0, 1, 2, 3, 4, 5, 6, 7, 8, 9, 10] kr rfl) (TO.nil (TX.next (TC.block ?_)))
     obtain ⟨its1, hq9, h⟩ := andE h
     obtain ⟨ek1, hek1, h⟩ := joinE h
     obtain ⟨dn1, hdn1, h⟩ := joinE h
     refine TC.rangeR (α := Int × Gapi_Verse) (β := Int) (γ := Int) (δ := Nat) (ps := [44, 45]) (Rd.nil : Rd _ _ []) Ro.nil rfl en_52 (poem_Poem_Each_1_itr hq9) (fun pre b => ∀ post, its1 = pre ++ post → rangeG dn1 (law17_PoemBytes_s2 s1 starts1 ek1) post b = some r) (fun pre b => [cells b1 [.string s1] 9, cells b2 [.bool false] 4, cells b4 [v2] 29, vec (encI (.i64)) 3 1 v2 (starts1.set ((s1.size : Int) : Int).toNat 1), cells b7 [.int .i64 b] 3]) (fun c pre g => (fun g => c = .ret ∧ ek1 g = some r) g) (fun c pre g => (fun g => [cells b1 [.string s1] 9, cells b2 [.bool false] 4, cells b4 [v2] 29, vec (encI (.i64)) 3 1 v2 (starts1.set ((s1.size : Int) : Int).toNat 1), cells b7 [.int .i64 g] 3]) g) (fun pre x b j => [(1, .pointer (some ⟨b1, 0, none⟩)), (2, .pointer (some ⟨b2, 0, none⟩)), (5, .pointer (some ⟨b4, 0, none⟩)), (7, .pointer (some ⟨b7, 0, none⟩)), (43, .func (.func 52) #[] #[.pointer (some ⟨b9, 0, none⟩)]), (9, .pointer (some ⟨j, 0, none⟩))]) (fun pre x b j => [cells b1 [.string s1] 9, cells b2 [.bool false] 4, cells b4 [v2] 29, vec (encI (.i64)) 3 1 v2 (starts1.set ((s1.size : Int) : Int).toNat 1), cells b7 [.int .i64 b] 3, cells j [.string x.2.Text, .int .i64 x.2.Indent, .int .i64 x.2.Stanza, .int .i64 x.2.In, .int .i64 x.2.Span_From, .int .i64 x.2.Span_To] 36]) (-1) (fun post e => by rw [List.nil_append] at e; subst e; exact h) (Splits.of [0, 1, 3, 4, 6] kr rfl) (.own (As := [cells b9 [.pointer (some ⟨b8, 0, none⟩)] 23]) (Splits.of [10] (by kernel_rfl) rfl) (fun _ _ h => sepL.one1.1 h) (.own (As := [cells b8 [.string p2.told_title, hd1.v, hd2.v, .string p2.source] 93]) (Splits.of [7] (by kernel_rfl) rfl) (fun _ _ h => sepL.one1.1 h) (.own (As := [vec enc_Gapi_Verse 36 6 hd1.v p2.told_lines]) (Splits.of [8] (by kernel_rfl) rfl) (fun _ _ h => sepL.one1.1 h) (.own (As := [vec enc_Gapi_Span 34 2 hd2.v p2.told_stanzas]) (Splits.of [9] (by kernel_rfl) rfl) (fun _ _ h => sepL.one1.1 h) .nil)))) (fun _ => rfl) dc ?_ ?_ ?_ ?_
     ·
      rintro lp rc pre x1 post last3 w1 K1 hxs2 hext hro hinv
      refine TC.region ?_
      refine TO.alloc zr_36 rfl dc (fun b10 => ?_)
      refine TO.stores (k := 5) (vs := [.string x1.2.Text, .int .i64 x1.2.Indent, .int .i64 x1.2.Stanza, .int .i64 x1.2.In, .int .i64 x1.2.Span_From, .int .i64 x1.2.Span_To]) (l' := [.string x1.2.Text, .int .i64 x1.2.Indent, .int .i64 x1.2.Stanza, .int .i64 x1.2.In, .int .i64 x1.2.Span_From, .int .i64 x1.2.Span_To]) sz_36 rfl rfl rfl rfl rfl (show _ ≤ _ by simp) rfl rfl ?_
      show TO _ _ _ _ _ _ _ _ _ _ [cells b1 [.string s1] 9, cells b2 [.bool false] 4, cells b4 [v2] 29, vec (encI (.i64)) 3 1 v2 (starts1.set ((s1.size : Int) : Int).toNat 1), cells b7 [.int .i64 last3] 3, cells b10 [.string x1.2.Text, .int .i64 x1.2.Indent, .int .i64 x1.2.Stanza, .int .i64 x1.2.In, .int .i64 x1.2.Span_From, .int .i64 x1.2.Span_To] 36]
      refine TO.nil ?_
      exact fun a w ha hw => ⟨b10, (Sbs.cons rfl (Sbs.cons rfl (Sbs.cons rfl (Sbs.cons rfl (Sbs.cons rfl (Sbs.cons rfl (Sbs.nil))))))) _ _ _ ha, hw.weaken (Splits.of [0, 1, 2, 3, 4, 5] kr rfl)⟩
     ·
      rintro lp rc pre x1 post2 last3 jb1 w1 K1 hxs2 hext hro hinv
      have h := hinv (x1 :: post2) hxs2
      obtain ⟨ag2, hag2⟩ : ∃ ag, ag = rangeG dn1 (law17_PoemBytes_s2 s1 starts1 ek1) post2 := ⟨_, rfl⟩
      have h : law17_PoemBytes_s2 s1 starts1 ek1 x1 ag2 last3 = some r := by rw [hag2]; exact h
      unfold law17_PoemBytes_s2 at h
      show TC _ _ _ _ _ _ _ _ [(1, .pointer (some ⟨b1, 0, none⟩)), (2, .pointer (some ⟨b2, 0, none⟩)), (5, .pointer (some ⟨b4, 0, none⟩)), (7, .pointer (some ⟨b7, 0, none⟩)), (43, .func (.func 52) #[] #[.pointer (some ⟨b9, 0, none⟩)]), (9, .pointer (some ⟨jb1, 0, none⟩))] [cells b1 [.string s1] 9, cells b2 [.bool false] 4, cells b4 [v2] 29, vec (encI (.i64)) 3 1 v2 (starts1.set ((s1.size : Int) : Int).toNat 1), cells b7 [.int .i64 last3] 3, cells jb1 [.string x1.2.Text, .int .i64 x1.2.Indent, .int .i64 x1.2.Stanza, .int .i64 x1.2.In, .int .i64 x1.2.Span_From, .int .i64 x1.2.Span_To] 36]
      refine TC.block (TC.seq (TC.region (TO.fieldAddr fl_36_4 rfl dc rfl (show _ = 4 from rfl) (TO.fieldAddr fl_34_0 rfl dc rfl (show _ = 4 from rfl) (TO.load (k := 5) sc_3 rfl dc rfl rfl rfl (TO.fieldAddr fl_36_1 rfl dc rfl (show _ = 1 from rfl) (TO.load (k := 5) sc_3 rfl dc rfl rfl rfl ?_)))))))
      obtain ⟨hg3, h⟩ := grdE h
      refine TO.bin rfl dc rfl rfl (bin_sub (r := x1.2.Span_From - x1.2.Indent) (IntWalk.i64_in _ hg3)) (TO.assign rfl dc rfl (TO.nil (TX.next (TC.seq (TC.seq ?_)))))
      refine TC.bySplit (b := decide (((x1.2.Span_From - x1.2.Indent) : Int) ≤ last3)) (fun hb5 => ?_) (fun hb5 => ?_)
      ·
       have h := condT hb5 h
       refine TC.drawN 43 [(0, 52, .int .i64 (x1.2.Span_From - x1.2.Indent)), (1, 53, .int .i64 last3), (2, 54, .bool true), (3, 55, .bool true), (4, 56, undef), (5, 57, undef), (6, 58, undef), (7, 59, undef), (8, 60, undef), (9, 61, undef), (10, 62, .bool true), (11, 63, .bool true), (12, 64, undef), (13, 65, undef), (14, 66, undef), (15, 67, undef), (16, 68, undef), (17, 69, undef), (18, 70, undef), (19, 71, .bool true), (20, 72, .bool true), (21, 73, undef), (22, 74, undef), (23, 75, undef), (24, 76, undef), (25, 77, undef), (26, 78, undef), (27, 79, undef), (28, 80, undef), (29, 81, undef), (30, 82, undef), (31, 83, undef), (32, 84, .bool true), (33, 85, .bool true), (34, 86, undef), (35, 87, undef), (36, 88, undef), (37, 89, undef), (38, 90, undef), (39, 91, undef), (40, 92, undef), (41, 93, undef), (42, 94, undef)] mixed kr kr dc (by rfl) kr kr (DrawPre.cons ?_ (DrawPre.cons ?_ (DrawPre.cons ?_ (DrawPre.cons ?_ (DrawPre.cons ?_ (DrawPre.cons ?_ (DrawPre.cons ?_ (DrawPre.cons ?_ (DrawPre.cons ?_ (DrawPre.cons ?_ (DrawPre.cons ?_ (DrawPre.cons ?_ (DrawPre.cons ?_ (DrawPre.cons ?_ (DrawPre.cons ?_ (DrawPre.cons ?_ (DrawPre.cons ?_ (DrawPre.cons ?_ (DrawPre.cons ?_ (DrawPre.cons ?_ (DrawPre.cons ?_ (DrawPre.cons ?_ (DrawPre.cons ?_ (DrawPre.cons ?_ (DrawPre.cons ?_ (DrawPre.cons ?_ (DrawPre.cons ?_ (DrawPre.cons ?_ (DrawPre.cons ?_ (DrawPre.cons ?_ (DrawPre.cons ?_ (DrawPre.cons ?_ (DrawPre.cons ?_ (DrawPre.cons ?_ (DrawPre.cons ?_ (DrawPre.cons ?_ (DrawPre.cons ?_ (DrawPre.cons ?_ (DrawPre.cons ?_ (DrawPre.cons ?_ (DrawPre.cons ?_ (DrawPre.cons ?_ (DrawPre.cons ?_ DrawPre.nil))))))))))))))))))))))))))))))))))))))))))) ?_
       ·
        intro D hn hd hcl hu hi
        refine TO.move rfl dc (dl_old (by rfl) rfl) ?_
        exact TX.quiet 0 hu hi rfl
       ·
        intro D hn hd hcl hu hi
        refine TO.load (k := 4) sc_3 rfl dc (dl_old (by rfl) rfl) rfl rfl ?_
        exact TX.quiet 1 hu hi rfl
       ·
        intro D hn hd hcl hu hi
        refine TO.bin rfl dc (dl_lookup (m := 0) hu rfl (hd 0 dc)) (dl_lookup (m := 1) hu rfl (hd 1 dc)) bin_leq (TO.rewH (show Value.bool (decide (((x1.2.Span_From - x1.2.Indent) : Int) ≤ last3)) = Value.bool true from congrArg Value.bool hb5) ?_)
        exact TX.quiet 2 hu hi rfl
       ·
        intro D hn hd hcl hu hi
        refine TO.move rfl dc (dl_lookup (m := 2) hu rfl (hd 2 dc)) ?_
        exact TX.quiet 3 hu hi rfl
       ·
        intro D hn hd hcl hu hi
        refine TO.skip (gd_F rfl (dl_lookup (m := 3) hu rfl (hd 3 dc))) dc ?_
        exact TX.quiet 4 hu hi rfl
       ·
        intro D hn hd hcl hu hi
        refine TO.skip (gd_F rfl (dl_lookup (m := 3) hu rfl (hd 3 dc))) dc ?_
        exact TX.quiet 5 hu hi rfl
       ·
        intro D hn hd hcl hu hi
        refine TO.skip (gd_F rfl (dl_lookup (m := 3) hu rfl (hd 3 dc))) dc ?_
        exact TX.quiet 6 hu hi rfl
       ·
        intro D hn hd hcl hu hi
        refine TO.skip (gd_F rfl (dl_lookup (m := 3) hu rfl (hd 3 dc))) dc ?_
        exact TX.quiet 7 hu hi rfl
       ·
        intro D hn hd hcl hu hi
        refine TO.skip (gd_F rfl (dl_lookup (m := 3) hu rfl (hd 3 dc))) dc ?_
        exact TX.quiet 8 hu hi rfl
       ·
        intro D hn hd hcl hu hi
        refine TO.skip (gd_F rfl (dl_lookup (m := 3) hu rfl (hd 3 dc))) dc ?_
        exact TX.quiet 9 hu hi rfl
       ·
        intro D hn hd hcl hu hi
        refine TO.pick (b := true) rfl dc (dl_lookup (m := 3) hu rfl (hd 3 dc)) rfl ?_
        exact TX.quiet 10 hu hi rfl
       ·
        intro D hn hd hcl hu hi
        refine TO.move rfl dc (dl_lookup (m := 10) hu rfl (hd 10 dc)) ?_
        exact TX.quiet 11 hu hi rfl
       ·
        intro D hn hd hcl hu hi
        refine TO.skip (gd_F rfl (dl_lookup (m := 11) hu rfl (hd 11 dc))) dc ?_
        exact TX.quiet 12 hu hi rfl
       ·
        intro D hn hd hcl hu hi
        refine TO.skip (gd_F rfl (dl_lookup (m := 11) hu rfl (hd 11 dc))) dc ?_
        exact TX.quiet 13 hu hi rfl
       ·
        intro D hn hd hcl hu hi
        refine TO.skip (gd_F rfl (dl_lookup (m := 11) hu rfl (hd 11 dc))) dc ?_
        exact TX.quiet 14 hu hi rfl
       ·
        intro D hn hd hcl hu hi
        refine TO.skip (gd_F rfl (dl_lookup (m := 11) hu rfl (hd 11 dc))) dc ?_
        exact TX.quiet 15 hu hi rfl
       ·
        intro D hn hd hcl hu hi
        refine TO.skip (gd_F rfl (dl_lookup (m := 11) hu rfl (hd 11 dc))) dc ?_
        exact TX.quiet 16 hu hi rfl
       ·
        intro D hn hd hcl hu hi
        refine TO.skip (gd_F rfl (dl_lookup (m := 11) hu rfl (hd 11 dc))) dc ?_
        exact TX.quiet 17 hu hi rfl
       ·
        intro D hn hd hcl hu hi
        refine TO.skip (gd_F rfl (dl_lookup (m := 11) hu rfl (hd 11 dc))) dc ?_
        exact TX.quiet 18 hu hi rfl
       ·
        intro D hn hd hcl hu hi
        refine TO.pick (b := true) rfl dc (dl_lookup (m := 11) hu rfl (hd 11 dc)) rfl ?_
        exact TX.quiet 19 hu hi rfl
       ·
        intro D hn hd hcl hu hi
        refine TO.move rfl dc (dl_lookup (m := 19) hu rfl (hd 19 dc)) ?_
        exact TX.quiet 20 hu hi rfl
       ·
        intro D hn hd hcl hu hi
        refine TO.skip (gd_F rfl (dl_lookup (m := 20) hu rfl (hd 20 dc))) dc ?_
        exact TX.quiet 21 hu hi rfl
       ·
        intro D hn hd hcl hu hi
        refine TO.skip (gd_F rfl (dl_lookup (m := 20) hu rfl (hd 20 dc))) dc ?_
        exact TX.quiet 22 hu hi rfl
       ·
        intro D hn hd hcl hu hi
        refine TO.skip (gd_F rfl (dl_lookup (m := 20) hu rfl (hd 20 dc))) dc ?_
        exact TX.quiet 23 hu hi rfl
       ·
        intro D hn hd hcl hu hi
        refine TO.skip (gd_F rfl (dl_lookup (m := 20) hu rfl (hd 20 dc))) dc ?_
        exact TX.quiet 24 hu hi rfl
       ·
        intro D hn hd hcl hu hi
        refine TO.skip (gd_F rfl (dl_lookup (m := 20) hu rfl (hd 20 dc))) dc ?_
        exact TX.quiet 25 hu hi rfl
       ·
        intro D hn hd hcl hu hi
        refine TO.skip (gd_F rfl (dl_lookup (m := 20) hu rfl (hd 20 dc))) dc ?_
        exact TX.quiet 26 hu hi rfl
       ·
        intro D hn hd hcl hu hi
        refine TO.skip (gd_F rfl (dl_lookup (m := 20) hu rfl (hd 20 dc))) dc ?_
        exact TX.quiet 27 hu hi rfl
       ·
        intro D hn hd hcl hu hi
        refine TO.skip (gd_F rfl (dl_lookup (m := 20) hu rfl (hd 20 dc))) dc ?_
        exact TX.quiet 28 hu hi rfl
       ·
        intro D hn hd hcl hu hi
        refine TO.skip (gd_F rfl (dl_lookup (m := 20) hu rfl (hd 20 dc))) dc ?_
        exact TX.quiet 29 hu hi rfl
       ·
        intro D hn hd hcl hu hi
        refine TO.skip (gd_F rfl (dl_lookup (m := 20) hu rfl (hd 20 dc))) dc ?_
        exact TX.quiet 30 hu hi rfl
       ·
        intro D hn hd hcl hu hi
        refine TO.skip (gd_F rfl (dl_lookup (m := 20) hu rfl (hd 20 dc))) dc ?_
        exact TX.quiet 31 hu hi rfl
       ·
        intro D hn hd hcl hu hi
        refine TO.pick (b := true) rfl dc (dl_lookup (m := 20) hu rfl (hd 20 dc)) rfl ?_
        exact TX.quiet 32 hu hi rfl
       ·
        intro D hn hd hcl hu hi
        refine TO.move rfl dc (dl_lookup (m := 32) hu rfl (hd 32 dc)) ?_
        exact TX.quiet 33 hu hi rfl
       ·
        intro D hn hd hcl hu hi
        refine TO.skip (gd_F rfl (dl_lookup (m := 33) hu rfl (hd 33 dc))) dc ?_
        exact TX.quiet 34 hu hi rfl
       ·
        intro D hn hd hcl hu hi
        refine TO.skip (gd_F rfl (dl_lookup (m := 33) hu rfl (hd 33 dc))) dc ?_
        exact TX.quiet 35 hu hi rfl
       ·
        intro D hn hd hcl hu hi
        refine TO.skip (gd_F rfl (dl_lookup (m := 33) hu rfl (hd 33 dc))) dc ?_
        exact TX.quiet 36 hu hi rfl
       ·
        intro D hn hd hcl hu hi
        refine TO.skip (gd_F rfl (dl_lookup (m := 33) hu rfl (hd 33 dc))) dc ?_
        exact TX.quiet 37 hu hi rfl
       ·
        intro D hn hd hcl hu hi
        refine TO.skip (gd_F rfl (dl_lookup (m := 33) hu rfl (hd 33 dc))) dc ?_
        exact TX.quiet 38 hu hi rfl
       ·
        intro D hn hd hcl hu hi
        refine TO.skip (gd_F rfl (dl_lookup (m := 33) hu rfl (hd 33 dc))) dc ?_
        exact TX.quiet 39 hu hi rfl
       ·
        intro D hn hd hcl hu hi
        refine TO.skip (gd_F rfl (dl_lookup (m := 33) hu rfl (hd 33 dc))) dc ?_
        exact TX.quiet 40 hu hi rfl
       ·
        intro D hn hd hcl hu hi
        refine TO.skip (gd_F rfl (dl_lookup (m := 33) hu rfl (hd 33 dc))) dc ?_
        exact TX.quiet 41 hu hi rfl
       ·
        intro D hn hd hcl hu hi
        refine TO.skip (gd_F rfl (dl_lookup (m := 33) hu rfl (hd 33 dc))) dc ?_
        exact TX.quiet 42 hu hi rfl
       refine TO.skip rfl dc (TO.pick (b := true) rfl dc rfl rfl (TO.move rfl dc rfl (TO.skip rfl dc (TO.skip rfl dc (TO.skip rfl dc (TO.pick (b := true) rfl dc rfl rfl (TO.nil (TX.next (TC.condT rfl (TC.seq (TC.region ?_)))))))))))
       refine TO.store (k := 1) (l' := [.bool false]) sz_4 rfl rfl rfl rfl rfl (fun _ _ => rfl) rfl ?_
       refine TO.nil (TX.next (TC.ret (TX.thenRet (TX.blockRet ?_))))
       exact TX.roundRet last3 (show _ ∧ _ from ⟨rfl, h⟩) (Splits.of [0, 1, 2, 3, 4] kr rfl)
      ·
       have h := condF hb5 h
       refine TC.bySplit (b := decide (((s1.size : Int) : Int) < x1.2.Span_To)) (fun hb6 => ?_) (fun hb6 => ?_)
       ·
        have h := condT hb6 h
        refine TC.drawN 43 [(0, 52, .int .i64 (x1.2.Span_From - x1.2.Indent)), (1, 53, .int .i64 last3), (2, 54, .bool false), (3, 55, .bool false), (4, 56, .pointer (some ⟨jb1, 4, none⟩)), (5, 57, .pointer (some ⟨jb1, 5, none⟩)), (6, 58, .int .i64 x1.2.Span_To), (7, 59, .string s1), (8, 60, .int .i64 (s1.size : Int)), (9, 61, .bool true), (10, 62, .bool true), (11, 63, .bool true), (12, 64, undef), (13, 65, undef), (14, 66, undef), (15, 67, undef), (16, 68, undef), (17, 69, undef), (18, 70, undef), (19, 71, .bool true), (20, 72, .bool true), (21, 73, undef), (22, 74, undef), (23, 75, undef), (24, 76, undef), (25, 77, undef), (26, 78, undef), (27, 79, undef), (28, 80, undef), (29, 81, undef), (30, 82, undef), (31, 83, undef), (32, 84, .bool true), (33, 85, .bool true), (34, 86, undef), (35, 87, undef), (36, 88, undef), (37, 89, undef), (38, 90, undef), (39, 91, undef), (40, 92, undef), (41, 93, undef), (42, 94, undef)] mixed kr kr dc (by rfl) kr kr (DrawPre.cons ?_ (DrawPre.cons ?_ (DrawPre.cons ?_ (DrawPre.cons ?_ (DrawPre.cons ?_ (DrawPre.cons ?_ (DrawPre.cons ?_ (DrawPre.cons ?_ (DrawPre.cons ?_ (DrawPre.cons ?_ (DrawPre.cons ?_ (DrawPre.cons ?_ (DrawPre.cons ?_ (DrawPre.cons ?_ (DrawPre.cons ?_ (DrawPre.cons ?_ (DrawPre.cons ?_ (DrawPre.cons ?_ (DrawPre.cons ?_ (DrawPre.cons ?_ (DrawPre.cons ?_ (DrawPre.cons ?_ (DrawPre.cons ?_ (DrawPre.cons ?_ (DrawPre.cons ?_ (DrawPre.cons ?_ (DrawPre.cons ?_ (DrawPre.cons ?_ (DrawPre.cons ?_ (DrawPre.cons ?_ (DrawPre.cons ?_ (DrawPre.cons ?_ (DrawPre.cons ?_ (DrawPre.cons ?_ (DrawPre.cons ?_ (DrawPre.cons ?_ (DrawPre.cons ?_ (DrawPre.cons ?_ (DrawPre.cons ?_ (DrawPre.cons ?_ (DrawPre.cons ?_ (DrawPre.cons ?_ (DrawPre.cons ?_ DrawPre.nil))))))))))))))))))))))))))))))))))))))))))) ?_
        ·
         intro D hn hd hcl hu hi
         refine TO.move rfl dc (dl_old (by rfl) rfl) ?_
         exact TX.quiet 0 hu hi rfl
        ·
         intro D hn hd hcl hu hi
         refine TO.load (k := 4) sc_3 rfl dc (dl_old (by rfl) rfl) rfl rfl ?_
         exact TX.quiet 1 hu hi rfl
        ·
         intro D hn hd hcl hu hi
         refine TO.bin rfl dc (dl_lookup (m := 0) hu rfl (hd 0 dc)) (dl_lookup (m := 1) hu rfl (hd 1 dc)) bin_leq (TO.rewH (show Value.bool (decide (((x1.2.Span_From - x1.2.Indent) : Int) ≤ last3)) = Value.bool false from congrArg Value.bool hb5) ?_)
         exact TX.quiet 2 hu hi rfl
        ·
         intro D hn hd hcl hu hi
         refine TO.move rfl dc (dl_lookup (m := 2) hu rfl (hd 2 dc)) ?_
         exact TX.quiet 3 hu hi rfl
        ·
         intro D hn hd hcl hu hi
         refine TO.fieldAddr fl_36_4 (gd_T rfl (dl_lookup (m := 3) hu rfl (hd 3 dc))) dc (dl_old (by rfl) rfl) (show _ = 4 from rfl) ?_
         exact TX.quiet 4 hu hi rfl
        ·
         intro D hn hd hcl hu hi
         refine TO.fieldAddr fl_34_1 (gd_T rfl (dl_lookup (m := 3) hu rfl (hd 3 dc))) dc (dl_lookup (m := 4) hu rfl (hd 4 dc)) (show _ = 5 from rfl) ?_
         exact TX.quiet 5 hu hi rfl
        ·
         intro D hn hd hcl hu hi
         refine TO.load (k := 5) sc_3 (gd_T rfl (dl_lookup (m := 3) hu rfl (hd 3 dc))) dc (dl_lookup (m := 5) hu rfl (hd 5 dc)) rfl rfl ?_
         exact TX.quiet 6 hu hi rfl
        ·
         intro D hn hd hcl hu hi
         refine TO.load (k := 0) sc_9 (gd_T rfl (dl_lookup (m := 3) hu rfl (hd 3 dc))) dc (dl_old (by rfl) rfl) rfl rfl ?_
         exact TX.quiet 7 hu hi rfl
        ·
         intro D hn hd hcl hu hi
         refine TO.lenStr (gd_T rfl (dl_lookup (m := 3) hu rfl (hd 3 dc))) dc (dl_lookup (m := 7) hu rfl (hd 7 dc)) Tryd.underlying9 ?_
         exact TX.quiet 8 hu hi rfl
        ·
         intro D hn hd hcl hu hi
         refine TO.bin (gd_T rfl (dl_lookup (m := 3) hu rfl (hd 3 dc))) dc (dl_lookup (m := 6) hu rfl (hd 6 dc)) (dl_lookup (m := 8) hu rfl (hd 8 dc)) bin_gtr (TO.rewH (show Value.bool (decide (((s1.size : Int) : Int) < x1.2.Span_To)) = Value.bool true from congrArg Value.bool hb6) ?_)
         exact TX.quiet 9 hu hi rfl
        ·
         intro D hn hd hcl hu hi
         refine TO.pick (b := false) rfl dc (dl_lookup (m := 3) hu rfl (hd 3 dc)) (dl_lookup (m := 9) hu rfl (hd 9 dc)) ?_
         exact TX.quiet 10 hu hi rfl
        ·
         intro D hn hd hcl hu hi
         refine TO.move rfl dc (dl_lookup (m := 10) hu rfl (hd 10 dc)) ?_
         exact TX.quiet 11 hu hi rfl
        ·
         intro D hn hd hcl hu hi
         refine TO.skip (gd_F rfl (dl_lookup (m := 11) hu rfl (hd 11 dc))) dc ?_
         exact TX.quiet 12 hu hi rfl
        ·
         intro D hn hd hcl hu hi
         refine TO.skip (gd_F rfl (dl_lookup (m := 11) hu rfl (hd 11 dc))) dc ?_
         exact TX.quiet 13 hu hi rfl
        ·
         intro D hn hd hcl hu hi
         refine TO.skip (gd_F rfl (dl_lookup (m := 11) hu rfl (hd 11 dc))) dc ?_
         exact TX.quiet 14 hu hi rfl
        ·
         intro D hn hd hcl hu hi
         refine TO.skip (gd_F rfl (dl_lookup (m := 11) hu rfl (hd 11 dc))) dc ?_
         exact TX.quiet 15 hu hi rfl
        ·
         intro D hn hd hcl hu hi
         refine TO.skip (gd_F rfl (dl_lookup (m := 11) hu rfl (hd 11 dc))) dc ?_
         exact TX.quiet 16 hu hi rfl
        ·
         intro D hn hd hcl hu hi
         refine TO.skip (gd_F rfl (dl_lookup (m := 11) hu rfl (hd 11 dc))) dc ?_
         exact TX.quiet 17 hu hi rfl
        ·
         intro D hn hd hcl hu hi
         refine TO.skip (gd_F rfl (dl_lookup (m := 11) hu rfl (hd 11 dc))) dc ?_
         exact TX.quiet 18 hu hi rfl
        ·
         intro D hn hd hcl hu hi
         refine TO.pick (b := true) rfl dc (dl_lookup (m := 11) hu rfl (hd 11 dc)) rfl ?_
         exact TX.quiet 19 hu hi rfl
        ·
         intro D hn hd hcl hu hi
         refine TO.move rfl dc (dl_lookup (m := 19) hu rfl (hd 19 dc)) ?_
         exact TX.quiet 20 hu hi rfl
        ·
         intro D hn hd hcl hu hi
         refine TO.skip (gd_F rfl (dl_lookup (m := 20) hu rfl (hd 20 dc))) dc ?_
         exact TX.quiet 21 hu hi rfl
        ·
         intro D hn hd hcl hu hi
         refine TO.skip (gd_F rfl (dl_lookup (m := 20) hu rfl (hd 20 dc))) dc ?_
         exact TX.quiet 22 hu hi rfl
        ·
         intro D hn hd hcl hu hi
         refine TO.skip (gd_F rfl (dl_lookup (m := 20) hu rfl (hd 20 dc))) dc ?_
         exact TX.quiet 23 hu hi rfl
        ·
         intro D hn hd hcl hu hi
         refine TO.skip (gd_F rfl (dl_lookup (m := 20) hu rfl (hd 20 dc))) dc ?_
         exact TX.quiet 24 hu hi rfl
        ·
         intro D hn hd hcl hu hi
         refine TO.skip (gd_F rfl (dl_lookup (m := 20) hu rfl (hd 20 dc))) dc ?_
         exact TX.quiet 25 hu hi rfl
        ·
         intro D hn hd hcl hu hi
         refine TO.skip (gd_F rfl (dl_lookup (m := 20) hu rfl (hd 20 dc))) dc ?_
         exact TX.quiet 26 hu hi rfl
        ·
         intro D hn hd hcl hu hi
         refine TO.skip (gd_F rfl (dl_lookup (m := 20) hu rfl (hd 20 dc))) dc ?_
         exact TX.quiet 27 hu hi rfl
        ·
         intro D hn hd hcl hu hi
         refine TO.skip (gd_F rfl (dl_lookup (m := 20) hu rfl (hd 20 dc))) dc ?_
         exact TX.quiet 28 hu hi rfl
        ·
         intro D hn hd hcl hu hi
         refine TO.skip (gd_F rfl (dl_lookup (m := 20) hu rfl (hd 20 dc))) dc ?_
         exact TX.quiet 29 hu hi rfl
        ·
         intro D hn hd hcl hu hi
         refine TO.skip (gd_F rfl (dl_lookup (m := 20) hu rfl (hd 20 dc))) dc ?_
         exact TX.quiet 30 hu hi rfl
        ·
         intro D hn hd hcl hu hi
         refine TO.skip (gd_F rfl (dl_lookup (m := 20) hu rfl (hd 20 dc))) dc ?_
         exact TX.quiet 31 hu hi rfl
        ·
         intro D hn hd hcl hu hi
         refine TO.pick (b := true) rfl dc (dl_lookup (m := 20) hu rfl (hd 20 dc)) rfl ?_
         exact TX.quiet 32 hu hi rfl
        ·
         intro D hn hd hcl hu hi
         refine TO.move rfl dc (dl_lookup (m := 32) hu rfl (hd 32 dc)) ?_
         exact TX.quiet 33 hu hi rfl
        ·
         intro D hn hd hcl hu hi
         refine TO.skip (gd_F rfl (dl_lookup (m := 33) hu rfl (hd 33 dc))) dc ?_
         exact TX.quiet 34 hu hi rfl
        ·
         intro D hn hd hcl hu hi
         refine TO.skip (gd_F rfl (dl_lookup (m := 33) hu rfl (hd 33 dc))) dc ?_
         exact TX.quiet 35 hu hi rfl
        ·
         intro D hn hd hcl hu hi
         refine TO.skip (gd_F rfl (dl_lookup (m := 33) hu rfl (hd 33 dc))) dc ?_
         exact TX.quiet 36 hu hi rfl
        ·
         intro D hn hd hcl hu hi
         refine TO.skip (gd_F rfl (dl_lookup (m := 33) hu rfl (hd 33 dc))) dc ?_
         exact TX.quiet 37 hu hi rfl
        ·
         intro D hn hd hcl hu hi
         refine TO.skip (gd_F rfl (dl_lookup (m := 33) hu rfl (hd 33 dc))) dc ?_
         exact TX.quiet 38 hu hi rfl
        ·
         intro D hn hd hcl hu hi
         refine TO.skip (gd_F rfl (dl_lookup (m := 33) hu rfl (hd 33 dc))) dc ?_
         exact TX.quiet 39 hu hi rfl
        ·
         intro D hn hd hcl hu hi
         refine TO.skip (gd_F rfl (dl_lookup (m := 33) hu rfl (hd 33 dc))) dc ?_
         exact TX.quiet 40 hu hi rfl
        ·
         intro D hn hd hcl hu hi
         refine TO.skip (gd_F rfl (dl_lookup (m := 33) hu rfl (hd 33 dc))) dc ?_
         exact TX.quiet 41 hu hi rfl
        ·
         intro D hn hd hcl hu hi
         refine TO.skip (gd_F rfl (dl_lookup (m := 33) hu rfl (hd 33 dc))) dc ?_
         exact TX.quiet 42 hu hi rfl
        refine TO.skip rfl dc (TO.pick (b := true) rfl dc rfl rfl (TO.move rfl dc rfl (TO.skip rfl dc (TO.skip rfl dc (TO.skip rfl dc (TO.pick (b := true) rfl dc rfl rfl (TO.nil (TX.next (TC.condT rfl (TC.seq (TC.region ?_)))))))))))
        refine TO.store (k := 1) (l' := [.bool false]) sz_4 rfl rfl rfl rfl rfl (fun _ _ => rfl) rfl ?_
        refine TO.nil (TX.next (TC.ret (TX.thenRet (TX.blockRet ?_))))
        exact TX.roundRet last3 (show _ ∧ _ from ⟨rfl, h⟩) (Splits.of [0, 1, 2, 3, 4] kr rfl)
       ·
        have h := condF hb6 h
        refine TC.bySplit (b := decide ((x1.2.Span_To : Int) ≤ x1.2.Span_From)) (fun hb7 => ?_) (fun hb7 => ?_)
        ·
         have h := condT hb7 h
         refine TC.drawN 43 [(0, 52, .int .i64 (x1.2.Span_From - x1.2.Indent)), (1, 53, .int .i64 last3), (2, 54, .bool false), (3, 55, .bool false), (4, 56, .pointer (some ⟨jb1, 4, none⟩)), (5, 57, .pointer (some ⟨jb1, 5, none⟩)), (6, 58, .int .i64 x1.2.Span_To), (7, 59, .string s1), (8, 60, .int .i64 (s1.size : Int)), (9, 61, .bool false), (10, 62, .bool false), (11, 63, .bool false), (12, 64, .pointer (some ⟨jb1, 4, none⟩)), (13, 65, .pointer (some ⟨jb1, 5, none⟩)), (14, 66, .int .i64 x1.2.Span_To), (15, 67, .pointer (some ⟨jb1, 4, none⟩)), (16, 68, .pointer (some ⟨jb1, 4, none⟩)), (17, 69, .int .i64 x1.2.Span_From), (18, 70, .bool true), (19, 71, .bool true), (20, 72, .bool true), (21, 73, undef), (22, 74, undef), (23, 75, undef), (24, 76, undef), (25, 77, undef), (26, 78, undef), (27, 79, undef), (28, 80, undef), (29, 81, undef), (30, 82, undef), (31, 83, undef), (32, 84, .bool true), (33, 85, .bool true), (34, 86, undef), (35, 87, undef), (36, 88, undef), (37, 89, undef), (38, 90, undef), (39, 91, undef), (40, 92, undef), (41, 93, undef), (42, 94, undef)] mixed kr kr dc (by rfl) kr kr (DrawPre.cons ?_ (DrawPre.cons ?_ (DrawPre.cons ?_ (DrawPre.cons ?_ (DrawPre.cons ?_ (DrawPre.cons ?_ (DrawPre.cons ?_ (DrawPre.cons ?_ (DrawPre.cons ?_ (DrawPre.cons ?_ (DrawPre.cons ?_ (DrawPre.cons ?_ (DrawPre.cons ?_ (DrawPre.cons ?_ (DrawPre.cons ?_ (DrawPre.cons ?_ (DrawPre.cons ?_ (DrawPre.cons ?_ (DrawPre.cons ?_ (DrawPre.cons ?_ (DrawPre.cons ?_ (DrawPre.cons ?_ (DrawPre.cons ?_ (DrawPre.cons ?_ (DrawPre.cons ?_ (DrawPre.cons ?_ (DrawPre.cons ?_ (DrawPre.cons ?_ (DrawPre.cons ?_ (DrawPre.cons ?_ (DrawPre.cons ?_ (DrawPre.cons ?_ (DrawPre.cons ?_ (DrawPre.cons ?_ (DrawPre.cons ?_ (DrawPre.cons ?_ (DrawPre.cons ?_ (DrawPre.cons ?_ (DrawPre.cons ?_ (DrawPre.cons ?_ (DrawPre.cons ?_ (DrawPre.cons ?_ (DrawPre.cons ?_ DrawPre.nil))))))))))))))))))))))))))))))))))))))))))) ?_
         ·
          intro D hn hd hcl hu hi
          refine TO.move rfl dc (dl_old (by rfl) rfl) ?_
          exact TX.quiet 0 hu hi rfl
         ·
          intro D hn hd hcl hu hi
          refine TO.load (k := 4) sc_3 rfl dc (dl_old (by rfl) rfl) rfl rfl ?_
          exact TX.quiet 1 hu hi rfl
         ·
          intro D hn hd hcl hu hi
          refine TO.bin rfl dc (dl_lookup (m := 0) hu rfl (hd 0 dc)) (dl_lookup (m := 1) hu rfl (hd 1 dc)) bin_leq (TO.rewH (show Value.bool (decide (((x1.2.Span_From - x1.2.Indent) : Int) ≤ last3)) = Value.bool false from congrArg Value.bool hb5) ?_)
          exact TX.quiet 2 hu hi rfl
         ·
          intro D hn hd hcl hu hi
          refine TO.move rfl dc (dl_lookup (m := 2) hu rfl (hd 2 dc)) ?_
          exact TX.quiet 3 hu hi rfl
         ·
          intro D hn hd hcl hu hi
          refine TO.fieldAddr fl_36_4 (gd_T rfl (dl_lookup (m := 3) hu rfl (hd 3 dc))) dc (dl_old (by rfl) rfl) (show _ = 4 from rfl) ?_
          exact TX.quiet 4 hu hi rfl
         ·
          intro D hn hd hcl hu hi
          refine TO.fieldAddr fl_34_1 (gd_T rfl (dl_lookup (m := 3) hu rfl (hd 3 dc))) dc (dl_lookup (m := 4) hu rfl (hd 4 dc)) (show _ = 5 from rfl) ?_
          exact TX.quiet 5 hu hi rfl
         ·
          intro D hn hd hcl hu hi
          refine TO.load (k := 5) sc_3 (gd_T rfl (dl_lookup (m := 3) hu rfl (hd 3 dc))) dc (dl_lookup (m := 5) hu rfl (hd 5 dc)) rfl rfl ?_
          exact TX.quiet 6 hu hi rfl
         ·
          intro D hn hd hcl hu hi
          refine TO.load (k := 0) sc_9 (gd_T rfl (dl_lookup (m := 3) hu rfl (hd 3 dc))) dc (dl_old (by rfl) rfl) rfl rfl ?_
          exact TX.quiet 7 hu hi rfl
         ·
          intro D hn hd hcl hu hi
          refine TO.lenStr (gd_T rfl (dl_lookup (m := 3) hu rfl (hd 3 dc))) dc (dl_lookup (m := 7) hu rfl (hd 7 dc)) Tryd.underlying9 ?_
          exact TX.quiet 8 hu hi rfl
         ·
          intro D hn hd hcl hu hi
          refine TO.bin (gd_T rfl (dl_lookup (m := 3) hu rfl (hd 3 dc))) dc (dl_lookup (m := 6) hu rfl (hd 6 dc)) (dl_lookup (m := 8) hu rfl (hd 8 dc)) bin_gtr (TO.rewH (show Value.bool (decide (((s1.size : Int) : Int) < x1.2.Span_To)) = Value.bool false from congrArg Value.bool hb6) ?_)
          exact TX.quiet 9 hu hi rfl
         ·
          intro D hn hd hcl hu hi
          refine TO.pick (b := false) rfl dc (dl_lookup (m := 3) hu rfl (hd 3 dc)) (dl_lookup (m := 9) hu rfl (hd 9 dc)) ?_
          exact TX.quiet 10 hu hi rfl
         ·
          intro D hn hd hcl hu hi
          refine TO.move rfl dc (dl_lookup (m := 10) hu rfl (hd 10 dc)) ?_
          exact TX.quiet 11 hu hi rfl
         ·
          intro D hn hd hcl hu hi
          refine TO.fieldAddr fl_36_4 (gd_T rfl (dl_lookup (m := 11) hu rfl (hd 11 dc))) dc (dl_old (by rfl) rfl) (show _ = 4 from rfl) ?_
          exact TX.quiet 12 hu hi rfl
         ·
          intro D hn hd hcl hu hi
          refine TO.fieldAddr fl_34_1 (gd_T rfl (dl_lookup (m := 11) hu rfl (hd 11 dc))) dc (dl_lookup (m := 12) hu rfl (hd 12 dc)) (show _ = 5 from rfl) ?_
          exact TX.quiet 13 hu hi rfl
         ·
          intro D hn hd hcl hu hi
          refine TO.load (k := 5) sc_3 (gd_T rfl (dl_lookup (m := 11) hu rfl (hd 11 dc))) dc (dl_lookup (m := 13) hu rfl (hd 13 dc)) rfl rfl ?_
          exact TX.quiet 14 hu hi rfl
         ·
          intro D hn hd hcl hu hi
          refine TO.fieldAddr fl_36_4 (gd_T rfl (dl_lookup (m := 11) hu rfl (hd 11 dc))) dc (dl_old (by rfl) rfl) (show _ = 4 from rfl) ?_
          exact TX.quiet 15 hu hi rfl
         ·
          intro D hn hd hcl hu hi
          refine TO.fieldAddr fl_34_0 (gd_T rfl (dl_lookup (m := 11) hu rfl (hd 11 dc))) dc (dl_lookup (m := 15) hu rfl (hd 15 dc)) (show _ = 4 from rfl) ?_
          exact TX.quiet 16 hu hi rfl
         ·
          intro D hn hd hcl hu hi
          refine TO.load (k := 5) sc_3 (gd_T rfl (dl_lookup (m := 11) hu rfl (hd 11 dc))) dc (dl_lookup (m := 16) hu rfl (hd 16 dc)) rfl rfl ?_
          exact TX.quiet 17 hu hi rfl
         ·
          intro D hn hd hcl hu hi
          refine TO.bin (gd_T rfl (dl_lookup (m := 11) hu rfl (hd 11 dc))) dc (dl_lookup (m := 14) hu rfl (hd 14 dc)) (dl_lookup (m := 17) hu rfl (hd 17 dc)) bin_leq (TO.rewH (show Value.bool (decide ((x1.2.Span_To : Int) ≤ x1.2.Span_From)) = Value.bool true from congrArg Value.bool hb7) ?_)
          exact TX.quiet 18 hu hi rfl
         ·
          intro D hn hd hcl hu hi
          refine TO.pick (b := false) rfl dc (dl_lookup (m := 11) hu rfl (hd 11 dc)) (dl_lookup (m := 18) hu rfl (hd 18 dc)) ?_
          exact TX.quiet 19 hu hi rfl
         ·
          intro D hn hd hcl hu hi
          refine TO.move rfl dc (dl_lookup (m := 19) hu rfl (hd 19 dc)) ?_
          exact TX.quiet 20 hu hi rfl
         ·
          intro D hn hd hcl hu hi
          refine TO.skip (gd_F rfl (dl_lookup (m := 20) hu rfl (hd 20 dc))) dc ?_
          exact TX.quiet 21 hu hi rfl
         ·
          intro D hn hd hcl hu hi
          refine TO.skip (gd_F rfl (dl_lookup (m := 20) hu rfl (hd 20 dc))) dc ?_
          exact TX.quiet 22 hu hi rfl
         ·
          intro D hn hd hcl hu hi
          refine TO.skip (gd_F rfl (dl_lookup (m := 20) hu rfl (hd 20 dc))) dc ?_
          exact TX.quiet 23 hu hi rfl
         ·
          intro D hn hd hcl hu hi
          refine TO.skip (gd_F rfl (dl_lookup (m := 20) hu rfl (hd 20 dc))) dc ?_
          exact TX.quiet 24 hu hi rfl
         ·
          intro D hn hd hcl hu hi
          refine TO.skip (gd_F rfl (dl_lookup (m := 20) hu rfl (hd 20 dc))) dc ?_
          exact TX.quiet 25 hu hi rfl
         ·
          intro D hn hd hcl hu hi
          refine TO.skip (gd_F rfl (dl_lookup (m := 20) hu rfl (hd 20 dc))) dc ?_
          exact TX.quiet 26 hu hi rfl
         ·
          intro D hn hd hcl hu hi
          refine TO.skip (gd_F rfl (dl_lookup (m := 20) hu rfl (hd 20 dc))) dc ?_
          exact TX.quiet 27 hu hi rfl
         ·
          intro D hn hd hcl hu hi
          refine TO.skip (gd_F rfl (dl_lookup (m := 20) hu rfl (hd 20 dc))) dc ?_
          exact TX.quiet 28 hu hi rfl
         ·
          intro D hn hd hcl hu hi
          refine TO.skip (gd_F rfl (dl_lookup (m := 20) hu rfl (hd 20 dc))) dc ?_
          exact TX.quiet 29 hu hi rfl
         ·
          intro D hn hd hcl hu hi
          refine TO.skip (gd_F rfl (dl_lookup (m := 20) hu rfl (hd 20 dc))) dc ?_
          exact TX.quiet 30 hu hi rfl
         ·
          intro D hn hd hcl hu hi
          refine TO.skip (gd_F rfl (dl_lookup (m := 20) hu rfl (hd 20 dc))) dc ?_
          exact TX.quiet 31 hu hi rfl
         ·
          intro D hn hd hcl hu hi
          refine TO.pick (b := true) rfl dc (dl_lookup (m := 20) hu rfl (hd 20 dc)) rfl ?_
          exact TX.quiet 32 hu hi rfl
         ·
          intro D hn hd hcl hu hi
          refine TO.move rfl dc (dl_lookup (m := 32) hu rfl (hd 32 dc)) ?_
          exact TX.quiet 33 hu hi rfl
         ·
          intro D hn hd hcl hu hi
          refine TO.skip (gd_F rfl (dl_lookup (m := 33) hu rfl (hd 33 dc))) dc ?_
          exact TX.quiet 34 hu hi rfl
         ·
          intro D hn hd hcl hu hi
          refine TO.skip (gd_F rfl (dl_lookup (m := 33) hu rfl (hd 33 dc))) dc ?_
          exact TX.quiet 35 hu hi rfl
         ·
          intro D hn hd hcl hu hi
          refine TO.skip (gd_F rfl (dl_lookup (m := 33) hu rfl (hd 33 dc))) dc ?_
          exact TX.quiet 36 hu hi rfl
         ·
          intro D hn hd hcl hu hi
          refine TO.skip (gd_F rfl (dl_lookup (m := 33) hu rfl (hd 33 dc))) dc ?_
          exact TX.quiet 37 hu hi rfl
         ·
          intro D hn hd hcl hu hi
          refine TO.skip (gd_F rfl (dl_lookup (m := 33) hu rfl (hd 33 dc))) dc ?_
          exact TX.quiet 38 hu hi rfl
         ·
          intro D hn hd hcl hu hi
          refine TO.skip (gd_F rfl (dl_lookup (m := 33) hu rfl (hd 33 dc))) dc ?_
          exact TX.quiet 39 hu hi rfl
         ·
          intro D hn hd hcl hu hi
          refine TO.skip (gd_F rfl (dl_lookup (m := 33) hu rfl (hd 33 dc))) dc ?_
          exact TX.quiet 40 hu hi rfl
         ·
          intro D hn hd hcl hu hi
          refine TO.skip (gd_F rfl (dl_lookup (m := 33) hu rfl (hd 33 dc))) dc ?_
          exact TX.quiet 41 hu hi rfl
         ·
          intro D hn hd hcl hu hi
          refine TO.skip (gd_F rfl (dl_lookup (m := 33) hu rfl (hd 33 dc))) dc ?_
          exact TX.quiet 42 hu hi rfl
         refine TO.skip rfl dc (TO.pick (b := true) rfl dc rfl rfl (TO.move rfl dc rfl (TO.skip rfl dc (TO.skip rfl dc (TO.skip rfl dc (TO.pick (b := true) rfl dc rfl rfl (TO.nil (TX.next (TC.condT rfl (TC.seq (TC.region ?_)))))))))))
         refine TO.store (k := 1) (l' := [.bool false]) sz_4 rfl rfl rfl rfl rfl (fun _ _ => rfl) rfl ?_
         refine TO.nil (TX.next (TC.ret (TX.thenRet (TX.blockRet ?_))))
         exact TX.roundRet last3 (show _ ∧ _ from ⟨rfl, h⟩) (Splits.of [0, 1, 2, 3, 4] kr rfl)
        ·
         have h := condF hb7 h
         obtain ⟨hg4, h⟩ := grdE h
         refine TC.bySplit (b := !decide (cutB s1 x1.2.Span_From x1.2.Span_To = x1.2.Text)) (fun hb8 => ?_) (fun hb8 => ?_)
         ·
          have h := condT hb8 h
          refine TC.drawN 43 [(0, 52, .int .i64 (x1.2.Span_From - x1.2.Indent)), (1, 53, .int .i64 last3), (2, 54, .bool false), (3, 55, .bool false), (4, 56, .pointer (some ⟨jb1, 4, none⟩)), (5, 57, .pointer (some ⟨jb1, 5, none⟩)), (6, 58, .int .i64 x1.2.Span_To), (7, 59, .string s1), (8, 60, .int .i64 (s1.size : Int)), (9, 61, .bool false), (10, 62, .bool false), (11, 63, .bool false), (12, 64, .pointer (some ⟨jb1, 4, none⟩)), (13, 65, .pointer (some ⟨jb1, 5, none⟩)), (14, 66, .int .i64 x1.2.Span_To), (15, 67, .pointer (some ⟨jb1, 4, none⟩)), (16, 68, .pointer (some ⟨jb1, 4, none⟩)), (17, 69, .int .i64 x1.2.Span_From), (18, 70, .bool false), (19, 71, .bool false), (20, 72, .bool false), (21, 73, .string s1), (22, 74, .pointer (some ⟨jb1, 4, none⟩)), (23, 75, .pointer (some ⟨jb1, 4, none⟩)), (24, 76, .int .i64 x1.2.Span_From), (25, 77, .pointer (some ⟨jb1, 4, none⟩)), (26, 78, .pointer (some ⟨jb1, 5, none⟩)), (27, 79, .int .i64 x1.2.Span_To), (28, 80, .string (cutB s1 x1.2.Span_From x1.2.Span_To)), (29, 81, .pointer (some ⟨jb1, 0, none⟩)), (30, 82, .string x1.2.Text), (31, 83, .bool true), (32, 84, .bool true), (33, 85, .bool true), (34, 86, undef), (35, 87, undef), (36, 88, undef), (37, 89, undef), (38, 90, undef), (39, 91, undef), (40, 92, undef), (41, 93, undef), (42, 94, undef)] mixed kr kr dc (by rfl) kr kr (DrawPre.cons ?_ (DrawPre.cons ?_ (DrawPre.cons ?_ (DrawPre.cons ?_ (DrawPre.cons ?_ (DrawPre.cons ?_ (DrawPre.cons ?_ (DrawPre.cons ?_ (DrawPre.cons ?_ (DrawPre.cons ?_ (DrawPre.cons ?_ (DrawPre.cons ?_ (DrawPre.cons ?_ (DrawPre.cons ?_ (DrawPre.cons ?_ (DrawPre.cons ?_ (DrawPre.cons ?_ (DrawPre.cons ?_ (DrawPre.cons ?_ (DrawPre.cons ?_ (DrawPre.cons ?_ (DrawPre.cons ?_ (DrawPre.cons ?_ (DrawPre.cons ?_ (DrawPre.cons ?_ (DrawPre.cons ?_ (DrawPre.cons ?_ (DrawPre.cons ?_ (DrawPre.cons ?_ (DrawPre.cons ?_ (DrawPre.cons ?_ (DrawPre.cons ?_ (DrawPre.cons ?_ (DrawPre.cons ?_ (DrawPre.cons ?_ (DrawPre.cons ?_ (DrawPre.cons ?_ (DrawPre.cons ?_ (DrawPre.cons ?_ (DrawPre.cons ?_ (DrawPre.cons ?_ (DrawPre.cons ?_ (DrawPre.cons ?_ DrawPre.nil))))))))))))))))))))))))))))))))))))))))))) ?_
          ·
           intro D hn hd hcl hu hi
           refine TO.move rfl dc (dl_old (by rfl) rfl) ?_
           exact TX.quiet 0 hu hi rfl
          ·
           intro D hn hd hcl hu hi
           refine TO.load (k := 4) sc_3 rfl dc (dl_old (by rfl) rfl) rfl rfl ?_
           exact TX.quiet 1 hu hi rfl
          ·
           intro D hn hd hcl hu hi
           refine TO.bin rfl dc (dl_lookup (m := 0) hu rfl (hd 0 dc)) (dl_lookup (m := 1) hu rfl (hd 1 dc)) bin_leq (TO.rewH (show Value.bool (decide (((x1.2.Span_From - x1.2.Indent) : Int) ≤ last3)) = Value.bool false from congrArg Value.bool hb5) ?_)
           exact TX.quiet 2 hu hi rfl
          ·
           intro D hn hd hcl hu hi
           refine TO.move rfl dc (dl_lookup (m := 2) hu rfl (hd 2 dc)) ?_
           exact TX.quiet 3 hu hi rfl
          ·
           intro D hn hd hcl hu hi
           refine TO.fieldAddr fl_36_4 (gd_T rfl (dl_lookup (m := 3) hu rfl (hd 3 dc))) dc (dl_old (by rfl) rfl) (show _ = 4 from rfl) ?_
           exact TX.quiet 4 hu hi rfl
          ·
           intro D hn hd hcl hu hi
           refine TO.fieldAddr fl_34_1 (gd_T rfl (dl_lookup (m := 3) hu rfl (hd 3 dc))) dc (dl_lookup (m := 4) hu rfl (hd 4 dc)) (show _ = 5 from rfl) ?_
           exact TX.quiet 5 hu hi rfl
          ·
           intro D hn hd hcl hu hi
           refine TO.load (k := 5) sc_3 (gd_T rfl (dl_lookup (m := 3) hu rfl (hd 3 dc))) dc (dl_lookup (m := 5) hu rfl (hd 5 dc)) rfl rfl ?_
           exact TX.quiet 6 hu hi rfl
          ·
           intro D hn hd hcl hu hi
           refine TO.load (k := 0) sc_9 (gd_T rfl (dl_lookup (m := 3) hu rfl (hd 3 dc))) dc (dl_old (by rfl) rfl) rfl rfl ?_
           exact TX.quiet 7 hu hi rfl
          ·
           intro D hn hd hcl hu hi
           refine TO.lenStr (gd_T rfl (dl_lookup (m := 3) hu rfl (hd 3 dc))) dc (dl_lookup (m := 7) hu rfl (hd 7 dc)) Tryd.underlying9 ?_
           exact TX.quiet 8 hu hi rfl
          ·
           intro D hn hd hcl hu hi
           refine TO.bin (gd_T rfl (dl_lookup (m := 3) hu rfl (hd 3 dc))) dc (dl_lookup (m := 6) hu rfl (hd 6 dc)) (dl_lookup (m := 8) hu rfl (hd 8 dc)) bin_gtr (TO.rewH (show Value.bool (decide (((s1.size : Int) : Int) < x1.2.Span_To)) = Value.bool false from congrArg Value.bool hb6) ?_)
           exact TX.quiet 9 hu hi rfl
          ·
           intro D hn hd hcl hu hi
           refine TO.pick (b := false) rfl dc (dl_lookup (m := 3) hu rfl (hd 3 dc)) (dl_lookup (m := 9) hu rfl (hd 9 dc)) ?_
           exact TX.quiet 10 hu hi rfl
          ·
           intro D hn hd hcl hu hi
           refine TO.move rfl dc (dl_lookup (m := 10) hu rfl (hd 10 dc)) ?_
           exact TX.quiet 11 hu hi rfl
          ·
           intro D hn hd hcl hu hi
           refine TO.fieldAddr fl_36_4 (gd_T rfl (dl_lookup (m := 11) hu rfl (hd 11 dc))) dc (dl_old (by rfl) rfl) (show _ = 4 from rfl) ?_
           exact TX.quiet 12 hu hi rfl
          ·
           intro D hn hd hcl hu hi
           refine TO.fieldAddr fl_34_1 (gd_T rfl (dl_lookup (m := 11) hu rfl (hd 11 dc))) dc (dl_lookup (m := 12) hu rfl (hd 12 dc)) (show _ = 5 from rfl) ?_
           exact TX.quiet 13 hu hi rfl
          ·
           intro D hn hd hcl hu hi
           refine TO.load (k := 5) sc_3 (gd_T rfl (dl_lookup (m := 11) hu rfl (hd 11 dc))) dc (dl_lookup (m := 13) hu rfl (hd 13 dc)) rfl rfl ?_
           exact TX.quiet 14 hu hi rfl
          ·
           intro D hn hd hcl hu hi
           refine TO.fieldAddr fl_36_4 (gd_T rfl (dl_lookup (m := 11) hu rfl (hd 11 dc))) dc (dl_old (by rfl) rfl) (show _ = 4 from rfl) ?_
           exact TX.quiet 15 hu hi rfl
          ·
           intro D hn hd hcl hu hi
           refine TO.fieldAddr fl_34_0 (gd_T rfl (dl_lookup (m := 11) hu rfl (hd 11 dc))) dc (dl_lookup (m := 15) hu rfl (hd 15 dc)) (show _ = 4 from rfl) ?_
           exact TX.quiet 16 hu hi rfl
          ·
           intro D hn hd hcl hu hi
           refine TO.load (k := 5) sc_3 (gd_T rfl (dl_lookup (m := 11) hu rfl (hd 11 dc))) dc (dl_lookup (m := 16) hu rfl (hd 16 dc)) rfl rfl ?_
           exact TX.quiet 17 hu hi rfl
          ·
           intro D hn hd hcl hu hi
           refine TO.bin (gd_T rfl (dl_lookup (m := 11) hu rfl (hd 11 dc))) dc (dl_lookup (m := 14) hu rfl (hd 14 dc)) (dl_lookup (m := 17) hu rfl (hd 17 dc)) bin_leq (TO.rewH (show Value.bool (decide ((x1.2.Span_To : Int) ≤ x1.2.Span_From)) = Value.bool false from congrArg Value.bool hb7) ?_)
           exact TX.quiet 18 hu hi rfl
          ·
           intro D hn hd hcl hu hi
           refine TO.pick (b := false) rfl dc (dl_lookup (m := 11) hu rfl (hd 11 dc)) (dl_lookup (m := 18) hu rfl (hd 18 dc)) ?_
           exact TX.quiet 19 hu hi rfl
          ·
           intro D hn hd hcl hu hi
           refine TO.move rfl dc (dl_lookup (m := 19) hu rfl (hd 19 dc)) ?_
           exact TX.quiet 20 hu hi rfl
          ·
           intro D hn hd hcl hu hi
           refine TO.load (k := 0) sc_9 (gd_T rfl (dl_lookup (m := 20) hu rfl (hd 20 dc))) dc (dl_old (by rfl) rfl) rfl rfl ?_
           exact TX.quiet 21 hu hi rfl
          ·
           intro D hn hd hcl hu hi
           refine TO.fieldAddr fl_36_4 (gd_T rfl (dl_lookup (m := 20) hu rfl (hd 20 dc))) dc (dl_old (by rfl) rfl) (show _ = 4 from rfl) ?_
           exact TX.quiet 22 hu hi rfl
          ·
           intro D hn hd hcl hu hi
           refine TO.fieldAddr fl_34_0 (gd_T rfl (dl_lookup (m := 20) hu rfl (hd 20 dc))) dc (dl_lookup (m := 22) hu rfl (hd 22 dc)) (show _ = 4 from rfl) ?_
           exact TX.quiet 23 hu hi rfl
          ·
           intro D hn hd hcl hu hi
           refine TO.load (k := 5) sc_3 (gd_T rfl (dl_lookup (m := 20) hu rfl (hd 20 dc))) dc (dl_lookup (m := 23) hu rfl (hd 23 dc)) rfl rfl ?_
           exact TX.quiet 24 hu hi rfl
          ·
           intro D hn hd hcl hu hi
           refine TO.fieldAddr fl_36_4 (gd_T rfl (dl_lookup (m := 20) hu rfl (hd 20 dc))) dc (dl_old (by rfl) rfl) (show _ = 4 from rfl) ?_
           exact TX.quiet 25 hu hi rfl
          ·
           intro D hn hd hcl hu hi
           refine TO.fieldAddr fl_34_1 (gd_T rfl (dl_lookup (m := 20) hu rfl (hd 20 dc))) dc (dl_lookup (m := 25) hu rfl (hd 25 dc)) (show _ = 5 from rfl) ?_
           exact TX.quiet 26 hu hi rfl
          ·
           intro D hn hd hcl hu hi
           refine TO.load (k := 5) sc_3 (gd_T rfl (dl_lookup (m := 20) hu rfl (hd 20 dc))) dc (dl_lookup (m := 26) hu rfl (hd 26 dc)) rfl rfl ?_
           exact TX.quiet 27 hu hi rfl
          ·
           intro D hn hd hcl hu hi
           refine TO.slice (gd_T rfl (dl_lookup (m := 20) hu rfl (hd 20 dc))) dc (dl_lookup (m := 21) hu rfl (hd 21 dc)) (evO.some (dl_lookup (m := 24) hu rfl (hd 24 dc))) (evO.some (dl_lookup (m := 27) hu rfl (hd 27 dc))) (slice_stringI (i := x1.2.Span_From) (j := x1.2.Span_To) Tryd.underlying9 (.inr rfl) (.inr rfl) hg4) ?_
           exact TX.quiet 28 hu hi rfl
          ·
           intro D hn hd hcl hu hi
           refine TO.fieldAddr fl_36_0 (gd_T rfl (dl_lookup (m := 20) hu rfl (hd 20 dc))) dc (dl_old (by rfl) rfl) (show _ = 0 from rfl) ?_
           exact TX.quiet 29 hu hi rfl
          ·
           intro D hn hd hcl hu hi
           refine TO.load (k := 5) sc_9 (gd_T rfl (dl_lookup (m := 20) hu rfl (hd 20 dc))) dc (dl_lookup (m := 29) hu rfl (hd 29 dc)) rfl rfl ?_
           exact TX.quiet 30 hu hi rfl
          ·
           intro D hn hd hcl hu hi
           refine TO.bin (gd_T rfl (dl_lookup (m := 20) hu rfl (hd 20 dc))) dc (dl_lookup (m := 28) hu rfl (hd 28 dc)) (dl_lookup (m := 30) hu rfl (hd 30 dc)) bin_sneq (TO.rewH (show Value.bool (!decide (cutB s1 x1.2.Span_From x1.2.Span_To = x1.2.Text)) = Value.bool true from congrArg Value.bool hb8) ?_)
           exact TX.quiet 31 hu hi rfl
          ·
           intro D hn hd hcl hu hi
           refine TO.pick (b := false) rfl dc (dl_lookup (m := 20) hu rfl (hd 20 dc)) (dl_lookup (m := 31) hu rfl (hd 31 dc)) ?_
           exact TX.quiet 32 hu hi rfl
          ·
           intro D hn hd hcl hu hi
           refine TO.move rfl dc (dl_lookup (m := 32) hu rfl (hd 32 dc)) ?_
           exact TX.quiet 33 hu hi rfl
          ·
           intro D hn hd hcl hu hi
           refine TO.skip (gd_F rfl (dl_lookup (m := 33) hu rfl (hd 33 dc))) dc ?_
           exact TX.quiet 34 hu hi rfl
          ·
           intro D hn hd hcl hu hi
           refine TO.skip (gd_F rfl (dl_lookup (m := 33) hu rfl (hd 33 dc))) dc ?_
           exact TX.quiet 35 hu hi rfl
          ·
           intro D hn hd hcl hu hi
           refine TO.skip (gd_F rfl (dl_lookup (m := 33) hu rfl (hd 33 dc))) dc ?_
           exact TX.quiet 36 hu hi rfl
          ·
           intro D hn hd hcl hu hi
           refine TO.skip (gd_F rfl (dl_lookup (m := 33) hu rfl (hd 33 dc))) dc ?_
           exact TX.quiet 37 hu hi rfl
          ·
           intro D hn hd hcl hu hi
           refine TO.skip (gd_F rfl (dl_lookup (m := 33) hu rfl (hd 33 dc))) dc ?_
           exact TX.quiet 38 hu hi rfl
          ·
           intro D hn hd hcl hu hi
           refine TO.skip (gd_F rfl (dl_lookup (m := 33) hu rfl (hd 33 dc))) dc ?_
           exact TX.quiet 39 hu hi rfl
          ·
           intro D hn hd hcl hu hi
           refine TO.skip (gd_F rfl (dl_lookup (m := 33) hu rfl (hd 33 dc))) dc ?_
           exact TX.quiet 40 hu hi rfl
          ·
           intro D hn hd hcl hu hi
           refine TO.skip (gd_F rfl (dl_lookup (m := 33) hu rfl (hd 33 dc))) dc ?_
           exact TX.quiet 41 hu hi rfl
          ·
           intro D hn hd hcl hu hi
           refine TO.skip (gd_F rfl (dl_lookup (m := 33) hu rfl (hd 33 dc))) dc ?_
           exact TX.quiet 42 hu hi rfl
          refine TO.skip rfl dc (TO.pick (b := true) rfl dc rfl rfl (TO.move rfl dc rfl (TO.skip rfl dc (TO.skip rfl dc (TO.skip rfl dc (TO.pick (b := true) rfl dc rfl rfl (TO.nil (TX.next (TC.condT rfl (TC.seq (TC.region ?_)))))))))))
          refine TO.store (k := 1) (l' := [.bool false]) sz_4 rfl rfl rfl rfl rfl (fun _ _ => rfl) rfl ?_
          refine TO.nil (TX.next (TC.ret (TX.thenRet (TX.blockRet ?_))))
          exact TX.roundRet last3 (show _ ∧ _ from ⟨rfl, h⟩) (Splits.of [0, 1, 2, 3, 4] kr rfl)
         ·
          have h := condF hb8 h
          obtain ⟨hg5, h⟩ := grdE h
          obtain ⟨hg6, h⟩ := grdE h
          refine TC.bySplit (b := !decide (cutB s1 (x1.2.Span_From - x1.2.Indent) x1.2.Span_From = spacesB x1.2.Indent)) (fun hb9 => ?_) (fun hb9 => ?_)
          ·
           have h := condT hb9 h
           refine TC.drawN 43 [(0, 52, .int .i64 (x1.2.Span_From - x1.2.Indent)), (1, 53, .int .i64 last3), (2, 54, .bool false), (3, 55, .bool false), (4, 56, .pointer (some ⟨jb1, 4, none⟩)), (5, 57, .pointer (some ⟨jb1, 5, none⟩)), (6, 58, .int .i64 x1.2.Span_To), (7, 59, .string s1), (8, 60, .int .i64 (s1.size : Int)), (9, 61, .bool false), (10, 62, .bool false), (11, 63, .bool false), (12, 64, .pointer (some ⟨jb1, 4, none⟩)), (13, 65, .pointer (some ⟨jb1, 5, none⟩)), (14, 66, .int .i64 x1.2.Span_To), (15, 67, .pointer (some ⟨jb1, 4, none⟩)), (16, 68, .pointer (some ⟨jb1, 4, none⟩)), (17, 69, .int .i64 x1.2.Span_From), (18, 70, .bool false), (19, 71, .bool false), (20, 72, .bool false), (21, 73, .string s1), (22, 74, .pointer (some ⟨jb1, 4, none⟩)), (23, 75, .pointer (some ⟨jb1, 4, none⟩)), (24, 76, .int .i64 x1.2.Span_From), (25, 77, .pointer (some ⟨jb1, 4, none⟩)), (26, 78, .pointer (some ⟨jb1, 5, none⟩)), (27, 79, .int .i64 x1.2.Span_To), (28, 80, .string (cutB s1 x1.2.Span_From x1.2.Span_To)), (29, 81, .pointer (some ⟨jb1, 0, none⟩)), (30, 82, .string x1.2.Text), (31, 83, .bool false), (32, 84, .bool false), (33, 85, .bool false), (34, 86, .string s1), (35, 87, .int .i64 (x1.2.Span_From - x1.2.Indent)), (36, 88, .pointer (some ⟨jb1, 4, none⟩)), (37, 89, .pointer (some ⟨jb1, 4, none⟩)), (38, 90, .int .i64 x1.2.Span_From), (39, 91, .string (cutB s1 (x1.2.Span_From - x1.2.Indent) x1.2.Span_From)), (40, 92, .pointer (some ⟨jb1, 1, none⟩)), (41, 93, .int .i64 x1.2.Indent), (42, 94, .string (spacesB x1.2.Indent))] mixed kr kr dc (by rfl) kr kr (DrawPre.cons ?_ (DrawPre.cons ?_ (DrawPre.cons ?_ (DrawPre.cons ?_ (DrawPre.cons ?_ (DrawPre.cons ?_ (DrawPre.cons ?_ (DrawPre.cons ?_ (DrawPre.cons ?_ (DrawPre.cons ?_ (DrawPre.cons ?_ (DrawPre.cons ?_ (DrawPre.cons ?_ (DrawPre.cons ?_ (DrawPre.cons ?_ (DrawPre.cons ?_ (DrawPre.cons ?_ (DrawPre.cons ?_ (DrawPre.cons ?_ (DrawPre.cons ?_ (DrawPre.cons ?_ (DrawPre.cons ?_ (DrawPre.cons ?_ (DrawPre.cons ?_ (DrawPre.cons ?_ (DrawPre.cons ?_ (DrawPre.cons ?_ (DrawPre.cons ?_ (DrawPre.cons ?_ (DrawPre.cons ?_ (DrawPre.cons ?_ (DrawPre.cons ?_ (DrawPre.cons ?_ (DrawPre.cons ?_ (DrawPre.cons ?_ (DrawPre.cons ?_ (DrawPre.cons ?_ (DrawPre.cons ?_ (DrawPre.cons ?_ (DrawPre.cons ?_ (DrawPre.cons ?_ (DrawPre.cons ?_ (DrawPre.cons ?_ DrawPre.nil))))))))))))))))))))))))))))))))))))))))))) ?_
           ·
            intro D hn hd hcl hu hi
            refine TO.move rfl dc (dl_old (by rfl) rfl) ?_
            exact TX.quiet 0 hu hi rfl
           ·
            intro D hn hd hcl hu hi
            refine TO.load (k := 4) sc_3 rfl dc (dl_old (by rfl) rfl) rfl rfl ?_
            exact TX.quiet 1 hu hi rfl
           ·
            intro D hn hd hcl hu hi
            refine TO.bin rfl dc (dl_lookup (m := 0) hu rfl (hd 0 dc)) (dl_lookup (m := 1) hu rfl (hd 1 dc)) bin_leq (TO.rewH (show Value.bool (decide (((x1.2.Span_From - x1.2.Indent) : Int) ≤ last3)) = Value.bool false from congrArg Value.bool hb5) ?_)
            exact TX.quiet 2 hu hi rfl
           ·
            intro D hn hd hcl hu hi
            refine TO.move rfl dc (dl_lookup (m := 2) hu rfl (hd 2 dc)) ?_
            exact TX.quiet 3 hu hi rfl
           ·
            intro D hn hd hcl hu hi
            refine TO.fieldAddr fl_36_4 (gd_T rfl (dl_lookup (m := 3) hu rfl (hd 3 dc))) dc (dl_old (by rfl) rfl) (show _ = 4 from rfl) ?_
            exact TX.quiet 4 hu hi rfl
           ·
            intro D hn hd hcl hu hi
            refine TO.fieldAddr fl_34_1 (gd_T rfl (dl_lookup (m := 3) hu rfl (hd 3 dc))) dc (dl_lookup (m := 4) hu rfl (hd 4 dc)) (show _ = 5 from rfl) ?_
            exact TX.quiet 5 hu hi rfl
           ·
            intro D hn hd hcl hu hi
            refine TO.load (k := 5) sc_3 (gd_T rfl (dl_lookup (m := 3) hu rfl (hd 3 dc))) dc (dl_lookup (m := 5) hu rfl (hd 5 dc)) rfl rfl ?_
            exact TX.quiet 6 hu hi rfl
           ·
            intro D hn hd hcl hu hi
            refine TO.load (k := 0) sc_9 (gd_T rfl (dl_lookup (m := 3) hu rfl (hd 3 dc))) dc (dl_old (by rfl) rfl) rfl rfl ?_
            exact TX.quiet 7 hu hi rfl
           ·
            intro D hn hd hcl hu hi
            refine TO.lenStr (gd_T rfl (dl_lookup (m := 3) hu rfl (hd 3 dc))) dc (dl_lookup (m := 7) hu rfl (hd 7 dc)) Tryd.underlying9 ?_
            exact TX.quiet 8 hu hi rfl
           ·
            intro D hn hd hcl hu hi
            refine TO.bin (gd_T rfl (dl_lookup (m := 3) hu rfl (hd 3 dc))) dc (dl_lookup (m := 6) hu rfl (hd 6 dc)) (dl_lookup (m := 8) hu rfl (hd 8 dc)) bin_gtr (TO.rewH (show Value.bool (decide (((s1.size : Int) : Int) < x1.2.Span_To)) = Value.bool false from congrArg Value.bool hb6) ?_)
            exact TX.quiet 9 hu hi rfl
           ·
            intro D hn hd hcl hu hi
            refine TO.pick (b := false) rfl dc (dl_lookup (m := 3) hu rfl (hd 3 dc)) (dl_lookup (m := 9) hu rfl (hd 9 dc)) ?_
            exact TX.quiet 10 hu hi rfl
           ·
            intro D hn hd hcl hu hi
            refine TO.move rfl dc (dl_lookup (m := 10) hu rfl (hd 10 dc)) ?_
            exact TX.quiet 11 hu hi rfl
           ·
            intro D hn hd hcl hu hi
            refine TO.fieldAddr fl_36_4 (gd_T rfl (dl_lookup (m := 11) hu rfl (hd 11 dc))) dc (dl_old (by rfl) rfl) (show _ = 4 from rfl) ?_
            exact TX.quiet 12 hu hi rfl
           ·
            intro D hn hd hcl hu hi
            refine TO.fieldAddr fl_34_1 (gd_T rfl (dl_lookup (m := 11) hu rfl (hd 11 dc))) dc (dl_lookup (m := 12) hu rfl (hd 12 dc)) (show _ = 5 from rfl) ?_
            exact TX.quiet 13 hu hi rfl
           ·
            intro D hn hd hcl hu hi
            refine TO.load (k := 5) sc_3 (gd_T rfl (dl_lookup (m := 11) hu rfl (hd 11 dc))) dc (dl_lookup (m := 13) hu rfl (hd 13 dc)) rfl rfl ?_
            exact TX.quiet 14 hu hi rfl
           ·
            intro D hn hd hcl hu hi
            refine TO.fieldAddr fl_36_4 (gd_T rfl (dl_lookup (m := 11) hu rfl (hd 11 dc))) dc (dl_old (by rfl) rfl) (show _ = 4 from rfl) ?_
            exact TX.quiet 15 hu hi rfl
           ·
            intro D hn hd hcl hu hi
            refine TO.fieldAddr fl_34_0 (gd_T rfl (dl_lookup (m := 11) hu rfl (hd 11 dc))) dc (dl_lookup (m := 15) hu rfl (hd 15 dc)) (show _ = 4 from rfl) ?_
            exact TX.quiet 16 hu hi rfl
           ·
            intro D hn hd hcl hu hi
            refine TO.load (k := 5) sc_3 (gd_T rfl (dl_lookup (m := 11) hu rfl (hd 11 dc))) dc (dl_lookup (m := 16) hu rfl (hd 16 dc)) rfl rfl ?_
            exact TX.quiet 17 hu hi rfl
           ·
            intro D hn hd hcl hu hi
            refine TO.bin (gd_T rfl (dl_lookup (m := 11) hu rfl (hd 11 dc))) dc (dl_lookup (m := 14) hu rfl (hd 14 dc)) (dl_lookup (m := 17) hu rfl (hd 17 dc)) bin_leq (TO.rewH (show Value.bool (decide ((x1.2.Span_To : Int) ≤ x1.2.Span_From)) = Value.bool false from congrArg Value.bool hb7) ?_)
            exact TX.quiet 18 hu hi rfl
           ·
            intro D hn hd hcl hu hi
            refine TO.pick (b := false) rfl dc (dl_lookup (m := 11) hu rfl (hd 11 dc)) (dl_lookup (m := 18) hu rfl (hd 18 dc)) ?_
            exact TX.quiet 19 hu hi rfl
           ·
            intro D hn hd hcl hu hi
            refine TO.move rfl dc (dl_lookup (m := 19) hu rfl (hd 19 dc)) ?_
            exact TX.quiet 20 hu hi rfl
           ·
            intro D hn hd hcl hu hi
            refine TO.load (k := 0) sc_9 (gd_T rfl (dl_lookup (m := 20) hu rfl (hd 20 dc))) dc (dl_old (by rfl) rfl) rfl rfl ?_
            exact TX.quiet 21 hu hi rfl
           ·
            intro D hn hd hcl hu hi
            refine TO.fieldAddr fl_36_4 (gd_T rfl (dl_lookup (m := 20) hu rfl (hd 20 dc))) dc (dl_old (by rfl) rfl) (show _ = 4 from rfl) ?_
            exact TX.quiet 22 hu hi rfl
           ·
            intro D hn hd hcl hu hi
            refine TO.fieldAddr fl_34_0 (gd_T rfl (dl_lookup (m := 20) hu rfl (hd 20 dc))) dc (dl_lookup (m := 22) hu rfl (hd 22 dc)) (show _ = 4 from rfl) ?_
            exact TX.quiet 23 hu hi rfl
           ·
            intro D hn hd hcl hu hi
            refine TO.load (k := 5) sc_3 (gd_T rfl (dl_lookup (m := 20) hu rfl (hd 20 dc))) dc (dl_lookup (m := 23) hu rfl (hd 23 dc)) rfl rfl ?_
            exact TX.quiet 24 hu hi rfl
           ·
            intro D hn hd hcl hu hi
            refine TO.fieldAddr fl_36_4 (gd_T rfl (dl_lookup (m := 20) hu rfl (hd 20 dc))) dc (dl_old (by rfl) rfl) (show _ = 4 from rfl) ?_
            exact TX.quiet 25 hu hi rfl
           ·
            intro D hn hd hcl hu hi
            refine TO.fieldAddr fl_34_1 (gd_T rfl (dl_lookup (m := 20) hu rfl (hd 20 dc))) dc (dl_lookup (m := 25) hu rfl (hd 25 dc)) (show _ = 5 from rfl) ?_
            exact TX.quiet 26 hu hi rfl
           ·
            intro D hn hd hcl hu hi
            refine TO.load (k := 5) sc_3 (gd_T rfl (dl_lookup (m := 20) hu rfl (hd 20 dc))) dc (dl_lookup (m := 26) hu rfl (hd 26 dc)) rfl rfl ?_
            exact TX.quiet 27 hu hi rfl
           ·
            intro D hn hd hcl hu hi
            refine TO.slice (gd_T rfl (dl_lookup (m := 20) hu rfl (hd 20 dc))) dc (dl_lookup (m := 21) hu rfl (hd 21 dc)) (evO.some (dl_lookup (m := 24) hu rfl (hd 24 dc))) (evO.some (dl_lookup (m := 27) hu rfl (hd 27 dc))) (slice_stringI (i := x1.2.Span_From) (j := x1.2.Span_To) Tryd.underlying9 (.inr rfl) (.inr rfl) hg4) ?_
            exact TX.quiet 28 hu hi rfl
           ·
            intro D hn hd hcl hu hi
            refine TO.fieldAddr fl_36_0 (gd_T rfl (dl_lookup (m := 20) hu rfl (hd 20 dc))) dc (dl_old (by rfl) rfl) (show _ = 0 from rfl) ?_
            exact TX.quiet 29 hu hi rfl
           ·
            intro D hn hd hcl hu hi
            refine TO.load (k := 5) sc_9 (gd_T rfl (dl_lookup (m := 20) hu rfl (hd 20 dc))) dc (dl_lookup (m := 29) hu rfl (hd 29 dc)) rfl rfl ?_
            exact TX.quiet 30 hu hi rfl
           ·
            intro D hn hd hcl hu hi
            refine TO.bin (gd_T rfl (dl_lookup (m := 20) hu rfl (hd 20 dc))) dc (dl_lookup (m := 28) hu rfl (hd 28 dc)) (dl_lookup (m := 30) hu rfl (hd 30 dc)) bin_sneq (TO.rewH (show Value.bool (!decide (cutB s1 x1.2.Span_From x1.2.Span_To = x1.2.Text)) = Value.bool false from congrArg Value.bool hb8) ?_)
            exact TX.quiet 31 hu hi rfl
           ·
            intro D hn hd hcl hu hi
            refine TO.pick (b := false) rfl dc (dl_lookup (m := 20) hu rfl (hd 20 dc)) (dl_lookup (m := 31) hu rfl (hd 31 dc)) ?_
            exact TX.quiet 32 hu hi rfl
           ·
            intro D hn hd hcl hu hi
            refine TO.move rfl dc (dl_lookup (m := 32) hu rfl (hd 32 dc)) ?_
            exact TX.quiet 33 hu hi rfl
           ·
            intro D hn hd hcl hu hi
            refine TO.load (k := 0) sc_9 (gd_T rfl (dl_lookup (m := 33) hu rfl (hd 33 dc))) dc (dl_old (by rfl) rfl) rfl rfl ?_
            exact TX.quiet 34 hu hi rfl
           ·
            intro D hn hd hcl hu hi
            refine TO.move (gd_T rfl (dl_lookup (m := 33) hu rfl (hd 33 dc))) dc (dl_old (by rfl) rfl) ?_
            exact TX.quiet 35 hu hi rfl
           ·
            intro D hn hd hcl hu hi
            refine TO.fieldAddr fl_36_4 (gd_T rfl (dl_lookup (m := 33) hu rfl (hd 33 dc))) dc (dl_old (by rfl) rfl) (show _ = 4 from rfl) ?_
            exact TX.quiet 36 hu hi rfl
           ·
            intro D hn hd hcl hu hi
            refine TO.fieldAddr fl_34_0 (gd_T rfl (dl_lookup (m := 33) hu rfl (hd 33 dc))) dc (dl_lookup (m := 36) hu rfl (hd 36 dc)) (show _ = 4 from rfl) ?_
            exact TX.quiet 37 hu hi rfl
           ·
            intro D hn hd hcl hu hi
            refine TO.load (k := 5) sc_3 (gd_T rfl (dl_lookup (m := 33) hu rfl (hd 33 dc))) dc (dl_lookup (m := 37) hu rfl (hd 37 dc)) rfl rfl ?_
            exact TX.quiet 38 hu hi rfl
           ·
            intro D hn hd hcl hu hi
            refine TO.slice (gd_T rfl (dl_lookup (m := 33) hu rfl (hd 33 dc))) dc (dl_lookup (m := 34) hu rfl (hd 34 dc)) (evO.some (dl_lookup (m := 35) hu rfl (hd 35 dc))) (evO.some (dl_lookup (m := 38) hu rfl (hd 38 dc))) (slice_stringI (i := x1.2.Span_From - x1.2.Indent) (j := x1.2.Span_From) Tryd.underlying9 (.inr rfl) (.inr rfl) hg5) ?_
            exact TX.quiet 39 hu hi rfl
           ·
            intro D hn hd hcl hu hi
            refine TO.fieldAddr fl_36_1 (gd_T rfl (dl_lookup (m := 33) hu rfl (hd 33 dc))) dc (dl_old (by rfl) rfl) (show _ = 1 from rfl) ?_
            exact TX.quiet 40 hu hi rfl
           ·
            intro D hn hd hcl hu hi
            refine TO.load (k := 5) sc_3 (gd_T rfl (dl_lookup (m := 33) hu rfl (hd 33 dc))) dc (dl_lookup (m := 40) hu rfl (hd 40 dc)) rfl rfl ?_
            exact TX.quiet 41 hu hi rfl
           ·
            intro D hn hd hcl hu hi
            refine TO.callP (v := .string (spacesB x1.2.Indent)) (vs := [.string (⟨#[32]⟩ : ByteArray), .int .i64 x1.2.Indent]) (gd_T rfl (dl_lookup (m := 33) hu rfl (hd 33 dc))) dc rfl (evL.cons rfl (evL.cons (dl_lookup (m := 41) hu rfl (hd 41 dc)) evL.nil)) rfl en_15 (spaces_p x1.2.Indent hg6) ?_
            exact TX.quiet 42 hu hi rfl
           refine TO.bin rfl dc rfl rfl bin_sneq (TO.rewH (show Value.bool (!decide (cutB s1 (x1.2.Span_From - x1.2.Indent) x1.2.Span_From = spacesB x1.2.Indent)) = Value.bool true from congrArg Value.bool hb9) (TO.pick (b := false) rfl dc rfl rfl (TO.move rfl dc rfl (TO.skip rfl dc (TO.skip rfl dc (TO.skip rfl dc (TO.pick (b := true) rfl dc rfl rfl (TO.nil (TX.next (TC.condT rfl (TC.seq (TC.region ?_))))))))))))
           refine TO.store (k := 1) (l' := [.bool false]) sz_4 rfl rfl rfl rfl rfl (fun _ _ => rfl) rfl ?_
           refine TO.nil (TX.next (TC.ret (TX.thenRet (TX.blockRet ?_))))
           exact TX.roundRet last3 (show _ ∧ _ from ⟨rfl, h⟩) (Splits.of [0, 1, 2, 3, 4] kr rfl)
          ·
           have h := condF hb9 h
           obtain ⟨r5, hq10, h⟩ := andE h
           refine TC.drawN 43 [(0, 52, .int .i64 (x1.2.Span_From - x1.2.Indent)), (1, 53, .int .i64 last3), (2, 54, .bool false), (3, 55, .bool false), (4, 56, .pointer (some ⟨jb1, 4, none⟩)), (5, 57, .pointer (some ⟨jb1, 5, none⟩)), (6, 58, .int .i64 x1.2.Span_To), (7, 59, .string s1), (8, 60, .int .i64 (s1.size : Int)), (9, 61, .bool false), (10, 62, .bool false), (11, 63, .bool false), (12, 64, .pointer (some ⟨jb1, 4, none⟩)), (13, 65, .pointer (some ⟨jb1, 5, none⟩)), (14, 66, .int .i64 x1.2.Span_To), (15, 67, .pointer (some ⟨jb1, 4, none⟩)), (16, 68, .pointer (some ⟨jb1, 4, none⟩)), (17, 69, .int .i64 x1.2.Span_From), (18, 70, .bool false), (19, 71, .bool false), (20, 72, .bool false), (21, 73, .string s1), (22, 74, .pointer (some ⟨jb1, 4, none⟩)), (23, 75, .pointer (some ⟨jb1, 4, none⟩)), (24, 76, .int .i64 x1.2.Span_From), (25, 77, .pointer (some ⟨jb1, 4, none⟩)), (26, 78, .pointer (some ⟨jb1, 5, none⟩)), (27, 79, .int .i64 x1.2.Span_To), (28, 80, .string (cutB s1 x1.2.Span_From x1.2.Span_To)), (29, 81, .pointer (some ⟨jb1, 0, none⟩)), (30, 82, .string x1.2.Text), (31, 83, .bool false), (32, 84, .bool false), (33, 85, .bool false), (34, 86, .string s1), (35, 87, .int .i64 (x1.2.Span_From - x1.2.Indent)), (36, 88, .pointer (some ⟨jb1, 4, none⟩)), (37, 89, .pointer (some ⟨jb1, 4, none⟩)), (38, 90, .int .i64 x1.2.Span_From), (39, 91, .string (cutB s1 (x1.2.Span_From - x1.2.Indent) x1.2.Span_From)), (40, 92, .pointer (some ⟨jb1, 1, none⟩)), (41, 93, .int .i64 x1.2.Indent), (42, 94, .string (spacesB x1.2.Indent))] mixed kr kr dc (by rfl) kr kr (DrawPre.cons ?_ (DrawPre.cons ?_ (DrawPre.cons ?_ (DrawPre.cons ?_ (DrawPre.cons ?_ (DrawPre.cons ?_ (DrawPre.cons ?_ (DrawPre.cons ?_ (DrawPre.cons ?_ (DrawPre.cons ?_ (DrawPre.cons ?_ (DrawPre.cons ?_ (DrawPre.cons ?_ (DrawPre.cons ?_ (DrawPre.cons ?_ (DrawPre.cons ?_ (DrawPre.cons ?_ (DrawPre.cons ?_ (DrawPre.cons ?_ (DrawPre.cons ?_ (DrawPre.cons ?_ (DrawPre.cons ?_ (DrawPre.cons ?_ (DrawPre.cons ?_ (DrawPre.cons ?_ (DrawPre.cons ?_ (DrawPre.cons ?_ (DrawPre.cons ?_ (DrawPre.cons ?_ (DrawPre.cons ?_ (DrawPre.cons ?_ (DrawPre.cons ?_ (DrawPre.cons ?_ (DrawPre.cons ?_ (DrawPre.cons ?_ (DrawPre.cons ?_ (DrawPre.cons ?_ (DrawPre.cons ?_ (DrawPre.cons ?_ (DrawPre.cons ?_ (DrawPre.cons ?_ (DrawPre.cons ?_ (DrawPre.cons ?_ DrawPre.nil))))))))))))))))))))))))))))))))))))))))))) ?_
           ·
            intro D hn hd hcl hu hi
            refine TO.move rfl dc (dl_old (by rfl) rfl) ?_
            exact TX.quiet 0 hu hi rfl
           ·
            intro D hn hd hcl hu hi
            refine TO.load (k := 4) sc_3 rfl dc (dl_old (by rfl) rfl) rfl rfl ?_
            exact TX.quiet 1 hu hi rfl
           ·
            intro D hn hd hcl hu hi
            refine TO.bin rfl dc (dl_lookup (m := 0) hu rfl (hd 0 dc)) (dl_lookup (m := 1) hu rfl (hd 1 dc)) bin_leq (TO.rewH (show Value.bool (decide (((x1.2.Span_From - x1.2.Indent) : Int) ≤ last3)) = Value.bool false from congrArg Value.bool hb5) ?_)
            exact TX.quiet 2 hu hi rfl
           ·
            intro D hn hd hcl hu hi
            refine TO.move rfl dc (dl_lookup (m := 2) hu rfl (hd 2 dc)) ?_
            exact TX.quiet 3 hu hi rfl
           ·
            intro D hn hd hcl hu hi
            refine TO.fieldAddr fl_36_4 (gd_T rfl (dl_lookup (m := 3) hu rfl (hd 3 dc))) dc (dl_old (by rfl) rfl) (show _ = 4 from rfl) ?_
            exact TX.quiet 4 hu hi rfl
           ·
            intro D hn hd hcl hu hi
            refine TO.fieldAddr fl_34_1 (gd_T rfl (dl_lookup (m := 3) hu rfl (hd 3 dc))) dc (dl_lookup (m := 4) hu rfl (hd 4 dc)) (show _ = 5 from rfl) ?_
            exact TX.quiet 5 hu hi rfl
           ·
            intro D hn hd hcl hu hi
            refine TO.load (k := 5) sc_3 (gd_T rfl (dl_lookup (m := 3) hu rfl (hd 3 dc))) dc (dl_lookup (m := 5) hu rfl (hd 5 dc)) rfl rfl ?_
            exact TX.quiet 6 hu hi rfl
           ·
            intro D hn hd hcl hu hi
            refine TO.load (k := 0) sc_9 (gd_T rfl (dl_lookup (m := 3) hu rfl (hd 3 dc))) dc (dl_old (by rfl) rfl) rfl rfl ?_
            exact TX.quiet 7 hu hi rfl
           ·
            intro D hn hd hcl hu hi
            refine TO.lenStr (gd_T rfl (dl_lookup (m := 3) hu rfl (hd 3 dc))) dc (dl_lookup (m := 7) hu rfl (hd 7 dc)) Tryd.underlying9 ?_
            exact TX.quiet 8 hu hi rfl
           ·
            intro D hn hd hcl hu hi
            refine TO.bin (gd_T rfl (dl_lookup (m := 3) hu rfl (hd 3 dc))) dc (dl_lookup (m := 6) hu rfl (hd 6 dc)) (dl_lookup (m := 8) hu rfl (hd 8 dc)) bin_gtr (TO.rewH (show Value.bool (decide (((s1.size : Int) : Int) < x1.2.Span_To)) = Value.bool false from congrArg Value.bool hb6) ?_)
            exact TX.quiet 9 hu hi rfl
           ·
            intro D hn hd hcl hu hi
            refine TO.pick (b := false) rfl dc (dl_lookup (m := 3) hu rfl (hd 3 dc)) (dl_lookup (m := 9) hu rfl (hd 9 dc)) ?_
            exact TX.quiet 10 hu hi rfl
           ·
            intro D hn hd hcl hu hi
            refine TO.move rfl dc (dl_lookup (m := 10) hu rfl (hd 10 dc)) ?_
            exact TX.quiet 11 hu hi rfl
           ·
            intro D hn hd hcl hu hi
            refine TO.fieldAddr fl_36_4 (gd_T rfl (dl_lookup (m := 11) hu rfl (hd 11 dc))) dc (dl_old (by rfl) rfl) (show _ = 4 from rfl) ?_
            exact TX.quiet 12 hu hi rfl
           ·
            intro D hn hd hcl hu hi
            refine TO.fieldAddr fl_34_1 (gd_T rfl (dl_lookup (m := 11) hu rfl (hd 11 dc))) dc (dl_lookup (m := 12) hu rfl (hd 12 dc)) (show _ = 5 from rfl) ?_
            exact TX.quiet 13 hu hi rfl
           ·
            intro D hn hd hcl hu hi
            refine TO.load (k := 5) sc_3 (gd_T rfl (dl_lookup (m := 11) hu rfl (hd 11 dc))) dc (dl_lookup (m := 13) hu rfl (hd 13 dc)) rfl rfl ?_
            exact TX.quiet 14 hu hi rfl
           ·
            intro D hn hd hcl hu hi
            refine TO.fieldAddr fl_36_4 (gd_T rfl (dl_lookup (m := 11) hu rfl (hd 11 dc))) dc (dl_old (by rfl) rfl) (show _ = 4 from rfl) ?_
            exact TX.quiet 15 hu hi rfl
           ·
            intro D hn hd hcl hu hi
            refine TO.fieldAddr fl_34_0 (gd_T rfl (dl_lookup (m := 11) hu rfl (hd 11 dc))) dc (dl_lookup (m := 15) hu rfl (hd 15 dc)) (show _ = 4 from rfl) ?_
            exact TX.quiet 16 hu hi rfl
           ·
            intro D hn hd hcl hu hi
            refine TO.load (k := 5) sc_3 (gd_T rfl (dl_lookup (m := 11) hu rfl (hd 11 dc))) dc (dl_lookup (m := 16) hu rfl (hd 16 dc)) rfl rfl ?_
            exact TX.quiet 17 hu hi rfl
           ·
            intro D hn hd hcl hu hi
            refine TO.bin (gd_T rfl (dl_lookup (m := 11) hu rfl (hd 11 dc))) dc (dl_lookup (m := 14) hu rfl (hd 14 dc)) (dl_lookup (m := 17) hu rfl (hd 17 dc)) bin_leq (TO.rewH (show Value.bool (decide ((x1.2.Span_To : Int) ≤ x1.2.Span_From)) = Value.bool false from congrArg Value.bool hb7) ?_)
            exact TX.quiet 18 hu hi rfl
           ·
            intro D hn hd hcl hu hi
            refine TO.pick (b := false) rfl dc (dl_lookup (m := 11) hu rfl (hd 11 dc)) (dl_lookup (m := 18) hu rfl (hd 18 dc)) ?_
            exact TX.quiet 19 hu hi rfl
           ·
            intro D hn hd hcl hu hi
            refine TO.move rfl dc (dl_lookup (m := 19) hu rfl (hd 19 dc)) ?_
            exact TX.quiet 20 hu hi rfl
           ·
            intro D hn hd hcl hu hi
            refine TO.load (k := 0) sc_9 (gd_T rfl (dl_lookup (m := 20) hu rfl (hd 20 dc))) dc (dl_old (by rfl) rfl) rfl rfl ?_
            exact TX.quiet 21 hu hi rfl
           ·
            intro D hn hd hcl hu hi
            refine TO.fieldAddr fl_36_4 (gd_T rfl (dl_lookup (m := 20) hu rfl (hd 20 dc))) dc (dl_old (by rfl) rfl) (show _ = 4 from rfl) ?_
            exact TX.quiet 22 hu hi rfl
           ·
            intro D hn hd hcl hu hi
            refine TO.fieldAddr fl_34_0 (gd_T rfl (dl_lookup (m := 20) hu rfl (hd 20 dc))) dc (dl_lookup (m := 22) hu rfl (hd 22 dc)) (show _ = 4 from rfl) ?_
            exact TX.quiet 23 hu hi rfl
           ·
            intro D hn hd hcl hu hi
            refine TO.load (k := 5) sc_3 (gd_T rfl (dl_lookup (m := 20) hu rfl (hd 20 dc))) dc (dl_lookup (m := 23) hu rfl (hd 23 dc)) rfl rfl ?_
            exact TX.quiet 24 hu hi rfl
           ·
            intro D hn hd hcl hu hi
            refine TO.fieldAddr fl_36_4 (gd_T rfl (dl_lookup (m := 20) hu rfl (hd 20 dc))) dc (dl_old (by rfl) rfl) (show _ = 4 from rfl) ?_
            exact TX.quiet 25 hu hi rfl
           ·
            intro D hn hd hcl hu hi
            refine TO.fieldAddr fl_34_1 (gd_T rfl (dl_lookup (m := 20) hu rfl (hd 20 dc))) dc (dl_lookup (m := 25) hu rfl (hd 25 dc)) (show _ = 5 from rfl) ?_
            exact TX.quiet 26 hu hi rfl
           ·
            intro D hn hd hcl hu hi
            refine TO.load (k := 5) sc_3 (gd_T rfl (dl_lookup (m := 20) hu rfl (hd 20 dc))) dc (dl_lookup (m := 26) hu rfl (hd 26 dc)) rfl rfl ?_
            exact TX.quiet 27 hu hi rfl
           ·
            intro D hn hd hcl hu hi
            refine TO.slice (gd_T rfl (dl_lookup (m := 20) hu rfl (hd 20 dc))) dc (dl_lookup (m := 21) hu rfl (hd 21 dc)) (evO.some (dl_lookup (m := 24) hu rfl (hd 24 dc))) (evO.some (dl_lookup (m := 27) hu rfl (hd 27 dc))) (slice_stringI (i := x1.2.Span_From) (j := x1.2.Span_To) Tryd.underlying9 (.inr rfl) (.inr rfl) hg4) ?_
            exact TX.quiet 28 hu hi rfl
           ·
            intro D hn hd hcl hu hi
            refine TO.fieldAddr fl_36_0 (gd_T rfl (dl_lookup (m := 20) hu rfl (hd 20 dc))) dc (dl_old (by rfl) rfl) (show _ = 0 from rfl) ?_
            exact TX.quiet 29 hu hi rfl
           ·
            intro D hn hd hcl hu hi
            refine TO.load (k := 5) sc_9 (gd_T rfl (dl_lookup (m := 20) hu rfl (hd 20 dc))) dc (dl_lookup (m := 29) hu rfl (hd 29 dc)) rfl rfl ?_
            exact TX.quiet 30 hu hi rfl
           ·
            intro D hn hd hcl hu hi
            refine TO.bin (gd_T rfl (dl_lookup (m := 20) hu rfl (hd 20 dc))) dc (dl_lookup (m := 28) hu rfl (hd 28 dc)) (dl_lookup (m := 30) hu rfl (hd 30 dc)) bin_sneq (TO.rewH (show Value.bool (!decide (cutB s1 x1.2.Span_From x1.2.Span_To = x1.2.Text)) = Value.bool false from congrArg Value.bool hb8) ?_)
            exact TX.quiet 31 hu hi rfl
           ·
            intro D hn hd hcl hu hi
            refine TO.pick (b := false) rfl dc (dl_lookup (m := 20) hu rfl (hd 20 dc)) (dl_lookup (m := 31) hu rfl (hd 31 dc)) ?_
            exact TX.quiet 32 hu hi rfl
           ·
            intro D hn hd hcl hu hi
            refine TO.move rfl dc (dl_lookup (m := 32) hu rfl (hd 32 dc)) ?_
            exact TX.quiet 33 hu hi rfl
           ·
            intro D hn hd hcl hu hi
            refine TO.load (k := 0) sc_9 (gd_T rfl (dl_lookup (m := 33) hu rfl (hd 33 dc))) dc (dl_old (by rfl) rfl) rfl rfl ?_
            exact TX.quiet 34 hu hi rfl
           ·
            intro D hn hd hcl hu hi
            refine TO.move (gd_T rfl (dl_lookup (m := 33) hu rfl (hd 33 dc))) dc (dl_old (by rfl) rfl) ?_
            exact TX.quiet 35 hu hi rfl
           ·
            intro D hn hd hcl hu hi
            refine TO.fieldAddr fl_36_4 (gd_T rfl (dl_lookup (m := 33) hu rfl (hd 33 dc))) dc (dl_old (by rfl) rfl) (show _ = 4 from rfl) ?_
            exact TX.quiet 36 hu hi rfl
           ·
            intro D hn hd hcl hu hi
            refine TO.fieldAddr fl_34_0 (gd_T rfl (dl_lookup (m := 33) hu rfl (hd 33 dc))) dc (dl_lookup (m := 36) hu rfl (hd 36 dc)) (show _ = 4 from rfl) ?_
            exact TX.quiet 37 hu hi rfl
           ·
            intro D hn hd hcl hu hi
            refine TO.load (k := 5) sc_3 (gd_T rfl (dl_lookup (m := 33) hu rfl (hd 33 dc))) dc (dl_lookup (m := 37) hu rfl (hd 37 dc)) rfl rfl ?_
            exact TX.quiet 38 hu hi rfl
           ·
            intro D hn hd hcl hu hi
            refine TO.slice (gd_T rfl (dl_lookup (m := 33) hu rfl (hd 33 dc))) dc (dl_lookup (m := 34) hu rfl (hd 34 dc)) (evO.some (dl_lookup (m := 35) hu rfl (hd 35 dc))) (evO.some (dl_lookup (m := 38) hu rfl (hd 38 dc))) (slice_stringI (i := x1.2.Span_From - x1.2.Indent) (j := x1.2.Span_From) Tryd.underlying9 (.inr rfl) (.inr rfl) hg5) ?_
            exact TX.quiet 39 hu hi rfl
           ·
            intro D hn hd hcl hu hi
            refine TO.fieldAddr fl_36_1 (gd_T rfl (dl_lookup (m := 33) hu rfl (hd 33 dc))) dc (dl_old (by rfl) rfl) (show _ = 1 from rfl) ?_
            exact TX.quiet 40 hu hi rfl
           ·
            intro D hn hd hcl hu hi
            refine TO.load (k := 5) sc_3 (gd_T rfl (dl_lookup (m := 33) hu rfl (hd 33 dc))) dc (dl_lookup (m := 40) hu rfl (hd 40 dc)) rfl rfl ?_
            exact TX.quiet 41 hu hi rfl
           ·
            intro D hn hd hcl hu hi
            refine TO.callP (v := .string (spacesB x1.2.Indent)) (vs := [.string (⟨#[32]⟩ : ByteArray), .int .i64 x1.2.Indent]) (gd_T rfl (dl_lookup (m := 33) hu rfl (hd 33 dc))) dc rfl (evL.cons rfl (evL.cons (dl_lookup (m := 41) hu rfl (hd 41 dc)) evL.nil)) rfl en_15 (spaces_p x1.2.Indent hg6) ?_
            exact TX.quiet 42 hu hi rfl
           refine TO.bin rfl dc rfl rfl bin_sneq (TO.rewH (show Value.bool (!decide (cutB s1 (x1.2.Span_From - x1.2.Indent) x1.2.Span_From = spacesB x1.2.Indent)) = Value.bool false from congrArg Value.bool hb9) (TO.pick (b := false) rfl dc rfl rfl (TO.move rfl dc rfl (TO.fieldAddr fl_36_0 rfl dc rfl (show _ = 0 from rfl) (TO.load (k := 5) sc_9 rfl dc rfl rfl rfl (TO.callP (v := .bool r5) (vs := [.string x1.2.Text, .string (⟨#[32]⟩ : ByteArray)]) rfl dc rfl rfl rfl en_16 (strings_HasPrefix_fn hq10) (TO.pick (b := false) rfl dc rfl rfl (TO.nil (TX.next ?_)))))))))
           refine TC.condB rfl (fun hb10 => ?_) (fun hb10 => ?_)
           ·
            have h := condT hb10 h
            refine TC.seq (TC.region ?_)
            refine TO.store (k := 1) (l' := [.bool false]) sz_4 rfl rfl rfl rfl rfl (fun _ _ => rfl) rfl ?_
            refine TO.nil (TX.next (TC.ret (TX.thenRet (TX.blockRet ?_))))
            exact TX.roundRet last3 (show _ ∧ _ from ⟨rfl, h⟩) (Splits.of [0, 1, 2, 3, 4] kr rfl)
           ·
            have h := condF hb10 h
            refine TC.skip (TX.next ?_)
            obtain ⟨j3, hj3, h⟩ := joinE h
            refine TC.cutN (β := Unit) 0 rfl (fun b => j3 = some r) (fun b => []) (fun b => [(1, .pointer (some ⟨b1, 0, none⟩)), (2, .pointer (some ⟨b2, 0, none⟩)), (5, .pointer (some ⟨b4, 0, none⟩)), (7, .pointer (some ⟨b7, 0, none⟩)), (9, .pointer (some ⟨jb1, 0, none⟩)), (43, .func (.func 52) #[] #[.pointer (some ⟨b9, 0, none⟩)])]) (fun b => [cells b1 [.string s1] 9, cells b2 [.bool false] 4, cells b4 [v2] 29, vec (encI (.i64)) 3 1 v2 (starts1.set ((s1.size : Int) : Int).toNat 1), cells b7 [.int .i64 last3] 3, cells jb1 [.string x1.2.Text, .int .i64 x1.2.Indent, .int .i64 x1.2.Stanza, .int .i64 x1.2.In, .int .i64 x1.2.Span_From, .int .i64 x1.2.Span_To] 36]) (fun cut => ?_) ?_
            ·
             refine cut (TC.seq (TC.region (TO.move rfl dc rfl (TO.bin rfl dc rfl rfl bin_gtr (TO.move rfl dc rfl ?_)))))
             refine TO.split (s := 104) rfl (fun hb11 => ?_) (fun hb11 => ?_)
             ·
              have h := condT hb11 h
              refine TO.load (k := 0) sc_9 rfl dc rfl rfl rfl (TO.move rfl dc rfl ?_)
              obtain ⟨hg7, h⟩ := grdE h
              refine TO.bin rfl dc rfl rfl (bin_sub (r := (x1.2.Span_From - x1.2.Indent) - 1) (IntWalk.i64_in _ hg7)) ?_
              obtain ⟨c1, hq11, h⟩ := andE h
              refine TO.index rfl dc rfl rfl (index_stringI Tryd.underlying9 hq11) (TO.bin rfl dc rfl rfl bin_neq (TO.pick (b := true) rfl dc rfl rfl (TO.move rfl dc rfl ?_)))
              refine TO.split (s := 111) rfl (fun hb12 => ?_) (fun hb12 => ?_)
              ·
               have h := condT hb12 h
               refine TO.load (k := 0) sc_9 rfl dc rfl rfl rfl (TO.move rfl dc rfl ?_)
               obtain ⟨hg8, h⟩ := grdE h
               refine TO.bin rfl dc rfl rfl (bin_sub (r := (x1.2.Span_From - x1.2.Indent) - 1) (IntWalk.i64_in _ hg8)) (TO.index rfl dc rfl rfl (index_stringI Tryd.underlying9 hq11) (TO.bin rfl dc rfl rfl bin_neq (TO.pick (b := true) rfl dc rfl rfl (TO.move rfl dc rfl ?_))))
               refine TO.split (s := 118) rfl (fun hb13 => ?_) (fun hb13 => ?_)
               ·
                have h := condT hb13 h
                refine TO.skip rfl dc (TO.skip rfl dc (TO.skip rfl dc (TO.skip rfl dc (TO.skip rfl dc (TO.skip rfl dc (TO.skip rfl dc (TO.skip rfl dc (TO.skip rfl dc (TO.skip rfl dc (TO.skip rfl dc (TO.skip rfl dc (TO.skip rfl dc (TO.skip rfl dc ?_)))))))))))))
                refine TO.skip rfl dc (TO.skip rfl dc (TO.skip rfl dc (TO.skip rfl dc (TO.skip rfl dc (TO.skip rfl dc (TO.skip rfl dc (TO.skip rfl dc (TO.pick (b := true) rfl dc rfl rfl (TO.move rfl dc rfl (TO.skip rfl dc (TO.skip rfl dc (TO.skip rfl dc (TO.pick (b := true) rfl dc rfl rfl ?_)))))))))))))
                refine TO.move rfl dc rfl (TO.skip rfl dc (TO.skip rfl dc (TO.skip rfl dc (TO.skip rfl dc (TO.skip rfl dc (TO.skip rfl dc (TO.skip rfl dc (TO.pick (b := true) rfl dc rfl rfl (TO.move rfl dc rfl (TO.skip rfl dc (TO.skip rfl dc (TO.skip rfl dc (TO.skip rfl dc ?_)))))))))))))
                refine TO.skip rfl dc (TO.skip rfl dc (TO.skip rfl dc (TO.pick (b := true) rfl dc rfl rfl (TO.nil (TX.next (TC.condT rfl (TC.seq (TC.region ?_))))))))
                refine TO.store (k := 1) (l' := [.bool false]) sz_4 rfl rfl rfl rfl rfl (fun _ _ => rfl) rfl ?_
                refine TO.nil (TX.next (TC.ret (TX.thenRet (TX.blockRet ?_))))
                exact TX.roundRet last3 (show _ ∧ _ from ⟨rfl, h⟩) (Splits.of [0, 1, 2, 3, 4] kr rfl)
               ·
                have h := condF hb13 h
                refine TO.fieldAddr fl_36_4 rfl dc rfl (show _ = 4 from rfl) (TO.fieldAddr fl_34_1 rfl dc rfl (show _ = 5 from rfl) (TO.load (k := 5) sc_3 rfl dc rfl rfl rfl (TO.load (k := 0) sc_9 rfl dc rfl rfl rfl (TO.lenStr rfl dc rfl Tryd.underlying9 (TO.bin rfl dc rfl rfl bin_lss (TO.move rfl dc rfl ?_))))))
                refine TO.split (s := 125) rfl (fun hb14 => ?_) (fun hb14 => ?_)
                ·
                 have h := condT hb14 h
                 refine TO.load (k := 0) sc_9 rfl dc rfl rfl rfl (TO.fieldAddr fl_36_4 rfl dc rfl (show _ = 4 from rfl) (TO.fieldAddr fl_34_1 rfl dc rfl (show _ = 5 from rfl) (TO.load (k := 5) sc_3 rfl dc rfl rfl rfl ?_)))
                 obtain ⟨c2, hq12, h⟩ := andE h
                 refine TO.index rfl dc rfl rfl (index_stringI Tryd.underlying9 hq12) (TO.bin rfl dc rfl rfl bin_neq (TO.pick (b := true) rfl dc rfl rfl (TO.move rfl dc rfl ?_)))
                 refine TO.split (s := 133) rfl (fun hb15 => ?_) (fun hb15 => ?_)
                 ·
                  have h := condT hb15 h
                  refine TO.load (k := 0) sc_9 rfl dc rfl rfl rfl (TO.fieldAddr fl_36_4 rfl dc rfl (show _ = 4 from rfl) (TO.fieldAddr fl_34_1 rfl dc rfl (show _ = 5 from rfl) (TO.load (k := 5) sc_3 rfl dc rfl rfl rfl (TO.index rfl dc rfl rfl (index_stringI Tryd.underlying9 hq12) (TO.bin rfl dc rfl rfl bin_neq (TO.pick (b := true) rfl dc rfl rfl (TO.pick (b := false) rfl dc rfl rfl (TO.move rfl dc rfl ?_))))))))
                  refine TO.split (s := 142) rfl (fun hb16 => ?_) (fun hb16 => ?_)
                  ·
                   have h := condT hb16 h
                   refine TO.skip rfl dc (TO.skip rfl dc (TO.skip rfl dc (TO.pick (b := true) rfl dc rfl rfl (TO.move rfl dc rfl (TO.skip rfl dc (TO.skip rfl dc (TO.skip rfl dc (TO.skip rfl dc (TO.skip rfl dc (TO.skip rfl dc (TO.skip rfl dc (TO.pick (b := true) rfl dc rfl rfl (TO.move rfl dc rfl ?_)))))))))))))
                   refine TO.skip rfl dc (TO.skip rfl dc (TO.skip rfl dc (TO.skip rfl dc (TO.skip rfl dc (TO.skip rfl dc (TO.skip rfl dc (TO.pick (b := true) rfl dc rfl rfl (TO.nil (TX.next (TC.condT rfl (TC.seq (TC.region ?_))))))))))))
                   refine TO.store (k := 1) (l' := [.bool false]) sz_4 rfl rfl rfl rfl rfl (fun _ _ => rfl) rfl ?_
                   refine TO.nil (TX.next (TC.ret (TX.thenRet (TX.blockRet ?_))))
                   exact TX.roundRet last3 (show _ ∧ _ from ⟨rfl, h⟩) (Splits.of [0, 1, 2, 3, 4] kr rfl)
                  ·
                   have h := condF hb16 h
                   refine TO.fieldAddr fl_36_0 rfl dc rfl (show _ = 0 from rfl) (TO.load (k := 5) sc_9 rfl dc rfl rfl rfl ?_)
                   obtain ⟨hg9, h⟩ := grdE h
                   refine TO.callP (v := .bool (anyEnd x1.2.Text)) (vs := [.string x1.2.Text, .string (⟨#[13, 10]⟩ : ByteArray)]) rfl dc rfl rfl rfl en_17 (anyEnd_p x1.2.Text hg9) (TO.pick (b := false) rfl dc rfl rfl (TO.move rfl dc rfl ?_))
                   refine TO.split (s := 147) rfl (fun hb17 => ?_) (fun hb17 => ?_)
                   ·
                    have h := condT hb17 h
                    refine TO.skip rfl dc (TO.skip rfl dc (TO.skip rfl dc (TO.skip rfl dc (TO.skip rfl dc (TO.skip rfl dc (TO.skip rfl dc (TO.pick (b := true) rfl dc rfl rfl (TO.move rfl dc rfl (TO.skip rfl dc (TO.skip rfl dc (TO.skip rfl dc (TO.skip rfl dc (TO.skip rfl dc ?_)))))))))))))
                    refine TO.skip rfl dc (TO.skip rfl dc (TO.pick (b := true) rfl dc rfl rfl (TO.nil (TX.next (TC.condT rfl (TC.seq (TC.region ?_)))))))
                    refine TO.store (k := 1) (l' := [.bool false]) sz_4 rfl rfl rfl rfl rfl (fun _ _ => rfl) rfl ?_
                    refine TO.nil (TX.next (TC.ret (TX.thenRet (TX.blockRet ?_))))
                    exact TX.roundRet last3 (show _ ∧ _ from ⟨rfl, h⟩) (Splits.of [0, 1, 2, 3, 4] kr rfl)
                   ·
                    have h := condF hb17 h
                    refine TO.load (k := 2) sc_29 rfl dc rfl rfl rfl (TO.fieldAddr fl_36_4 rfl dc rfl (show _ = 4 from rfl) (TO.fieldAddr fl_34_0 rfl dc rfl (show _ = 4 from rfl) (TO.load (k := 5) sc_3 rfl dc rfl rfl rfl ?_)))
                    obtain ⟨q3, hq13, h⟩ := andE h
                    refine TO.indexVecI (k := 3) hq13 Tryd.underlying29 sz_3 rfl dc rfl rfl rfl rfl (TO.loadVec (i := (x1.2.Span_From : Int).toNat) (j := 0) (k := 3) (q := q3) sc_3 encI_len rfl dc rfl rfl (getO_get hq13) rfl dc rfl (TO.bin rfl dc rfl rfl bin_eql (TO.pick (b := false) rfl dc rfl rfl (TO.move rfl dc rfl ?_))))
                    refine TO.split (s := 156) rfl (fun hb18 => ?_) (fun hb18 => ?_)
                    ·
                     have h := condT hb18 h
                     refine TO.skip rfl dc (TO.skip rfl dc (TO.skip rfl dc (TO.skip rfl dc (TO.skip rfl dc (TO.skip rfl dc (TO.skip rfl dc (TO.pick (b := true) rfl dc rfl rfl (TO.nil (TX.next (TC.condT rfl (TC.seq (TC.region ?_))))))))))))
                     refine TO.store (k := 1) (l' := [.bool false]) sz_4 rfl rfl rfl rfl rfl (fun _ _ => rfl) rfl ?_
                     refine TO.nil (TX.next (TC.ret (TX.thenRet (TX.blockRet ?_))))
                     exact TX.roundRet last3 (show _ ∧ _ from ⟨rfl, h⟩) (Splits.of [0, 1, 2, 3, 4] kr rfl)
                    ·
                     have h := condF hb18 h
                     refine TO.load (k := 2) sc_29 rfl dc rfl rfl rfl (TO.fieldAddr fl_36_4 rfl dc rfl (show _ = 4 from rfl) (TO.fieldAddr fl_34_1 rfl dc rfl (show _ = 5 from rfl) (TO.load (k := 5) sc_3 rfl dc rfl rfl rfl ?_)))
                     obtain ⟨q4, hq14, h⟩ := andE h
                     refine TO.indexVecI (k := 3) hq14 Tryd.underlying29 sz_3 rfl dc rfl rfl rfl rfl (TO.loadVec (i := (x1.2.Span_To : Int).toNat) (j := 0) (k := 3) (q := q4) sc_3 encI_len rfl dc rfl rfl (getO_get hq14) rfl dc rfl (TO.bin rfl dc rfl rfl bin_eql (TO.pick (b := false) rfl dc rfl rfl (TO.nil (TX.next ?_)))))
                     refine TC.condB rfl (fun hb19 => ?_) (fun hb19 => ?_)
                     ·
                      have h := condT hb19 h
                      refine TC.seq (TC.region ?_)
                      refine TO.store (k := 1) (l' := [.bool false]) sz_4 rfl rfl rfl rfl rfl (fun _ _ => rfl) rfl ?_
                      refine TO.nil (TX.next (TC.ret (TX.thenRet (TX.blockRet ?_))))
                      exact TX.roundRet last3 (show _ ∧ _ from ⟨rfl, h⟩) (Splits.of [0, 1, 2, 3, 4] kr rfl)
                     ·
                      have h := condF hb19 h
                      refine TC.skip ?_
                      exact TX.meetD () h rfl (Sbs.cons rfl (Sbs.cons rfl (Sbs.cons rfl (Sbs.cons rfl (Sbs.cons rfl (Sbs.cons rfl (Sbs.nil))))))) (Splits.of [0, 1, 2, 3, 4, 5] kr rfl)
                 ·
                  have h := condF hb15 h
                  refine TO.skip rfl dc (TO.skip rfl dc (TO.skip rfl dc (TO.skip rfl dc (TO.skip rfl dc (TO.skip rfl dc (TO.pick (b := false) rfl dc rfl rfl (TO.pick (b := false) rfl dc rfl rfl (TO.move rfl dc rfl (TO.fieldAddr fl_36_0 rfl dc rfl (show _ = 0 from rfl) (TO.load (k := 5) sc_9 rfl dc rfl rfl rfl ?_))))))))))
                  obtain ⟨hg10, h⟩ := grdE h
                  refine TO.callP (v := .bool (anyEnd x1.2.Text)) (vs := [.string x1.2.Text, .string (⟨#[13, 10]⟩ : ByteArray)]) rfl dc rfl rfl rfl en_17 (anyEnd_p x1.2.Text hg10) (TO.pick (b := false) rfl dc rfl rfl (TO.move rfl dc rfl ?_))
                  refine TO.split (s := 147) rfl (fun hb20 => ?_) (fun hb20 => ?_)
                  ·
                   have h := condT hb20 h
                   refine TO.skip rfl dc (TO.skip rfl dc (TO.skip rfl dc (TO.skip rfl dc (TO.skip rfl dc (TO.skip rfl dc (TO.skip rfl dc (TO.pick (b := true) rfl dc rfl rfl (TO.move rfl dc rfl (TO.skip rfl dc (TO.skip rfl dc (TO.skip rfl dc (TO.skip rfl dc (TO.skip rfl dc ?_)))))))))))))
                   refine TO.skip rfl dc (TO.skip rfl dc (TO.pick (b := true) rfl dc rfl rfl (TO.nil (TX.next (TC.condT rfl (TC.seq (TC.region ?_)))))))
                   refine TO.store (k := 1) (l' := [.bool false]) sz_4 rfl rfl rfl rfl rfl (fun _ _ => rfl) rfl ?_
                   refine TO.nil (TX.next (TC.ret (TX.thenRet (TX.blockRet ?_))))
                   exact TX.roundRet last3 (show _ ∧ _ from ⟨rfl, h⟩) (Splits.of [0, 1, 2, 3, 4] kr rfl)
                  ·
                   have h := condF hb20 h
                   refine TO.load (k := 2) sc_29 rfl dc rfl rfl rfl (TO.fieldAddr fl_36_4 rfl dc rfl (show _ = 4 from rfl) (TO.fieldAddr fl_34_0 rfl dc rfl (show _ = 4 from rfl) (TO.load (k := 5) sc_3 rfl dc rfl rfl rfl ?_)))
                   obtain ⟨q5, hq15, h⟩ := andE h
                   refine TO.indexVecI (k := 3) hq15 Tryd.underlying29 sz_3 rfl dc rfl rfl rfl rfl (TO.loadVec (i := (x1.2.Span_From : Int).toNat) (j := 0) (k := 3) (q := q5) sc_3 encI_len rfl dc rfl rfl (getO_get hq15) rfl dc rfl (TO.bin rfl dc rfl rfl bin_eql (TO.pick (b := false) rfl dc rfl rfl (TO.move rfl dc rfl ?_))))
                   refine TO.split (s := 156) rfl (fun hb21 => ?_) (fun hb21 => ?_)
                   ·
                    have h := condT hb21 h
                    refine TO.skip rfl dc (TO.skip rfl dc (TO.skip rfl dc (TO.skip rfl dc (TO.skip rfl dc (TO.skip rfl dc (TO.skip rfl dc (TO.pick (b := true) rfl dc rfl rfl (TO.nil (TX.next (TC.condT rfl (TC.seq (TC.region ?_))))))))))))
                    refine TO.store (k := 1) (l' := [.bool false]) sz_4 rfl rfl rfl rfl rfl (fun _ _ => rfl) rfl ?_
                    refine TO.nil (TX.next (TC.ret (TX.thenRet (TX.blockRet ?_))))
                    exact TX.roundRet last3 (show _ ∧ _ from ⟨rfl, h⟩) (Splits.of [0, 1, 2, 3, 4] kr rfl)
                   ·
                    have h := condF hb21 h
                    refine TO.load (k := 2) sc_29 rfl dc rfl rfl rfl (TO.fieldAddr fl_36_4 rfl dc rfl (show _ = 4 from rfl) (TO.fieldAddr fl_34_1 rfl dc rfl (show _ = 5 from rfl) (TO.load (k := 5) sc_3 rfl dc rfl rfl rfl ?_)))
                    obtain ⟨q6, hq16, h⟩ := andE h
                    refine TO.indexVecI (k := 3) hq16 Tryd.underlying29 sz_3 rfl dc rfl rfl rfl rfl (TO.loadVec (i := (x1.2.Span_To : Int).toNat) (j := 0) (k := 3) (q := q6) sc_3 encI_len rfl dc rfl rfl (getO_get hq16) rfl dc rfl (TO.bin rfl dc rfl rfl bin_eql (TO.pick (b := false) rfl dc rfl rfl (TO.nil (TX.next ?_)))))
                    refine TC.condB rfl (fun hb22 => ?_) (fun hb22 => ?_)
                    ·
                     have h := condT hb22 h
                     refine TC.seq (TC.region ?_)
                     refine TO.store (k := 1) (l' := [.bool false]) sz_4 rfl rfl rfl rfl rfl (fun _ _ => rfl) rfl ?_
                     refine TO.nil (TX.next (TC.ret (TX.thenRet (TX.blockRet ?_))))
                     exact TX.roundRet last3 (show _ ∧ _ from ⟨rfl, h⟩) (Splits.of [0, 1, 2, 3, 4] kr rfl)
                    ·
                     have h := condF hb22 h
                     refine TC.skip ?_
                     exact TX.meetD () h rfl (Sbs.cons rfl (Sbs.cons rfl (Sbs.cons rfl (Sbs.cons rfl (Sbs.cons rfl (Sbs.cons rfl (Sbs.nil))))))) (Splits.of [0, 1, 2, 3, 4, 5] kr rfl)
                ·
                 have h := condF hb14 h
                 refine TO.skip rfl dc (TO.skip rfl dc (TO.skip rfl dc (TO.skip rfl dc (TO.skip rfl dc (TO.skip rfl dc (TO.pick (b := false) rfl dc rfl rfl (TO.move rfl dc rfl (TO.skip rfl dc (TO.skip rfl dc (TO.skip rfl dc (TO.skip rfl dc (TO.skip rfl dc (TO.skip rfl dc ?_)))))))))))))
                 refine TO.pick (b := false) rfl dc rfl rfl (TO.pick (b := false) rfl dc rfl rfl (TO.move rfl dc rfl (TO.fieldAddr fl_36_0 rfl dc rfl (show _ = 0 from rfl) (TO.load (k := 5) sc_9 rfl dc rfl rfl rfl ?_))))
                 obtain ⟨hg11, h⟩ := grdE h
                 refine TO.callP (v := .bool (anyEnd x1.2.Text)) (vs := [.string x1.2.Text, .string (⟨#[13, 10]⟩ : ByteArray)]) rfl dc rfl rfl rfl en_17 (anyEnd_p x1.2.Text hg11) (TO.pick (b := false) rfl dc rfl rfl (TO.move rfl dc rfl ?_))
                 refine TO.split (s := 147) rfl (fun hb23 => ?_) (fun hb23 => ?_)
                 ·
                  have h := condT hb23 h
                  refine TO.skip rfl dc (TO.skip rfl dc (TO.skip rfl dc (TO.skip rfl dc (TO.skip rfl dc (TO.skip rfl dc (TO.skip rfl dc (TO.pick (b := true) rfl dc rfl rfl (TO.move rfl dc rfl (TO.skip rfl dc (TO.skip rfl dc (TO.skip rfl dc (TO.skip rfl dc (TO.skip rfl dc ?_)))))))))))))
                  refine TO.skip rfl dc (TO.skip rfl dc (TO.pick (b := true) rfl dc rfl rfl (TO.nil (TX.next (TC.condT rfl (TC.seq (TC.region ?_)))))))
                  refine TO.store (k := 1) (l' := [.bool false]) sz_4 rfl rfl rfl rfl rfl (fun _ _ => rfl) rfl ?_
                  refine TO.nil (TX.next (TC.ret (TX.thenRet (TX.blockRet ?_))))
                  exact TX.roundRet last3 (show _ ∧ _ from ⟨rfl, h⟩) (Splits.of [0, 1, 2, 3, 4] kr rfl)
                 ·
                  have h := condF hb23 h
                  refine TO.load (k := 2) sc_29 rfl dc rfl rfl rfl (TO.fieldAddr fl_36_4 rfl dc rfl (show _ = 4 from rfl) (TO.fieldAddr fl_34_0 rfl dc rfl (show _ = 4 from rfl) (TO.load (k := 5) sc_3 rfl dc rfl rfl rfl ?_)))
                  obtain ⟨q7, hq17, h⟩ := andE h
                  refine TO.indexVecI (k := 3) hq17 Tryd.underlying29 sz_3 rfl dc rfl rfl rfl rfl (TO.loadVec (i := (x1.2.Span_From : Int).toNat) (j := 0) (k := 3) (q := q7) sc_3 encI_len rfl dc rfl rfl (getO_get hq17) rfl dc rfl (TO.bin rfl dc rfl rfl bin_eql (TO.pick (b := false) rfl dc rfl rfl (TO.move rfl dc rfl ?_))))
                  refine TO.split (s := 156) rfl (fun hb24 => ?_) (fun hb24 => ?_)
                  ·
                   have h := condT hb24 h
                   refine TO.skip rfl dc (TO.skip rfl dc (TO.skip rfl dc (TO.skip rfl dc (TO.skip rfl dc (TO.skip rfl dc (TO.skip rfl dc (TO.pick (b := true) rfl dc rfl rfl (TO.nil (TX.next (TC.condT rfl (TC.seq (TC.region ?_))))))))))))
                   refine TO.store (k := 1) (l' := [.bool false]) sz_4 rfl rfl rfl rfl rfl (fun _ _ => rfl) rfl ?_
                   refine TO.nil (TX.next (TC.ret (TX.thenRet (TX.blockRet ?_))))
                   exact TX.roundRet last3 (show _ ∧ _ from ⟨rfl, h⟩) (Splits.of [0, 1, 2, 3, 4] kr rfl)
                  ·
                   have h := condF hb24 h
                   refine TO.load (k := 2) sc_29 rfl dc rfl rfl rfl (TO.fieldAddr fl_36_4 rfl dc rfl (show _ = 4 from rfl) (TO.fieldAddr fl_34_1 rfl dc rfl (show _ = 5 from rfl) (TO.load (k := 5) sc_3 rfl dc rfl rfl rfl ?_)))
                   obtain ⟨q8, hq18, h⟩ := andE h
                   refine TO.indexVecI (k := 3) hq18 Tryd.underlying29 sz_3 rfl dc rfl rfl rfl rfl (TO.loadVec (i := (x1.2.Span_To : Int).toNat) (j := 0) (k := 3) (q := q8) sc_3 encI_len rfl dc rfl rfl (getO_get hq18) rfl dc rfl (TO.bin rfl dc rfl rfl bin_eql (TO.pick (b := false) rfl dc rfl rfl (TO.nil (TX.next ?_)))))
                   refine TC.condB rfl (fun hb25 => ?_) (fun hb25 => ?_)
                   ·
                    have h := condT hb25 h
                    refine TC.seq (TC.region ?_)
                    refine TO.store (k := 1) (l' := [.bool false]) sz_4 rfl rfl rfl rfl rfl (fun _ _ => rfl) rfl ?_
                    refine TO.nil (TX.next (TC.ret (TX.thenRet (TX.blockRet ?_))))
                    exact TX.roundRet last3 (show _ ∧ _ from ⟨rfl, h⟩) (Splits.of [0, 1, 2, 3, 4] kr rfl)
                   ·
                    have h := condF hb25 h
                    refine TC.skip ?_
                    exact TX.meetD () h rfl (Sbs.cons rfl (Sbs.cons rfl (Sbs.cons rfl (Sbs.cons rfl (Sbs.cons rfl (Sbs.cons rfl (Sbs.nil))))))) (Splits.of [0, 1, 2, 3, 4, 5] kr rfl)
              ·
               have h := condF hb12 h
               refine TO.skip rfl dc (TO.skip rfl dc (TO.skip rfl dc (TO.skip rfl dc (TO.skip rfl dc (TO.pick (b := false) rfl dc rfl rfl (TO.move rfl dc rfl (TO.fieldAddr fl_36_4 rfl dc rfl (show _ = 4 from rfl) (TO.fieldAddr fl_34_1 rfl dc rfl (show _ = 5 from rfl) (TO.load (k := 5) sc_3 rfl dc rfl rfl rfl (TO.load (k := 0) sc_9 rfl dc rfl rfl rfl (TO.lenStr rfl dc rfl Tryd.underlying9 (TO.bin rfl dc rfl rfl bin_lss (TO.move rfl dc rfl ?_)))))))))))))
               refine TO.split (s := 125) rfl (fun hb26 => ?_) (fun hb26 => ?_)
               ·
                have h := condT hb26 h
                refine TO.load (k := 0) sc_9 rfl dc rfl rfl rfl (TO.fieldAddr fl_36_4 rfl dc rfl (show _ = 4 from rfl) (TO.fieldAddr fl_34_1 rfl dc rfl (show _ = 5 from rfl) (TO.load (k := 5) sc_3 rfl dc rfl rfl rfl ?_)))
                obtain ⟨c3, hq19, h⟩ := andE h
                refine TO.index rfl dc rfl rfl (index_stringI Tryd.underlying9 hq19) (TO.bin rfl dc rfl rfl bin_neq (TO.pick (b := true) rfl dc rfl rfl (TO.move rfl dc rfl ?_)))
                refine TO.split (s := 133) rfl (fun hb27 => ?_) (fun hb27 => ?_)
                ·
                 have h := condT hb27 h
                 refine TO.load (k := 0) sc_9 rfl dc rfl rfl rfl (TO.fieldAddr fl_36_4 rfl dc rfl (show _ = 4 from rfl) (TO.fieldAddr fl_34_1 rfl dc rfl (show _ = 5 from rfl) (TO.load (k := 5) sc_3 rfl dc rfl rfl rfl (TO.index rfl dc rfl rfl (index_stringI Tryd.underlying9 hq19) (TO.bin rfl dc rfl rfl bin_neq (TO.pick (b := true) rfl dc rfl rfl (TO.pick (b := false) rfl dc rfl rfl (TO.move rfl dc rfl ?_))))))))
                 refine TO.split (s := 142) rfl (fun hb28 => ?_) (fun hb28 => ?_)
                 ·
                  have h := condT hb28 h
                  refine TO.skip rfl dc (TO.skip rfl dc (TO.skip rfl dc (TO.pick (b := true) rfl dc rfl rfl (TO.move rfl dc rfl (TO.skip rfl dc (TO.skip rfl dc (TO.skip rfl dc (TO.skip rfl dc (TO.skip rfl dc (TO.skip rfl dc (TO.skip rfl dc (TO.pick (b := true) rfl dc rfl rfl (TO.move rfl dc rfl ?_)))))))))))))
                  refine TO.skip rfl dc (TO.skip rfl dc (TO.skip rfl dc (TO.skip rfl dc (TO.skip rfl dc (TO.skip rfl dc (TO.skip rfl dc (TO.pick (b := true) rfl dc rfl rfl (TO.nil (TX.next (TC.condT rfl (TC.seq (TC.region ?_))))))))))))
                  refine TO.store (k := 1) (l' := [.bool false]) sz_4 rfl rfl rfl rfl rfl (fun _ _ => rfl) rfl ?_
                  refine TO.nil (TX.next (TC.ret (TX.thenRet (TX.blockRet ?_))))
                  exact TX.roundRet last3 (show _ ∧ _ from ⟨rfl, h⟩) (Splits.of [0, 1, 2, 3, 4] kr rfl)
                 ·
                  have h := condF hb28 h
                  refine TO.fieldAddr fl_36_0 rfl dc rfl (show _ = 0 from rfl) (TO.load (k := 5) sc_9 rfl dc rfl rfl rfl ?_)
                  obtain ⟨hg12, h⟩ := grdE h
                  refine TO.callP (v := .bool (anyEnd x1.2.Text)) (vs := [.string x1.2.Text, .string (⟨#[13, 10]⟩ : ByteArray)]) rfl dc rfl rfl rfl en_17 (anyEnd_p x1.2.Text hg12) (TO.pick (b := false) rfl dc rfl rfl (TO.move rfl dc rfl ?_))
                  refine TO.split (s := 147) rfl (fun hb29 => ?_) (fun hb29 => ?_)
                  ·
                   have h := condT hb29 h
                   refine TO.skip rfl dc (TO.skip rfl dc (TO.skip rfl dc (TO.skip rfl dc (TO.skip rfl dc (TO.skip rfl dc (TO.skip rfl dc (TO.pick (b := true) rfl dc rfl rfl (TO.move rfl dc rfl (TO.skip rfl dc (TO.skip rfl dc (TO.skip rfl dc (TO.skip rfl dc (TO.skip rfl dc ?_)))))))))))))
                   refine TO.skip rfl dc (TO.skip rfl dc (TO.pick (b := true) rfl dc rfl rfl (TO.nil (TX.next (TC.condT rfl (TC.seq (TC.region ?_)))))))
                   refine TO.store (k := 1) (l' := [.bool false]) sz_4 rfl rfl rfl rfl rfl (fun _ _ => rfl) rfl ?_
                   refine TO.nil (TX.next (TC.ret (TX.thenRet (TX.blockRet ?_))))
                   exact TX.roundRet last3 (show _ ∧ _ from ⟨rfl, h⟩) (Splits.of [0, 1, 2, 3, 4] kr rfl)
                  ·
                   have h := condF hb29 h
                   refine TO.load (k := 2) sc_29 rfl dc rfl rfl rfl (TO.fieldAddr fl_36_4 rfl dc rfl (show _ = 4 from rfl) (TO.fieldAddr fl_34_0 rfl dc rfl (show _ = 4 from rfl) (TO.load (k := 5) sc_3 rfl dc rfl rfl rfl ?_)))
                   obtain ⟨q9, hq20, h⟩ := andE h
                   refine TO.indexVecI (k := 3) hq20 Tryd.underlying29 sz_3 rfl dc rfl rfl rfl rfl (TO.loadVec (i := (x1.2.Span_From : Int).toNat) (j := 0) (k := 3) (q := q9) sc_3 encI_len rfl dc rfl rfl (getO_get hq20) rfl dc rfl (TO.bin rfl dc rfl rfl bin_eql (TO.pick (b := false) rfl dc rfl rfl (TO.move rfl dc rfl ?_))))
                   refine TO.split (s := 156) rfl (fun hb30 => ?_) (fun hb30 => ?_)
                   ·
                    have h := condT hb30 h
                    refine TO.skip rfl dc (TO.skip rfl dc (TO.skip rfl dc (TO.skip rfl dc (TO.skip rfl dc (TO.skip rfl dc (TO.skip rfl dc (TO.pick (b := true) rfl dc rfl rfl (TO.nil (TX.next (TC.condT rfl (TC.seq (TC.region ?_))))))))))))
                    refine TO.store (k := 1) (l' := [.bool false]) sz_4 rfl rfl rfl rfl rfl (fun _ _ => rfl) rfl ?_
                    refine TO.nil (TX.next (TC.ret (TX.thenRet (TX.blockRet ?_))))
                    exact TX.roundRet last3 (show _ ∧ _ from ⟨rfl, h⟩) (Splits.of [0, 1, 2, 3, 4] kr rfl)
                   ·
                    have h := condF hb30 h
                    refine TO.load (k := 2) sc_29 rfl dc rfl rfl rfl (TO.fieldAddr fl_36_4 rfl dc rfl (show _ = 4 from rfl) (TO.fieldAddr fl_34_1 rfl dc rfl (show _ = 5 from rfl) (TO.load (k := 5) sc_3 rfl dc rfl rfl rfl ?_)))
                    obtain ⟨q10, hq21, h⟩ := andE h
                    refine TO.indexVecI (k := 3) hq21 Tryd.underlying29 sz_3 rfl dc rfl rfl rfl rfl (TO.loadVec (i := (x1.2.Span_To : Int).toNat) (j := 0) (k := 3) (q := q10) sc_3 encI_len rfl dc rfl rfl (getO_get hq21) rfl dc rfl (TO.bin rfl dc rfl rfl bin_eql (TO.pick (b := false) rfl dc rfl rfl (TO.nil (TX.next ?_)))))
                    refine TC.condB rfl (fun hb31 => ?_) (fun hb31 => ?_)
                    ·
                     have h := condT hb31 h
                     refine TC.seq (TC.region ?_)
                     refine TO.store (k := 1) (l' := [.bool false]) sz_4 rfl rfl rfl rfl rfl (fun _ _ => rfl) rfl ?_
                     refine TO.nil (TX.next (TC.ret (TX.thenRet (TX.blockRet ?_))))
                     exact TX.roundRet last3 (show _ ∧ _ from ⟨rfl, h⟩) (Splits.of [0, 1, 2, 3, 4] kr rfl)
                    ·
                     have h := condF hb31 h
                     refine TC.skip ?_
                     exact TX.meetD () h rfl (Sbs.cons rfl (Sbs.cons rfl (Sbs.cons rfl (Sbs.cons rfl (Sbs.cons rfl (Sbs.cons rfl (Sbs.nil))))))) (Splits.of [0, 1, 2, 3, 4, 5] kr rfl)
                ·
                 have h := condF hb27 h
                 refine TO.skip rfl dc (TO.skip rfl dc (TO.skip rfl dc (TO.skip rfl dc (TO.skip rfl dc (TO.skip rfl dc (TO.pick (b := false) rfl dc rfl rfl (TO.pick (b := false) rfl dc rfl rfl (TO.move rfl dc rfl (TO.fieldAddr fl_36_0 rfl dc rfl (show _ = 0 from rfl) (TO.load (k := 5) sc_9 rfl dc rfl rfl rfl ?_))))))))))
                 obtain ⟨hg13, h⟩ := grdE h
                 refine TO.callP (v := .bool (anyEnd x1.2.Text)) (vs := [.string x1.2.Text, .string (⟨#[13, 10]⟩ : ByteArray)]) rfl dc rfl rfl rfl en_17 (anyEnd_p x1.2.Text hg13) (TO.pick (b := false) rfl dc rfl rfl (TO.move rfl dc rfl ?_))
                 refine TO.split (s := 147) rfl (fun hb32 => ?_) (fun hb32 => ?_)
                 ·
                  have h := condT hb32 h
                  refine TO.skip rfl dc (TO.skip rfl dc (TO.skip rfl dc (TO.skip rfl dc (TO.skip rfl dc (TO.skip rfl dc (TO.skip rfl dc (TO.pick (b := true) rfl dc rfl rfl (TO.move rfl dc rfl (TO.skip rfl dc (TO.skip rfl dc (TO.skip rfl dc (TO.skip rfl dc (TO.skip rfl dc ?_)))))))))))))
                  refine TO.skip rfl dc (TO.skip rfl dc (TO.pick (b := true) rfl dc rfl rfl (TO.nil (TX.next (TC.condT rfl (TC.seq (TC.region ?_)))))))
                  refine TO.store (k := 1) (l' := [.bool false]) sz_4 rfl rfl rfl rfl rfl (fun _ _ => rfl) rfl ?_
                  refine TO.nil (TX.next (TC.ret (TX.thenRet (TX.blockRet ?_))))
                  exact TX.roundRet last3 (show _ ∧ _ from ⟨rfl, h⟩) (Splits.of [0, 1, 2, 3, 4] kr rfl)
                 ·
                  have h := condF hb32 h
                  refine TO.load (k := 2) sc_29 rfl dc rfl rfl rfl (TO.fieldAddr fl_36_4 rfl dc rfl (show _ = 4 from rfl) (TO.fieldAddr fl_34_0 rfl dc rfl (show _ = 4 from rfl) (TO.load (k := 5) sc_3 rfl dc rfl rfl rfl ?_)))
                  obtain ⟨q11, hq22, h⟩ := andE h
                  refine TO.indexVecI (k := 3) hq22 Tryd.underlying29 sz_3 rfl dc rfl rfl rfl rfl (TO.loadVec (i := (x1.2.Span_From : Int).toNat) (j := 0) (k := 3) (q := q11) sc_3 encI_len rfl dc rfl rfl (getO_get hq22) rfl dc rfl (TO.bin rfl dc rfl rfl bin_eql (TO.pick (b := false) rfl dc rfl rfl (TO.move rfl dc rfl ?_))))
                  refine TO.split (s := 156) rfl (fun hb33 => ?_) (fun hb33 => ?_)
                  ·
                   have h := condT hb33 h
                   refine TO.skip rfl dc (TO.skip rfl dc (TO.skip rfl dc (TO.skip rfl dc (TO.skip rfl dc (TO.skip rfl dc (TO.skip rfl dc (TO.pick (b := true) rfl dc rfl rfl (TO.nil (TX.next (TC.condT rfl (TC.seq (TC.region ?_))))))))))))
                   refine TO.store (k := 1) (l' := [.bool false]) sz_4 rfl rfl rfl rfl rfl (fun _ _ => rfl) rfl ?_
                   refine TO.nil (TX.next (TC.ret (TX.thenRet (TX.blockRet ?_))))
                   exact TX.roundRet last3 (show _ ∧ _ from ⟨rfl, h⟩) (Splits.of [0, 1, 2, 3, 4] kr rfl)
                  ·
                   have h := condF hb33 h
                   refine TO.load (k := 2) sc_29 rfl dc rfl rfl rfl (TO.fieldAddr fl_36_4 rfl dc rfl (show _ = 4 from rfl) (TO.fieldAddr fl_34_1 rfl dc rfl (show _ = 5 from rfl) (TO.load (k := 5) sc_3 rfl dc rfl rfl rfl ?_)))
                   obtain ⟨q12, hq23, h⟩ := andE h
                   refine TO.indexVecI (k := 3) hq23 Tryd.underlying29 sz_3 rfl dc rfl rfl rfl rfl (TO.loadVec (i := (x1.2.Span_To : Int).toNat) (j := 0) (k := 3) (q := q12) sc_3 encI_len rfl dc rfl rfl (getO_get hq23) rfl dc rfl (TO.bin rfl dc rfl rfl bin_eql (TO.pick (b := false) rfl dc rfl rfl (TO.nil (TX.next ?_)))))
                   refine TC.condB rfl (fun hb34 => ?_) (fun hb34 => ?_)
                   ·
                    have h := condT hb34 h
                    refine TC.seq (TC.region ?_)
                    refine TO.store (k := 1) (l' := [.bool false]) sz_4 rfl rfl rfl rfl rfl (fun _ _ => rfl) rfl ?_
                    refine TO.nil (TX.next (TC.ret (TX.thenRet (TX.blockRet ?_))))
                    exact TX.roundRet last3 (show _ ∧ _ from ⟨rfl, h⟩) (Splits.of [0, 1, 2, 3, 4] kr rfl)
                   ·
                    have h := condF hb34 h
                    refine TC.skip ?_
                    exact TX.meetD () h rfl (Sbs.cons rfl (Sbs.cons rfl (Sbs.cons rfl (Sbs.cons rfl (Sbs.cons rfl (Sbs.cons rfl (Sbs.nil))))))) (Splits.of [0, 1, 2, 3, 4, 5] kr rfl)
               ·
                have h := condF hb26 h
                refine TO.skip rfl dc (TO.skip rfl dc (TO.skip rfl dc (TO.skip rfl dc (TO.skip rfl dc (TO.skip rfl dc (TO.pick (b := false) rfl dc rfl rfl (TO.move rfl dc rfl (TO.skip rfl dc (TO.skip rfl dc (TO.skip rfl dc (TO.skip rfl dc (TO.skip rfl dc (TO.skip rfl dc ?_)))))))))))))
                refine TO.pick (b := false) rfl dc rfl rfl (TO.pick (b := false) rfl dc rfl rfl (TO.move rfl dc rfl (TO.fieldAddr fl_36_0 rfl dc rfl (show _ = 0 from rfl) (TO.load (k := 5) sc_9 rfl dc rfl rfl rfl ?_))))
                obtain ⟨hg14, h⟩ := grdE h
                refine TO.callP (v := .bool (anyEnd x1.2.Text)) (vs := [.string x1.2.Text, .string (⟨#[13, 10]⟩ : ByteArray)]) rfl dc rfl rfl rfl en_17 (anyEnd_p x1.2.Text hg14) (TO.pick (b := false) rfl dc rfl rfl (TO.move rfl dc rfl ?_))
                refine TO.split (s := 147) rfl (fun hb35 => ?_) (fun hb35 => ?_)
                ·
                 have h := condT hb35 h
                 refine TO.skip rfl dc (TO.skip rfl dc (TO.skip rfl dc (TO.skip rfl dc (TO.skip rfl dc (TO.skip rfl dc (TO.skip rfl dc (TO.pick (b := true) rfl dc rfl rfl (TO.move rfl dc rfl (TO.skip rfl dc (TO.skip rfl dc (TO.skip rfl dc (TO.skip rfl dc (TO.skip rfl dc ?_)))))))))))))
                 refine TO.skip rfl dc (TO.skip rfl dc (TO.pick (b := true) rfl dc rfl rfl (TO.nil (TX.next (TC.condT rfl (TC.seq (TC.region ?_)))))))
                 refine TO.store (k := 1) (l' := [.bool false]) sz_4 rfl rfl rfl rfl rfl (fun _ _ => rfl) rfl ?_
                 refine TO.nil (TX.next (TC.ret (TX.thenRet (TX.blockRet ?_))))
                 exact TX.roundRet last3 (show _ ∧ _ from ⟨rfl, h⟩) (Splits.of [0, 1, 2, 3, 4] kr rfl)
                ·
                 have h := condF hb35 h
                 refine TO.load (k := 2) sc_29 rfl dc rfl rfl rfl (TO.fieldAddr fl_36_4 rfl dc rfl (show _ = 4 from rfl) (TO.fieldAddr fl_34_0 rfl dc rfl (show _ = 4 from rfl) (TO.load (k := 5) sc_3 rfl dc rfl rfl rfl ?_)))
                 obtain ⟨q13, hq24, h⟩ := andE h
                 refine TO.indexVecI (k := 3) hq24 Tryd.underlying29 sz_3 rfl dc rfl rfl rfl rfl (TO.loadVec (i := (x1.2.Span_From : Int).toNat) (j := 0) (k := 3) (q := q13) sc_3 encI_len rfl dc rfl rfl (getO_get hq24) rfl dc rfl (TO.bin rfl dc rfl rfl bin_eql (TO.pick (b := false) rfl dc rfl rfl (TO.move rfl dc rfl ?_))))
                 refine TO.split (s := 156) rfl (fun hb36 => ?_) (fun hb36 => ?_)
                 ·
                  have h := condT hb36 h
                  refine TO.skip rfl dc (TO.skip rfl dc (TO.skip rfl dc (TO.skip rfl dc (TO.skip rfl dc (TO.skip rfl dc (TO.skip rfl dc (TO.pick (b := true) rfl dc rfl rfl (TO.nil (TX.next (TC.condT rfl (TC.seq (TC.region ?_))))))))))))
                  refine TO.store (k := 1) (l' := [.bool false]) sz_4 rfl rfl rfl rfl rfl (fun _ _ => rfl) rfl ?_
                  refine TO.nil (TX.next (TC.ret (TX.thenRet (TX.blockRet ?_))))
                  exact TX.roundRet last3 (show _ ∧ _ from ⟨rfl, h⟩) (Splits.of [0, 1, 2, 3, 4] kr rfl)
                 ·
                  have h := condF hb36 h
                  refine TO.load (k := 2) sc_29 rfl dc rfl rfl rfl (TO.fieldAddr fl_36_4 rfl dc rfl (show _ = 4 from rfl) (TO.fieldAddr fl_34_1 rfl dc rfl (show _ = 5 from rfl) (TO.load (k := 5) sc_3 rfl dc rfl rfl rfl ?_)))
                  obtain ⟨q14, hq25, h⟩ := andE h
                  refine TO.indexVecI (k := 3) hq25 Tryd.underlying29 sz_3 rfl dc rfl rfl rfl rfl (TO.loadVec (i := (x1.2.Span_To : Int).toNat) (j := 0) (k := 3) (q := q14) sc_3 encI_len rfl dc rfl rfl (getO_get hq25) rfl dc rfl (TO.bin rfl dc rfl rfl bin_eql (TO.pick (b := false) rfl dc rfl rfl (TO.nil (TX.next ?_)))))
                  refine TC.condB rfl (fun hb37 => ?_) (fun hb37 => ?_)
                  ·
                   have h := condT hb37 h
                   refine TC.seq (TC.region ?_)
                   refine TO.store (k := 1) (l' := [.bool false]) sz_4 rfl rfl rfl rfl rfl (fun _ _ => rfl) rfl ?_
                   refine TO.nil (TX.next (TC.ret (TX.thenRet (TX.blockRet ?_))))
                   exact TX.roundRet last3 (show _ ∧ _ from ⟨rfl, h⟩) (Splits.of [0, 1, 2, 3, 4] kr rfl)
                  ·
                   have h := condF hb37 h
                   refine TC.skip ?_
                   exact TX.meetD () h rfl (Sbs.cons rfl (Sbs.cons rfl (Sbs.cons rfl (Sbs.cons rfl (Sbs.cons rfl (Sbs.cons rfl (Sbs.nil))))))) (Splits.of [0, 1, 2, 3, 4, 5] kr rfl)
             ·
              have h := condF hb11 h
              refine TO.skip rfl dc (TO.skip rfl dc (TO.skip rfl dc (TO.skip rfl dc (TO.skip rfl dc (TO.pick (b := false) rfl dc rfl rfl (TO.move rfl dc rfl (TO.skip rfl dc (TO.skip rfl dc (TO.skip rfl dc (TO.skip rfl dc (TO.skip rfl dc (TO.pick (b := false) rfl dc rfl rfl (TO.move rfl dc rfl ?_)))))))))))))
              refine TO.fieldAddr fl_36_4 rfl dc rfl (show _ = 4 from rfl) (TO.fieldAddr fl_34_1 rfl dc rfl (show _ = 5 from rfl) (TO.load (k := 5) sc_3 rfl dc rfl rfl rfl (TO.load (k := 0) sc_9 rfl dc rfl rfl rfl (TO.lenStr rfl dc rfl Tryd.underlying9 (TO.bin rfl dc rfl rfl bin_lss (TO.move rfl dc rfl ?_))))))
              refine TO.split (s := 125) rfl (fun hb38 => ?_) (fun hb38 => ?_)
              ·
               have h := condT hb38 h
               refine TO.load (k := 0) sc_9 rfl dc rfl rfl rfl (TO.fieldAddr fl_36_4 rfl dc rfl (show _ = 4 from rfl) (TO.fieldAddr fl_34_1 rfl dc rfl (show _ = 5 from rfl) (TO.load (k := 5) sc_3 rfl dc rfl rfl rfl ?_)))
               obtain ⟨c4, hq26, h⟩ := andE h
               refine TO.index rfl dc rfl rfl (index_stringI Tryd.underlying9 hq26) (TO.bin rfl dc rfl rfl bin_neq (TO.pick (b := true) rfl dc rfl rfl (TO.move rfl dc rfl ?_)))
               refine TO.split (s := 133) rfl (fun hb39 => ?_) (fun hb39 => ?_)
               ·
                have h := condT hb39 h
                refine TO.load (k := 0) sc_9 rfl dc rfl rfl rfl (TO.fieldAddr fl_36_4 rfl dc rfl (show _ = 4 from rfl) (TO.fieldAddr fl_34_1 rfl dc rfl (show _ = 5 from rfl) (TO.load (k := 5) sc_3 rfl dc rfl rfl rfl (TO.index rfl dc rfl rfl (index_stringI Tryd.underlying9 hq26) (TO.bin rfl dc rfl rfl bin_neq (TO.pick (b := true) rfl dc rfl rfl (TO.pick (b := false) rfl dc rfl rfl (TO.move rfl dc rfl ?_))))))))
                refine TO.split (s := 142) rfl (fun hb40 => ?_) (fun hb40 => ?_)
                ·
                 have h := condT hb40 h
                 refine TO.skip rfl dc (TO.skip rfl dc (TO.skip rfl dc (TO.pick (b := true) rfl dc rfl rfl (TO.move rfl dc rfl (TO.skip rfl dc (TO.skip rfl dc (TO.skip rfl dc (TO.skip rfl dc (TO.skip rfl dc (TO.skip rfl dc (TO.skip rfl dc (TO.pick (b := true) rfl dc rfl rfl (TO.move rfl dc rfl ?_)))))))))))))
                 refine TO.skip rfl dc (TO.skip rfl dc (TO.skip rfl dc (TO.skip rfl dc (TO.skip rfl dc (TO.skip rfl dc (TO.skip rfl dc (TO.pick (b := true) rfl dc rfl rfl (TO.nil (TX.next (TC.condT rfl (TC.seq (TC.region ?_))))))))))))
                 refine TO.store (k := 1) (l' := [.bool false]) sz_4 rfl rfl rfl rfl rfl (fun _ _ => rfl) rfl ?_
                 refine TO.nil (TX.next (TC.ret (TX.thenRet (TX.blockRet ?_))))
                 exact TX.roundRet last3 (show _ ∧ _ from ⟨rfl, h⟩) (Splits.of [0, 1, 2, 3, 4] kr rfl)
                ·
                 have h := condF hb40 h
                 refine TO.fieldAddr fl_36_0 rfl dc rfl (show _ = 0 from rfl) (TO.load (k := 5) sc_9 rfl dc rfl rfl rfl ?_)
                 obtain ⟨hg15, h⟩ := grdE h
                 refine TO.callP (v := .bool (anyEnd x1.2.Text)) (vs := [.string x1.2.Text, .string (⟨#[13, 10]⟩ : ByteArray)]) rfl dc rfl rfl rfl en_17 (anyEnd_p x1.2.Text hg15) (TO.pick (b := false) rfl dc rfl rfl (TO.move rfl dc rfl ?_))
                 refine TO.split (s := 147) rfl (fun hb41 => ?_) (fun hb41 => ?_)
                 ·
                  have h := condT hb41 h
                  refine TO.skip rfl dc (TO.skip rfl dc (TO.skip rfl dc (TO.skip rfl dc (TO.skip rfl dc (TO.skip rfl dc (TO.skip rfl dc (TO.pick (b := true) rfl dc rfl rfl (TO.move rfl dc rfl (TO.skip rfl dc (TO.skip rfl dc (TO.skip rfl dc (TO.skip rfl dc (TO.skip rfl dc ?_)))))))))))))
                  refine TO.skip rfl dc (TO.skip rfl dc (TO.pick (b := true) rfl dc rfl rfl (TO.nil (TX.next (TC.condT rfl (TC.seq (TC.region ?_)))))))
                  refine TO.store (k := 1) (l' := [.bool false]) sz_4 rfl rfl rfl rfl rfl (fun _ _ => rfl) rfl ?_
                  refine TO.nil (TX.next (TC.ret (TX.thenRet (TX.blockRet ?_))))
                  exact TX.roundRet last3 (show _ ∧ _ from ⟨rfl, h⟩) (Splits.of [0, 1, 2, 3, 4] kr rfl)
                 ·
                  have h := condF hb41 h
                  refine TO.load (k := 2) sc_29 rfl dc rfl rfl rfl (TO.fieldAddr fl_36_4 rfl dc rfl (show _ = 4 from rfl) (TO.fieldAddr fl_34_0 rfl dc rfl (show _ = 4 from rfl) (TO.load (k := 5) sc_3 rfl dc rfl rfl rfl ?_)))
                  obtain ⟨q15, hq27, h⟩ := andE h
                  refine TO.indexVecI (k := 3) hq27 Tryd.underlying29 sz_3 rfl dc rfl rfl rfl rfl (TO.loadVec (i := (x1.2.Span_From : Int).toNat) (j := 0) (k := 3) (q := q15) sc_3 encI_len rfl dc rfl rfl (getO_get hq27) rfl dc rfl (TO.bin rfl dc rfl rfl bin_eql (TO.pick (b := false) rfl dc rfl rfl (TO.move rfl dc rfl ?_))))
                  refine TO.split (s := 156) rfl (fun hb42 => ?_) (fun hb42 => ?_)
                  ·
                   have h := condT hb42 h
                   refine TO.skip rfl dc (TO.skip rfl dc (TO.skip rfl dc (TO.skip rfl dc (TO.skip rfl dc (TO.skip rfl dc (TO.skip rfl dc (TO.pick (b := true) rfl dc rfl rfl (TO.nil (TX.next (TC.condT rfl (TC.seq (TC.region ?_))))))))))))
                   refine TO.store (k := 1) (l' := [.bool false]) sz_4 rfl rfl rfl rfl rfl (fun _ _ => rfl) rfl ?_
                   refine TO.nil (TX.next (TC.ret (TX.thenRet (TX.blockRet ?_))))
                   exact TX.roundRet last3 (show _ ∧ _ from ⟨rfl, h⟩) (Splits.of [0, 1, 2, 3, 4] kr rfl)
                  ·
                   have h := condF hb42 h
                   refine TO.load (k := 2) sc_29 rfl dc rfl rfl rfl (TO.fieldAddr fl_36_4 rfl dc rfl (show _ = 4 from rfl) (TO.fieldAddr fl_34_1 rfl dc rfl (show _ = 5 from rfl) (TO.load (k := 5) sc_3 rfl dc rfl rfl rfl ?_)))
                   obtain ⟨q16, hq28, h⟩ := andE h
                   refine TO.indexVecI (k := 3) hq28 Tryd.underlying29 sz_3 rfl dc rfl rfl rfl rfl (TO.loadVec (i := (x1.2.Span_To : Int).toNat) (j := 0) (k := 3) (q := q16) sc_3 encI_len rfl dc rfl rfl (getO_get hq28) rfl dc rfl (TO.bin rfl dc rfl rfl bin_eql (TO.pick (b := false) rfl dc rfl rfl (TO.nil (TX.next ?_)))))
                   refine TC.condB rfl (fun hb43 => ?_) (fun hb43 => ?_)
                   ·
                    have h := condT hb43 h
                    refine TC.seq (TC.region ?_)
                    refine TO.store (k := 1) (l' := [.bool false]) sz_4 rfl rfl rfl rfl rfl (fun _ _ => rfl) rfl ?_
                    refine TO.nil (TX.next (TC.ret (TX.thenRet (TX.blockRet ?_))))
                    exact TX.roundRet last3 (show _ ∧ _ from ⟨rfl, h⟩) (Splits.of [0, 1, 2, 3, 4] kr rfl)
                   ·
                    have h := condF hb43 h
                    refine TC.skip ?_
                    exact TX.meetD () h rfl (Sbs.cons rfl (Sbs.cons rfl (Sbs.cons rfl (Sbs.cons rfl (Sbs.cons rfl (Sbs.cons rfl (Sbs.nil))))))) (Splits.of [0, 1, 2, 3, 4, 5] kr rfl)
               ·
                have h := condF hb39 h
                refine TO.skip rfl dc (TO.skip rfl dc (TO.skip rfl dc (TO.skip rfl dc (TO.skip rfl dc (TO.skip rfl dc (TO.pick (b := false) rfl dc rfl rfl (TO.pick (b := false) rfl dc rfl rfl (TO.move rfl dc rfl (TO.fieldAddr fl_36_0 rfl dc rfl (show _ = 0 from rfl) (TO.load (k := 5) sc_9 rfl dc rfl rfl rfl ?_))))))))))
                obtain ⟨hg16, h⟩ := grdE h
                refine TO.callP (v := .bool (anyEnd x1.2.Text)) (vs := [.string x1.2.Text, .string (⟨#[13, 10]⟩ : ByteArray)]) rfl dc rfl rfl rfl en_17 (anyEnd_p x1.2.Text hg16) (TO.pick (b := false) rfl dc rfl rfl (TO.move rfl dc rfl ?_))
                refine TO.split (s := 147) rfl (fun hb44 => ?_) (fun hb44 => ?_)
                ·
                 have h := condT hb44 h
                 refine TO.skip rfl dc (TO.skip rfl dc (TO.skip rfl dc (TO.skip rfl dc (TO.skip rfl dc (TO.skip rfl dc (TO.skip rfl dc (TO.pick (b := true) rfl dc rfl rfl (TO.move rfl dc rfl (TO.skip rfl dc (TO.skip rfl dc (TO.skip rfl dc (TO.skip rfl dc (TO.skip rfl dc ?_)))))))))))))
                 refine TO.skip rfl dc (TO.skip rfl dc (TO.pick (b := true) rfl dc rfl rfl (TO.nil (TX.next (TC.condT rfl (TC.seq (TC.region ?_)))))))
                 refine TO.store (k := 1) (l' := [.bool false]) sz_4 rfl rfl rfl rfl rfl (fun _ _ => rfl) rfl ?_
                 refine TO.nil (TX.next (TC.ret (TX.thenRet (TX.blockRet ?_))))
                 exact TX.roundRet last3 (show _ ∧ _ from ⟨rfl, h⟩) (Splits.of [0, 1, 2, 3, 4] kr rfl)
                ·
                 have h := condF hb44 h
                 refine TO.load (k := 2) sc_29 rfl dc rfl rfl rfl (TO.fieldAddr fl_36_4 rfl dc rfl (show _ = 4 from rfl) (TO.fieldAddr fl_34_0 rfl dc rfl (show _ = 4 from rfl) (TO.load (k := 5) sc_3 rfl dc rfl rfl rfl ?_)))
                 obtain ⟨q17, hq29, h⟩ := andE h
                 refine TO.indexVecI (k := 3) hq29 Tryd.underlying29 sz_3 rfl dc rfl rfl rfl rfl (TO.loadVec (i := (x1.2.Span_From : Int).toNat) (j := 0) (k := 3) (q := q17) sc_3 encI_len rfl dc rfl rfl (getO_get hq29) rfl dc rfl (TO.bin rfl dc rfl rfl bin_eql (TO.pick (b := false) rfl dc rfl rfl (TO.move rfl dc rfl ?_))))
                 refine TO.split (s := 156) rfl (fun hb45 => ?_) (fun hb45 => ?_)
                 ·
                  have h := condT hb45 h
                  refine TO.skip rfl dc (TO.skip rfl dc (TO.skip rfl dc (TO.skip rfl dc (TO.skip rfl dc (TO.skip rfl dc (TO.skip rfl dc (TO.pick (b := true) rfl dc rfl rfl (TO.nil (TX.next (TC.condT rfl (TC.seq (TC.region ?_))))))))))))
                  refine TO.store (k := 1) (l' := [.bool false]) sz_4 rfl rfl rfl rfl rfl (fun _ _ => rfl) rfl ?_
                  refine TO.nil (TX.next (TC.ret (TX.thenRet (TX.blockRet ?_))))
                  exact TX.roundRet last3 (show _ ∧ _ from ⟨rfl, h⟩) (Splits.of [0, 1, 2, 3, 4] kr rfl)
                 ·
                  have h := condF hb45 h
                  refine TO.load (k := 2) sc_29 rfl dc rfl rfl rfl (TO.fieldAddr fl_36_4 rfl dc rfl (show _ = 4 from rfl) (TO.fieldAddr fl_34_1 rfl dc rfl (show _ = 5 from rfl) (TO.load (k := 5) sc_3 rfl dc rfl rfl rfl ?_)))
                  obtain ⟨q18, hq30, h⟩ := andE h
                  refine TO.indexVecI (k := 3) hq30 Tryd.underlying29 sz_3 rfl dc rfl rfl rfl rfl (TO.loadVec (i := (x1.2.Span_To : Int).toNat) (j := 0) (k := 3) (q := q18) sc_3 encI_len rfl dc rfl rfl (getO_get hq30) rfl dc rfl (TO.bin rfl dc rfl rfl bin_eql (TO.pick (b := false) rfl dc rfl rfl (TO.nil (TX.next ?_)))))
                  refine TC.condB rfl (fun hb46 => ?_) (fun hb46 => ?_)
                  ·
                   have h := condT hb46 h
                   refine TC.seq (TC.region ?_)
                   refine TO.store (k := 1) (l' := [.bool false]) sz_4 rfl rfl rfl rfl rfl (fun _ _ => rfl) rfl ?_
                   refine TO.nil (TX.next (TC.ret (TX.thenRet (TX.blockRet ?_))))
                   exact TX.roundRet last3 (show _ ∧ _ from ⟨rfl, h⟩) (Splits.of [0, 1, 2, 3, 4] kr rfl)
                  ·
                   have h := condF hb46 h
                   refine TC.skip ?_
                   exact TX.meetD () h rfl (Sbs.cons rfl (Sbs.cons rfl (Sbs.cons rfl (Sbs.cons rfl (Sbs.cons rfl (Sbs.cons rfl (Sbs.nil))))))) (Splits.of [0, 1, 2, 3, 4, 5] kr rfl)
              ·
               have h := condF hb38 h
               refine TO.skip rfl dc (TO.skip rfl dc (TO.skip rfl dc (TO.skip rfl dc (TO.skip rfl dc (TO.skip rfl dc (TO.pick (b := false) rfl dc rfl rfl (TO.move rfl dc rfl (TO.skip rfl dc (TO.skip rfl dc (TO.skip rfl dc (TO.skip rfl dc (TO.skip rfl dc (TO.skip rfl dc ?_)))))))))))))
               refine TO.pick (b := false) rfl dc rfl rfl (TO.pick (b := false) rfl dc rfl rfl (TO.move rfl dc rfl (TO.fieldAddr fl_36_0 rfl dc rfl (show _ = 0 from rfl) (TO.load (k := 5) sc_9 rfl dc rfl rfl rfl ?_))))
               obtain ⟨hg17, h⟩ := grdE h
               refine TO.callP (v := .bool (anyEnd x1.2.Text)) (vs := [.string x1.2.Text, .string (⟨#[13, 10]⟩ : ByteArray)]) rfl dc rfl rfl rfl en_17 (anyEnd_p x1.2.Text hg17) (TO.pick (b := false) rfl dc rfl rfl (TO.move rfl dc rfl ?_))
               refine TO.split (s := 147) rfl (fun hb47 => ?_) (fun hb47 => ?_)
               ·
                have h := condT hb47 h
                refine TO.skip rfl dc (TO.skip rfl dc (TO.skip rfl dc (TO.skip rfl dc (TO.skip rfl dc (TO.skip rfl dc (TO.skip rfl dc (TO.pick (b := true) rfl dc rfl rfl (TO.move rfl dc rfl (TO.skip rfl dc (TO.skip rfl dc (TO.skip rfl dc (TO.skip rfl dc (TO.skip rfl dc ?_)))))))))))))
                refine TO.skip rfl dc (TO.skip rfl dc (TO.pick (b := true) rfl dc rfl rfl (TO.nil (TX.next (TC.condT rfl (TC.seq (TC.region ?_)))))))
                refine TO.store (k := 1) (l' := [.bool false]) sz_4 rfl rfl rfl rfl rfl (fun _ _ => rfl) rfl ?_
                refine TO.nil (TX.next (TC.ret (TX.thenRet (TX.blockRet ?_))))
                exact TX.roundRet last3 (show _ ∧ _ from ⟨rfl, h⟩) (Splits.of [0, 1, 2, 3, 4] kr rfl)
               ·
                have h := condF hb47 h
                refine TO.load (k := 2) sc_29 rfl dc rfl rfl rfl (TO.fieldAddr fl_36_4 rfl dc rfl (show _ = 4 from rfl) (TO.fieldAddr fl_34_0 rfl dc rfl (show _ = 4 from rfl) (TO.load (k := 5) sc_3 rfl dc rfl rfl rfl ?_)))
                obtain ⟨q19, hq31, h⟩ := andE h
                refine TO.indexVecI (k := 3) hq31 Tryd.underlying29 sz_3 rfl dc rfl rfl rfl rfl (TO.loadVec (i := (x1.2.Span_From : Int).toNat) (j := 0) (k := 3) (q := q19) sc_3 encI_len rfl dc rfl rfl (getO_get hq31) rfl dc rfl (TO.bin rfl dc rfl rfl bin_eql (TO.pick (b := false) rfl dc rfl rfl (TO.move rfl dc rfl ?_))))
                refine TO.split (s := 156) rfl (fun hb48 => ?_) (fun hb48 => ?_)
                ·
                 have h := condT hb48 h
                 refine TO.skip rfl dc (TO.skip rfl dc (TO.skip rfl dc (TO.skip rfl dc (TO.skip rfl dc (TO.skip rfl dc (TO.skip rfl dc (TO.pick (b := true) rfl dc rfl rfl (TO.nil (TX.next (TC.condT rfl (TC.seq (TC.region ?_))))))))))))
                 refine TO.store (k := 1) (l' := [.bool false]) sz_4 rfl rfl rfl rfl rfl (fun _ _ => rfl) rfl ?_
                 refine TO.nil (TX.next (TC.ret (TX.thenRet (TX.blockRet ?_))))
                 exact TX.roundRet last3 (show _ ∧ _ from ⟨rfl, h⟩) (Splits.of [0, 1, 2, 3, 4] kr rfl)
                ·
                 have h := condF hb48 h
                 refine TO.load (k := 2) sc_29 rfl dc rfl rfl rfl (TO.fieldAddr fl_36_4 rfl dc rfl (show _ = 4 from rfl) (TO.fieldAddr fl_34_1 rfl dc rfl (show _ = 5 from rfl) (TO.load (k := 5) sc_3 rfl dc rfl rfl rfl ?_)))
                 obtain ⟨q20, hq32, h⟩ := andE h
                 refine TO.indexVecI (k := 3) hq32 Tryd.underlying29 sz_3 rfl dc rfl rfl rfl rfl (TO.loadVec (i := (x1.2.Span_To : Int).toNat) (j := 0) (k := 3) (q := q20) sc_3 encI_len rfl dc rfl rfl (getO_get hq32) rfl dc rfl (TO.bin rfl dc rfl rfl bin_eql (TO.pick (b := false) rfl dc rfl rfl (TO.nil (TX.next ?_)))))
                 refine TC.condB rfl (fun hb49 => ?_) (fun hb49 => ?_)
                 ·
                  have h := condT hb49 h
                  refine TC.seq (TC.region ?_)
                  refine TO.store (k := 1) (l' := [.bool false]) sz_4 rfl rfl rfl rfl rfl (fun _ _ => rfl) rfl ?_
                  refine TO.nil (TX.next (TC.ret (TX.thenRet (TX.blockRet ?_))))
                  exact TX.roundRet last3 (show _ ∧ _ from ⟨rfl, h⟩) (Splits.of [0, 1, 2, 3, 4] kr rfl)
                 ·
                  have h := condF hb49 h
                  refine TC.skip ?_
                  exact TX.meetD () h rfl (Sbs.cons rfl (Sbs.cons rfl (Sbs.cons rfl (Sbs.cons rfl (Sbs.cons rfl (Sbs.cons rfl (Sbs.nil))))))) (Splits.of [0, 1, 2, 3, 4, 5] kr rfl)
            ·
             rintro _ h
             rw [hj3] at h
             show TC _ _ _ _ _ ([]) _ _ [(1, .pointer (some ⟨b1, 0, none⟩)), (2, .pointer (some ⟨b2, 0, none⟩)), (5, .pointer (some ⟨b4, 0, none⟩)), (7, .pointer (some ⟨b7, 0, none⟩)), (9, .pointer (some ⟨jb1, 0, none⟩)), (43, .func (.func 52) #[] #[.pointer (some ⟨b9, 0, none⟩)])] [cells b1 [.string s1] 9, cells b2 [.bool false] 4, cells b4 [v2] 29, vec (encI (.i64)) 3 1 v2 (starts1.set ((s1.size : Int) : Int).toNat 1), cells b7 [.int .i64 last3] 3, cells jb1 [.string x1.2.Text, .int .i64 x1.2.Indent, .int .i64 x1.2.Stanza, .int .i64 x1.2.In, .int .i64 x1.2.Span_From, .int .i64 x1.2.Span_To] 36]
             refine TC.region (TO.fieldAddr fl_36_4 rfl dc rfl (show _ = 4 from rfl) (TO.fieldAddr fl_34_1 rfl dc rfl (show _ = 5 from rfl) (TO.load (k := 5) sc_3 rfl dc rfl rfl rfl ?_)))
             refine TO.store (k := 4) (l' := [.int .i64 x1.2.Span_To]) sz_3 rfl rfl rfl rfl rfl (fun _ _ => rfl) rfl ?_
             refine TO.nil (TX.blockNormal ?_)
             exact TX.round x1.2.Span_To (fun post2 e2 => by have e9 := snoc_post hxs2 e2; subst e9; subst hag2; exact h) (Splits.of [0, 1, 2, 3, 4] kr rfl)
     ·
      rintro dm1 last3 hinv
      have h : dn1 last3 = some r := hinv [] (List.append_nil _).symm
      rw [hdn1] at h
      show TX _ _ _ _ _ _ _ [emp, emp, emp, emp, emp, star ((([] : List Nat) : List Nat).map mark), emp, cells b8 [.string p2.told_title, hd1.v, hd2.v, .string p2.source] 93, vec enc_Gapi_Verse 36 6 hd1.v p2.told_lines, vec enc_Gapi_Span 34 2 hd2.v p2.told_stanzas, cells b9 [.pointer (some ⟨b8, 0, none⟩)] 23, cells b1 [.string s1] 9, cells b2 [.bool false] 4, cells b4 [v2] 29, vec (encI (.i64)) 3 1 v2 (starts1.set ((s1.size : Int) : Int).toNat 1), cells b7 [.int .i64 last3] 3, mark dm1]
      refine TX.starCons (k := 16) (j := 5) rfl rfl dc ?_
      show TX _ _ _ _ _ _ _ [emp, emp, emp, emp, emp, star ((dm1 :: ([] : List Nat) : List Nat).map mark), emp, cells b8 [.string p2.told_title, hd1.v, hd2.v, .string p2.source] 93, vec enc_Gapi_Verse 36 6 hd1.v p2.told_lines, vec enc_Gapi_Span 34 2 hd2.v p2.told_stanzas, cells b9 [.pointer (some ⟨b8, 0, none⟩)] 23, cells b1 [.string s1] 9, cells b2 [.bool false] 4, cells b4 [v2] 29, vec (encI (.i64)) 3 1 v2 (starts1.set ((s1.size : Int) : Int).toNat 1), cells b7 [.int .i64 last3] 3, emp]
      refine TX.blockNormal ?_
      exact TX.meetD (dm1 :: ([] : List Nat)) h rfl (Sbs.cons rfl (Sbs.nil)) (Splits.of [12, 5] kr rfl)
     ·
      rintro dm1 c pre x1 post g hxs hX
      obtain ⟨rfl, h⟩ := (show _ ∧ _ from hX)
      generalize g = last4 at *
      rw [hek1] at h
      show TC _ _ _ _ _ _ _ _ _ [emp, emp, emp, emp, emp, star ((([] : List Nat) : List Nat).map mark), emp, cells b8 [.string p2.told_title, hd1.v, hd2.v, .string p2.source] 93, vec enc_Gapi_Verse 36 6 hd1.v p2.told_lines, vec enc_Gapi_Span 34 2 hd2.v p2.told_stanzas, cells b9 [.pointer (some ⟨b8, 0, none⟩)] 23, cells b1 [.string s1] 9, cells b2 [.bool false] 4, cells b4 [v2] 29, vec (encI (.i64)) 3 1 v2 (starts1.set ((s1.size : Int) : Int).toNat 1), cells b7 [.int .i64 last4] 3, mark dm1]
      refine TC.starCons (k := 16) (j := 5) rfl rfl dc ?_
      show TC _ _ _ _ _ _ _ _ _ [emp, emp, emp, emp, emp, star ((dm1 :: ([] : List Nat) : List Nat).map mark), emp, cells b8 [.string p2.told_title, hd1.v, hd2.v, .string p2.source] 93, vec enc_Gapi_Verse 36 6 hd1.v p2.told_lines, vec enc_Gapi_Span 34 2 hd2.v p2.told_stanzas, cells b9 [.pointer (some ⟨b8, 0, none⟩)] 23, cells b1 [.string s1] 9, cells b2 [.bool false] 4, cells b4 [v2] 29, vec (encI (.i64)) 3 1 v2 (starts1.set ((s1.size : Int) : Int).toNat 1), cells b7 [.int .i64 last4] 3, emp]
      refine TC.ret (TX.blockRet (TX.thenRet ?_))
      cases h
      exact TX.finM (rs := [.cell 2 4]) (dm1 :: ([] : List Nat)) () (.inl rfl) (Splits.open0 (k := 5) rfl) Tryd.results3 (.cons (.cell sc_4 (k := 12) rfl rfl) .nil) rfl Splits.nil
    ·
     rintro ds1 h
     rw [hj2] at h
     show TC _ _ _ _ _ (marksOf ds1) _ _ [(2, .pointer (some ⟨b2, 0, none⟩))] [cells b2 [.bool false] 4, star ((ds1 : List Nat).map mark)]
     refine TC.seq (TC.region ?_)
     obtain ⟨r6, hq33, h⟩ := andE h
     refine TO.callP (v := .bool r6) (vs := []) rfl dc rfl rfl rfl en_12 (law17_works_fn hq33) ?_
     refine TO.store (k := 0) (l' := [.bool r6]) sz_4 rfl rfl rfl rfl rfl (fun _ _ => rfl) rfl ?_
     refine TO.nil (TX.next (TC.ret ?_))
     cases h
     exact TX.finM (rs := [.cell 2 4]) ds1 () (.inl rfl) (Splits.open0 (k := 1) rfl) Tryd.results3 (.cons (.cell sc_4 (k := 0) rfl rfl) .nil) rfl Splits.nil
end Go.Proofs.YtgfkogafkhbgnaaDoor
namespace Go.Proofs.YtgfkogafkhbgnaaDoor
open Go.RowKit Go.Lib
set_option linter.unusedVariables false
set_option linter.unusedSimpArgs false
/-! ### Where runes begin -/
theorem first_piece (k : Nat) (l : List UInt8) (h : l ≠ []) : ∃ p ∈ pcsFrom k l, p.i = k := by
  rw [pcsFrom_cons k l h]
  exact ⟨_, List.mem_cons_self .., rfl⟩
theorem ascii_starts : ∀ (n : Nat) (l : List UInt8) (k i : Nat) (b : UInt8), l.length ≤ n → l[i]? = some b → b.toNat < 128 →
    (∃ p ∈ pcsFrom k l, p.i = k + i) ∧ (i + 1 = l.length ∨ ∃ p ∈ pcsFrom k l, p.i = k + i + 1)
  | 0, l, k, i, b, hn, hi, hb => by
    have : l = [] := List.eq_nil_of_length_eq_zero (by omega)
    subst this; simp at hi
  | n + 1, l, k, i, b, hn, hi, hb => by
    obtain ⟨c, t, rfl⟩ : ∃ c t, l = c :: t := by
      cases l with
      | nil => simp at hi
      | cons c t => exact ⟨c, t, rfl⟩
    have hlt := (List.getElem?_eq_some_iff.1 hi).1
    have hw := dec_pos (c :: t)
    have hle := dec_le (c :: t) (by simp)
    rw [pcsFrom_cons k _ (by simp)]
    by_cases h0 : i = 0
    · subst h0
      have hcb : c = b := by simpa using hi
      subst hcb
      have hd : decodeL (c :: t) = (c.toNat, 1) := decodeL_ascii c t hb
      rw [hd]
      refine ⟨⟨_, List.mem_cons_self .., rfl⟩, ?_⟩
      by_cases ht : t = []
      · exact .inl (by rw [ht]; rfl)
      · obtain ⟨p, hp, hpi⟩ := first_piece (k + 1) t ht
        exact .inr ⟨p, List.mem_cons_of_mem _ hp, by omega⟩
    · have hiw : (decodeL (c :: t)).2 ≤ i := by
        rcases Nat.lt_or_ge i (decodeL (c :: t)).2 with h | h
        · exfalso
          by_cases hc : c.toNat < 128
          · rw [decodeL_ascii c t hc] at h
            have : i < 1 := h
            omega
          · have := (big_piece (b := c) (t := t) (by omega)).2 b (by
              have : ((c :: t).take (decodeL (c :: t)).2)[i]? = some b := by rw [List.getElem?_take, if_pos h, hi]
              exact List.mem_of_getElem? this)
            omega
        · exact h
      have hi2 : ((c :: t).drop (decodeL (c :: t)).2)[i - (decodeL (c :: t)).2]? = some b := by
        rw [List.getElem?_drop, show (decodeL (c :: t)).2 + (i - (decodeL (c :: t)).2) = i by omega, hi]
      obtain ⟨⟨p, hp, hpi⟩, h2⟩ := ascii_starts n _ (k + (decodeL (c :: t)).2) _ b (by rw [List.length_drop]; omega) hi2 hb
      refine ⟨⟨p, List.mem_cons_of_mem _ hp, by omega⟩, ?_⟩
      rcases h2 with h2 | ⟨q, hq, hqi⟩
      · left
        rw [List.length_drop] at h2
        omega
      · exact .inr ⟨q, List.mem_cons_of_mem _ hq, by omega⟩
def Strt (T : List UInt8) (i : Nat) : Prop := i = T.length ∨ ∃ p ∈ pcs T, p.i = i
theorem strt_zero (T : List UInt8) : Strt T 0 := by
  by_cases h : T = []
  · exact .inl (by rw [h]; rfl)
  · exact .inr (first_piece 0 T h)
theorem strt_at {T : List UInt8} {i : Nat} {b : UInt8} (h : T[i]? = some b) (hb : b.toNat < 128) : Strt T i := by
  obtain ⟨⟨p, hp, hpi⟩, _⟩ := ascii_starts T.length T 0 i b (Nat.le_refl _) h hb
  exact .inr ⟨p, hp, by omega⟩
theorem strt_next {T : List UInt8} {i : Nat} {b : UInt8} (h : T[i]? = some b) (hb : b.toNat < 128) : Strt T (i + 1) := by
  obtain ⟨_, h2 | ⟨p, hp, hpi⟩⟩ := ascii_starts T.length T 0 i b (Nat.le_refl _) h hb
  · exact .inl h2
  · exact .inr ⟨p, hp, by omega⟩
def markP : List Pc → List Int → List Int
  | [], a => a
  | p :: P, a => markP P (a.set p.i 1)
theorem markP_len : ∀ (P : List Pc) (a : List Int), (markP P a).length = a.length
  | [], a => rfl
  | p :: P, a => by rw [markP, markP_len P, List.length_set]
theorem markP_keep : ∀ (P : List Pc) (a : List Int) (i : Nat), a[i]? = some 1 → (markP P a)[i]? = some 1
  | [], a, i, h => h
  | p :: P, a, i, h => by
    rw [markP]
    refine markP_keep P _ i ?_
    have hl := (List.getElem?_eq_some_iff.1 h).1
    rw [List.getElem?_set]
    split
    · rename_i e; subst e; rw [if_pos hl]
    · exact h
theorem markP_at : ∀ (P : List Pc) (a : List Int) (p : Pc), p ∈ P → p.i < a.length → (markP P a)[p.i]? = some 1
  | q :: P, a, p, h, hl => by
    rw [markP]
    rcases List.mem_cons.1 h with rfl | h
    · exact markP_keep P _ _ (by rw [List.getElem?_set, if_pos rfl, if_pos hl])
    · exact markP_at P _ p h (by rw [List.length_set]; exact hl)
theorem starts_loop (T : List UInt8) (J : List Int → Option Bool) : ∀ (n m : Nat) (a : List Int), m ≤ (pcs T).length → (pcs T).length - m < n → a.length = T.length + 1 →
    loopG (fun _ _ => none) (law17_PoemBytes_s1 (mkB T) J) n a m = J (markP ((pcs T).drop m) a) := by
  intro n
  induction n with
  | zero => intro m a h1 h2; omega
  | succ n ih =>
    intro m a hm hn ha
    rw [loopG_succ]
    obtain ⟨ag, hag⟩ : ∃ ag, ag = loopG (fun _ _ => none) (law17_PoemBytes_s1 (mkB T) J) n := ⟨_, rfl⟩
    rw [← hag] at ih ⊢
    unfold law17_PoemBytes_s1
    rw [mkB_data]
    rcases Nat.lt_or_ge m (pcs T).length with h | h
    · have hd : (pcs T).drop m = (pcs T)[m] :: (pcs T).drop (m + 1) := List.drop_eq_getElem_cons h
      obtain ⟨h1, h2, _⟩ := pcs_pos T _ (List.getElem_mem h)
      have hlt : (pcs T)[m].i < a.length := by omega
      refine condTI (decide_eq_true h) (thenI (List.getElem?_eq_getElem h) (thenI (getO_nat (List.getElem?_eq_getElem hlt)) ?_))
      rw [Int.toNat_natCast, ih (m + 1) _ (by omega) (by omega) (by rw [List.length_set]; exact ha), hd]
      rfl
    · rw [List.drop_eq_nil_of_le h]
      exact condFI (decide_eq_false (by omega)) rfl
/-! ### Where lines stand -/
def Bd (T : List UInt8) (i : Nat) : Prop := ∃ b, T[i]? = some b ∧ isE b = true
def SpB (T : List UInt8) : Nat → List (Nat × Nat) → Prop
  | _, [] => True
  | lo, x :: xs => (lo ≤ x.1 ∧ (x.1 = 0 ∨ Bd T (x.1 - 1)) ∧ (x.2 = T.length ∨ Bd T x.2)) ∧ SpB T (x.2 + 1) xs
theorem SpB.mono {T : List UInt8} {lo lo' : Nat} (h : lo' ≤ lo) : ∀ {xs : List (Nat × Nat)}, SpB T lo xs → SpB T lo' xs
  | [], _ => trivial
  | x :: xs, hx => ⟨⟨Nat.le_trans h hx.1.1, hx.1.2⟩, hx.2⟩
theorem get_of_drop {T : List UInt8} {a : Nat} {b : UInt8} {t : List UInt8} (hd : T.drop a = b :: t) : T[a]? = some b := by
  have h0 : (T.drop a)[0]? = some b := by rw [hd]; rfl
  rw [List.getElem?_drop] at h0; exact h0
theorem spP_b (T : List UInt8) : ∀ (l : List UInt8) (p : Bool) (f a : Nat), T.drop a = l → f ≤ a → a ≤ T.length → (p = true → 1 ≤ a ∧ Bd T (a - 1)) → (f = 0 ∨ Bd T (f - 1)) → SpB T f (spP p f a l)
  | [], p, f, a, hd, hf, ha, hp, hb => by
    have h1 : T.length ≤ a := List.drop_eq_nil_iff.1 hd
    rw [spP]
    exact ⟨⟨Nat.le_refl _, hb, .inl (by show a = _; omega)⟩, trivial⟩
  | b :: t, p, f, a, hd, hf, ha, hp, hb => by
    have hT := get_of_drop hd
    have hlt := (List.getElem?_eq_some_iff.1 hT).1
    have hd1 := drop_next hd
    rw [spP]
    by_cases h13 : b = 13
    · rw [if_pos h13]
      have hbd : Bd T a := ⟨b, hT, by rw [h13]; rfl⟩
      split
      · exact spP_b T t true f (a + 1) hd1 (by omega) (by omega) (fun _ => ⟨by omega, hbd⟩) hb
      · exact ⟨⟨Nat.le_refl _, hb, .inr hbd⟩, spP_b T t true (a + 1) (a + 1) hd1 (Nat.le_refl _) (by omega) (fun _ => ⟨by omega, hbd⟩) (.inr hbd)⟩
    · rw [if_neg h13]
      by_cases h10 : b = 10
      · rw [if_pos h10]
        have hbd : Bd T a := ⟨b, hT, by rw [h10]; rfl⟩
        have hr := spP_b T t false (a + 1) (a + 1) hd1 (Nat.le_refl _) (by omega) (fun h => by cases h) (.inr hbd)
        cases p with
        | true =>
          obtain ⟨h1, h2⟩ := hp rfl
          exact ⟨⟨Nat.le_refl _, hb, .inr h2⟩, SpB.mono (by show a - 1 + 1 ≤ a + 1; omega) hr⟩
        | false => exact ⟨⟨Nat.le_refl _, hb, .inr hbd⟩, hr⟩
      · rw [if_neg h10]
        exact spP_b T t false f (a + 1) hd1 (by omega) (by omega) (fun h => by cases h) hb
theorem spans_b (T : List UInt8) : SpB T 0 (spansOf T) := spP_b T T false 0 0 List.drop_zero (Nat.le_refl _) (Nat.zero_le _) (fun h => by cases h) (.inl rfl)
/-- A verse of a text: where it stands. -/
structure VAt (T : List UInt8) (lo f e : Nat) (v : Gapi_Verse) : Prop where
  lo : lo ≤ f
  le : f ≤ e
  top : e ≤ T.length
  bf : f = 0 ∨ Bd T (f - 1)
  be : e = T.length ∨ Bd T e
  nb : blank ((T.drop f).take (e - f)) = false
  ne : noE ((T.drop f).take (e - f))
  sz : e - f ≤ 1024
  tx : v.Text = mkB (((T.drop f).take (e - f)).drop (ind ((T.drop f).take (e - f))))
  dn : v.Indent = (ind ((T.drop f).take (e - f)) : Int)
  fr : v.Span_From = (f : Int) + (ind ((T.drop f).take (e - f)) : Int)
  tt : v.Span_To = (e : Int)
def VSp (T : List UInt8) : Nat → List Gapi_Verse → Prop
  | _, [] => True
  | lo, v :: vs => ∃ f e, VAt T lo f e v ∧ VSp T (e + 1) vs
theorem VSp.mono {T : List UInt8} {lo lo' : Nat} (h : lo' ≤ lo) : ∀ {vs : List Gapi_Verse}, VSp T lo vs → VSp T lo' vs
  | [], _ => trivial
  | v :: vs, ⟨f, e, hv, hr⟩ => ⟨f, e, { hv with lo := Nat.le_trans h hv.lo }, hr⟩
theorem fold_vsp (T : List UInt8) : ∀ (xs : List (Nat × Nat)) (lo : Nat) (st st' : RS), SpB T lo xs → (∀ x ∈ xs, x.1 ≤ x.2 ∧ x.2 ≤ T.length ∧ ∀ b ∈ (T.drop x.1).take (x.2 - x.1), isE b = false) →
    rfold st (xs.map fun x => (x.1, (T.drop x.1).take (x.2 - x.1))) = .ok st' → ∃ ws, st'.vs = st.vs ++ ws ∧ VSp T lo ws
  | [], lo, st, st', hb, hx, hr => by
    cases hr
    exact ⟨[], (List.append_nil _).symm, trivial⟩
  | x :: xs, lo, st, st', hb, hx, hr => by
    obtain ⟨⟨b1, b2, b3⟩, b4⟩ := hb
    obtain ⟨x1, x2, x3⟩ := hx x (by simp)
    rw [List.map_cons] at hr
    unfold rfold at hr
    cases hs : rstep st (x.1, (T.drop x.1).take (x.2 - x.1)) with
    | error e => rw [hs] at hr; cases hr
    | ok s1 =>
      rw [hs] at hr
      obtain ⟨ws, h1, h2⟩ := fold_vsp T xs (x.2 + 1) s1 st' b4 (fun y hy => hx y (by simp [hy])) hr
      have h3 : VSp T lo ws := VSp.mono (by omega) h2
      unfold rstep at hs
      split at hs
      · cases hs; exact ⟨ws, h1, h3⟩
      rename_i hbl
      split at hs
      · cases hs
      rename_i hle
      split at hs
      · cases hs; exact ⟨ws, h1, h3⟩
      split at hs
      · cases hs
      · cases hs
        have hl : ((T.drop x.1).take (x.2 - x.1)).length = x.2 - x.1 := by rw [List.length_take, List.length_drop]; omega
        refine ⟨verseOf x.1 ((T.drop x.1).take (x.2 - x.1)) (open1 st) :: ws, ?_, x.1, x.2, ?_, h2⟩
        · rw [h1]
          show (st.vs ++ [_]) ++ ws = _
          rw [List.append_assoc]; rfl
        · refine ⟨b1, x1, x2, b2, b3, by simpa using hbl, x3, by rw [← hl]; exact Nat.le_of_not_lt hle, rfl, rfl, rfl, ?_⟩
          show ((x.1 + ((T.drop x.1).take (x.2 - x.1)).length : Nat) : Int) = _
          rw [hl]; omega
theorem rd_vsp {T : List UInt8} {st : RS} (h : rd T = .ok st) : VSp T 0 st.vs := by
  unfold rd at h
  split at h
  · cases h
  · obtain ⟨ws, h1, h2⟩ := fold_vsp T (spansOf T) 0 rs0 st (spans_b T) (spans_ok T) h
    rw [h1]; exact h2
theorem ind_lt : ∀ {x : List UInt8}, blank x = false → ind x < x.length
  | [], h => by cases h
  | b :: x, h => by
    rw [ind_cons, List.length_cons]
    by_cases hb : b = 32
    · rw [if_pos hb]
      have : blank x = false := by
        have h2 : (isB b && blank x) = false := h
        rw [hb] at h2
        simpa [isB] using h2
      have := ind_lt this
      omega
    · rw [if_neg hb]; omega
theorem getB_get {T : List UInt8} {i : Nat} {b : UInt8} (h : T[i]? = some b) : getB (mkB T) (i : Int) = some (b.toNat : Int) := by
  obtain ⟨hl, he⟩ := List.getElem?_eq_some_iff.1 h
  have hd : T.drop i = b :: T.drop (i + 1) := by rw [List.drop_eq_getElem_cons hl, he]
  exact (getB_at (s := mkB T) hd).1
theorem isE_cases {b : UInt8} (h : isE b = true) : b = 10 ∨ b = 13 := by
  unfold isE at h
  rw [Bool.or_eq_true] at h
  rcases h with h | h
  · exact .inr (beq_iff_eq.1 h)
  · exact .inl (beq_iff_eq.1 h)
theorem isE_small {b : UInt8} (h : isE b = true) : b.toNat < 128 := by
  rcases isE_cases h with rfl | rfl <;> decide
theorem bytes_step {T : List UInt8} (hT : T.length ≤ 65536) {a : List Int} (hW : ∀ i, Strt T i → getO (a.set (((mkB T).size : Int) : Int).toNat 1) (i : Int) = some 1) {K ag : Int → Option Bool} {x : Int × Gapi_Verse} {last : Int} {lo f e : Nat}
    (hv : VAt T lo f e x.2) (hl : last < (f : Int)) : law17_PoemBytes_s2 (mkB T) a K x ag last = ag (e : Int) := by
  have hle := hv.le
  have htop := hv.top
  have hdn := hv.dn
  have hfr := hv.fr
  have htx := hv.tx
  have hnb := ind_lt hv.nb
  have hsp := ind_split ((T.drop f).take (e - f))
  have hne := hv.ne
  have hsz := hv.sz
  have hXl : ((T.drop f).take (e - f)).length = e - f := by rw [List.length_take, List.length_drop]; omega
  have hcut : (T.drop (f + ind ((T.drop f).take (e - f)))).take (e - (f + ind ((T.drop f).take (e - f)))) = ((T.drop f).take (e - f)).drop (ind ((T.drop f).take (e - f))) := by
    rw [List.drop_take, List.drop_drop, Nat.sub_sub]
  have hpre : (T.drop f).take (f + ind ((T.drop f).take (e - f)) - f) = ((T.drop f).take (e - f)).take (ind ((T.drop f).take (e - f))) := by
    rw [List.take_take, Nat.min_eq_left (by omega), show f + ind ((T.drop f).take (e - f)) - f = ind ((T.drop f).take (e - f)) by omega]
  have hfirst : ∀ i, i < e - f → ((T.drop f).take (e - f))[i]? = T[f + i]? := fun i hi => by rw [List.getElem?_take, if_pos hi, List.getElem?_drop]
  generalize hX : (T.drop f).take (e - f) = X at *
  generalize hd : ind X = d at *
  have e1 : x.2.Span_From - x.2.Indent = (f : Int) := by omega
  have e2 : x.2.Span_From = ((f + d : Nat) : Int) := by omega
  have e3 : x.2.Span_To = (e : Int) := hv.tt
  -- where runes begin
  have sF : Strt T (f + d) := by
    by_cases h0 : d = 0
    · rw [h0, Nat.add_zero]
      rcases hv.bf with h | ⟨b, hb, hE⟩
      · rw [h]; exact strt_zero T
      · by_cases hf : f = 0
        · rw [hf]; exact strt_zero T
        · have := strt_next hb (isE_small hE)
          rw [show f - 1 + 1 = f by omega] at this
          exact this
    · have h32 : X[d - 1]? = some 32 := by
        rw [← hsp, List.getElem?_append_left (by rw [List.length_replicate]; omega), List.getElem?_replicate, if_pos (by omega)]
      rw [hfirst (d - 1) (by omega)] at h32
      have := strt_next h32 (by decide)
      rw [show f + (d - 1) + 1 = f + d by omega] at this
      exact this
  have sT : Strt T e := by
    rcases hv.be with h | ⟨b, hb, hE⟩
    · exact .inl h
    · exact strt_at hb (isE_small hE)
  have hany : anyEnd (mkB (X.drop d)) = false := by
    unfold anyEnd
    rw [mkB_data, List.any_eq_false]
    intro b hb
    rw [hne b (List.mem_of_mem_drop hb)]; decide
  have hpf : strings_HasPrefix_v (mkB (X.drop d)) (⟨#[32]⟩ : ByteArray) = some false := by
    unfold strings_HasPrefix_v
    refine thenI (pre_v (X.drop d) [32]) ?_
    have : X.drop d = X[d]'hnb :: X.drop (d + 1) := List.drop_eq_getElem_cons hnb
    have hb : X[d]'hnb ≠ 32 := by
      have key : ∀ (X : List UInt8) (h : ind X < X.length), X[ind X]'h ≠ 32 := by
        intro X
        induction X with
        | nil => intro h; exact absurd h (by decide)
        | cons b X ih =>
          intro h
          by_cases hb : b = 32
          · have e : ind (b :: X) = ind X + 1 := by rw [ind_cons, if_pos hb]
            simp only [e, List.getElem_cons_succ]
            exact ih _
          · have e : ind (b :: X) = 0 := by rw [ind_cons, if_neg hb]
            simp only [e, List.getElem_cons_zero]
            exact hb
      have := key X (by rw [hd]; exact hnb)
      simpa only [hd] using this
    have h1 : decide ((X.drop d).take 1 = [32]) = false := decide_eq_false (by rw [this, List.take_succ_cons, List.take_zero]; intro e; exact hb (List.cons.inj e).1)
    show some (decide (([32] : List UInt8).length ≤ (X.drop d).length) && decide ((X.drop d).take 1 = [32])) = some false
    rw [h1, Bool.and_false]
  have hspb : spacesB (d : Int) = mkB (X.take d) := by
    unfold spacesB
    rw [Int.toNat_natCast, repeatL_rep]
    have : X.take d = List.replicate d 32 := by
      have h := congrArg (List.take d) hsp
      rw [List.take_left' (List.length_replicate ..)] at h
      exact h.symm
    rw [this]; rfl
  unfold law17_PoemBytes_s2
  rw [e1, e2, e3, htx, hdn]
  refine grdI ⟨by omega, by omega⟩ (condFI (decide_eq_false (by omega)) (condFI (decide_eq_false (by rw [mkB_size]; omega)) (condFI (decide_eq_false (by omega)) (grdI ⟨by omega, by omega, by rw [mkB_size]; omega⟩ ?_))))
  rw [cutB_mk, hcut]
  refine condFI (by simp) (grdI ⟨by omega, by omega, by rw [mkB_size]; omega⟩ (grdI ⟨by omega, by omega⟩ ?_))
  rw [cutB_mk, hpre, hspb]
  refine condFI (by simp) (thenI hpf (condFI rfl (joinI ?_)))
  obtain ⟨TL, hTL⟩ : ∃ TL, TL = (grd ((mkB (X.drop d)).size ≤ 4294967280) <| bcond (anyEnd (mkB (X.drop d))) (K last) (andThen (getO (a.set (((mkB T).size : Int) : Int).toNat 1) ((f + d : Nat) : Int)) fun (q3 : Int) => bcond ((q3 : Int) == 0) (K last) (andThen (getO (a.set (((mkB T).size : Int) : Int).toNat 1) (e : Int)) fun (q4 : Int) => bcond ((q4 : Int) == 0) (K last) (ag (e : Int))))) := ⟨_, rfl⟩
  have tl : TL = ag (e : Int) := by
    rw [hTL]
    exact grdI (by rw [mkB_size, List.length_drop]; omega) (condFI hany (thenI (hW _ sF) (condFI rfl (thenI (hW _ sT) (condFI rfl rfl)))))
  have t2 : (bcond (decide ((e : Int) < ((mkB T).size : Int))) (andThen (getB (mkB T) (e : Int)) fun (c2 : Int) => bcond ((c2 : Int) != 10) (bcond ((c2 : Int) != 13) (K last) TL) TL) TL) = ag (e : Int) := by
    by_cases h : e < T.length
    · refine condTI (decide_eq_true (by rw [mkB_size]; omega)) ?_
      rcases hv.be with h2 | ⟨b, hb, hE⟩
      · omega
      · refine thenI (getB_get hb) ?_
        rcases isE_cases hE with rfl | rfl
        · exact condFI rfl tl
        · exact condTI rfl (condFI rfl tl)
    · exact condFI (decide_eq_false (by rw [mkB_size]; omega)) tl
  rw [hTL] at t2
  by_cases h0 : f = 0
  · exact condFI (decide_eq_false (by omega)) t2
  · refine condTI (decide_eq_true (by omega)) (grdI ⟨by omega, by omega⟩ ?_)
    rcases hv.bf with h | ⟨b, hb, hE⟩
    · exact absurd h h0
    · have hg := getB_get hb
      rw [show (((f - 1 : Nat) : Nat) : Int) = (f : Int) - 1 by omega] at hg
      refine thenI hg ?_
      rcases isE_cases hE with rfl | rfl
      · exact condFI rfl t2
      · exact condTI rfl (grdI ⟨by omega, by omega⟩ (condFI rfl t2))
theorem bytes_go {T : List UInt8} (hT : T.length ≤ 65536) {a : List Int} (hW : ∀ i, Strt T i → getO (a.set (((mkB T).size : Int) : Int).toNat 1) (i : Int) = some 1) (dn K : Int → Option Bool) (R : Option Bool) (hdn : ∀ l, dn l = R) : ∀ (vs : List Gapi_Verse) (i lo : Nat), VSp T lo vs →
    rangeG dn (law17_PoemBytes_s2 (mkB T) a K) (enumV i vs) ((lo : Int) - 1) = R
  | [], i, lo, h => hdn _
  | v :: vs, i, lo, ⟨f, e, hv, hr⟩ => by
    show rangeG dn _ (((i : Int), v) :: enumV (i + 1) vs) _ = _
    have hlo := hv.lo
    rw [rangeG_cons, bytes_step hT hW (x := ((i : Int), v)) hv (by omega)]
    have := bytes_go hT hW dn K R hdn vs (i + 1) (e + 1) hr
    rw [show ((e + 1 : Nat) : Int) - 1 = (e : Int) by omega] at this
    exact this
theorem poemBytes_v (T : List UInt8) : law17_PoemBytes_v (mkB T) = some true := by
  unfold law17_PoemBytes_v
  refine thenI works_v (condFI rfl ?_)
  have hr := read_v T
  cases hrd : rd T with
  | error e =>
    rw [hrd] at hr
    exact thenI hr (condTI (rd_err hrd) (condTI rfl (thenI works_v rfl)))
  | ok st =>
    rw [hrd] at hr
    obtain ⟨hI, hT⟩ := rd_ok hrd
    have hok := hI.ok (mkB T)
    have hvs := rd_vsp hrd
    have hl := hok.len
    have hm := hok.most
    refine thenI hr (condFI rfl (joinI (grdI (by rw [mkB_size]; exact ⟨by omega, by omega⟩) (grdI (by rw [mkB_size]; exact ⟨by omega, by omega⟩) ?_))))
    have hlen : (List.replicate (((mkB T).size : Int) + 1 : Int).toNat 0 : List Int).length = T.length + 1 := by rw [List.length_replicate, mkB_size]; omega
    have hpl : (pcs T).length < fuel := by
      have : (pcs T).length ≤ T.length := pcsFrom_len T.length T 0 (Nat.le_refl _)
      unfold fuel; omega
    refine (starts_loop T _ fuel 0 _ (Nat.zero_le _) (by omega) hlen).trans ?_
    rw [List.drop_zero]
    have hml := markP_len (pcs T) (List.replicate (((mkB T).size : Int) + 1 : Int).toNat 0 : List Int)
    rw [hlen] at hml
    have hW : ∀ i, Strt T i → getO ((markP (pcs T) (List.replicate (((mkB T).size : Int) + 1 : Int).toNat 0 : List Int)).set (((mkB T).size : Int) : Int).toNat 1) (i : Int) = some 1 := fun i hi => by
      have hml2 := hml
      rw [mkB_size] at hml2
      rw [mkB_size, Int.toNat_natCast]
      refine getO_nat ?_
      rw [List.getElem?_set]
      by_cases he : T.length = i
      · rw [if_pos he, if_pos (by omega)]
      · rw [if_neg he]
        rcases hi with hi | ⟨p, hp, rfl⟩
        · exact absurd hi.symm he
        · refine markP_at _ _ p hp ?_
          obtain ⟨h1, h2, _⟩ := pcs_pos T p hp
          rw [List.length_replicate]; omega
    have hq : ∃ q, getO (markP (pcs T) (List.replicate (((mkB T).size : Int) + 1 : Int).toNat 0 : List Int)) ((mkB T).size : Int) = some q := by
      refine ⟨_, getO_nat (List.getElem?_eq_getElem (by rw [hml, mkB_size]; omega))⟩
    obtain ⟨q, hq⟩ := hq
    refine joinI (thenI hq (thenI rfl (thenI rfl (thenI (each_v _ (by rw [hl]; omega)) (joinI (joinI ?_))))))
    exact bytes_go hT hW _ _ (some true) (fun _ => thenI works_v rfl) st.vs 0 0 hvs
theorem poemBytes_any (s : ByteArray) (w : World) (h : s.size ≤ 140737488351232) : Calls Tryd.prog 3 #[.string s] w fun e w' => e = .returned (.bool true) ∧ Below w.heap.size w w' :=
  law17_PoemBytes_fn (poemBytes_v s.data.toList) w
end Go.Proofs.YtgfkogafkhbgnaaDoor
