/-
  Texts laid together: LfWordScans, PlWordScans. Nothing is assumed.
-/
import Derived.Test.YtgeefojgkbglnaaWb5
namespace Go.Proofs.Ytgeefojgkbglnaa
open Go.RowKit Go.Lib
set_option linter.unusedVariables false
set_option linter.unusedSimpArgs false
def law07_WordScans_s3 (r3 : (List Gapi_Span)) (e2 : Int → Option Bool) (e3 : Int → Option Bool) (x4 : Nat × Nat) (ag3 : Int → Option Bool) (i3 : Int) : Option Bool := bcond (decide (((r3.length : Int) : Int) ≤ i3)) ( e2 i3
) ( andThen (getO r3 i3) fun (q2 : Gapi_Span) => bcond (!(eq_Gapi_Span (⟨(x4.1 : Int), (x4.2 : Int)⟩ : Gapi_Span) q2)) ( e2 i3
) ( grd (I64 (i3 + 1)) <| bcond (((i3 + 1) : Int) == 2) ( e3 (i3 + 1)
) ( ag3 (i3 + 1)
)
)
)
def law07_WordScans_s2 (s1 : ByteArray) (r2 : (List Gapi_Token)) (r3 : (List Gapi_Span)) (e1 : Int → Option Bool) (x3 : Tk) (ag2 : Int → Option Bool) (n5 : Int) : Option Bool := bcond (decide (((r2.length : Int) : Int) ≤ n5)) ( e1 n5
) ( andThen (getO r2 n5) fun (q1 : Gapi_Token) => bcond (!(eq_Gapi_Token (⟨x3.k, (x3.f : Int), (x3.t : Int)⟩ : Gapi_Token) q1)) ( e1 n5
) ( grd (I64 (n5 + 1)) <| bcond (((n5 + 1) : Int) == 2) ( grd (s1.size ≤ 4611686018427387904) <| joinK (fun (e2 : Int → Option Bool) => joinK (fun (e3 : Int → Option Bool) => joinK (fun (d2 : Int → Option Bool) => rangeG d2 (law07_WordScans_s3 r3 e2 e3) (wsOf s1) 0
) (fun (i3 : Int) => ag2 (n5 + 1)
)
) (fun (i5 : Int) => ag2 (n5 + 1)
)
) (fun (i4 : Int) => e1 (n5 + 1)
)
) ( ag2 (n5 + 1)
)
)
)
def law07_WordScans_s4 (r3 : (List Gapi_Span)) (e4 : Int → Option Bool) (x5 : Nat × Nat) (ag4 : Int → Option Bool) (k4 : Int) : Option Bool := bcond (decide (((r3.length : Int) : Int) ≤ k4)) ( e4 k4
) ( andThen (getO r3 k4) fun (q3 : Gapi_Span) => bcond (!(eq_Gapi_Span (⟨(x5.1 : Int), (x5.2 : Int)⟩ : Gapi_Span) q3)) ( e4 k4
) ( grd (I64 (k4 + 1)) <| ag4 (k4 + 1)
)
)
def law07_WordScans_s5 (e5 : Option Bool) (x6 : Tk) (ag5 : Option Bool) : Option Bool := e5
def law07_WordScans_s1 (s1 : ByteArray) (r2 : (List Gapi_Token)) (r3 : (List Gapi_Span)) (j1 : Option Bool) (ag1 : Int → Option Bool) (round3 : Int) : Option Bool := bcond (decide ((round3 : Int) < 2)) ( joinK (fun (j2 : Int → Bool → Option Bool) => joinK (fun (j3 : Int → Option Bool) => grd (s1.size ≤ 4611686018427387904) <| joinK (fun (e1 : Int → Option Bool) => joinK (fun (d1 : Int → Option Bool) => rangeG d1 (law07_WordScans_s2 s1 r2 r3 e1) (tksOf s1) 0
) (fun (n5 : Int) => j3 n5
)
) (fun (n6 : Int) => some false
)
) (fun (n2 : Int) => joinK (fun (j4 : Int → Option Bool) => grd (s1.size ≤ 4611686018427387904) <| joinK (fun (e4 : Int → Option Bool) => joinK (fun (d3 : Int → Option Bool) => rangeG d3 (law07_WordScans_s4 r3 e4) (wsOf s1) 0
) (fun (k4 : Int) => j4 k4
)
) (fun (k5 : Int) => some false
)
) (fun (k1 : Int) => bcond ((n2 : Int) != (r2.length : Int)) ( some false
) ( bcond ((k1 : Int) != (r3.length : Int)) ( some false
) ( grd (s1.size ≤ 4611686018427387904) <| joinK (fun (e5 : Option Bool) => joinK (fun (d4 : Option Bool) => rangeG d4 (law07_WordScans_s5 e5) (tksOf s1)
) ( j2 k1 ((k1 : Int) != (r3.length : Int))
)
) ( j2 k1 ((k1 : Int) != (r3.length : Int))
)
)
)
)
)
) (fun (x1 : Int) (x2 : Bool) => grd (I64 (round3 + 1)) <| ag1 (round3 + 1)
)
) ( j1
)
def law07_WordScans_v (s1 : ByteArray) : Option Bool := andThen (law07_wakes_v) fun (r1 : Bool) => bcond (!r1) ( some false
) ( andThen (ref07_Tokens_v s1) fun (r2 : (List Gapi_Token)) => andThen (ref07_Words_v s1) fun (r3 : (List Gapi_Span)) => joinK (fun (j1 : Option Bool) => loopG (fun _ => none) (law07_WordScans_s1 s1 r2 r3 j1) fuel 0
) ( grd (s1.size ≤ 140737488351232) <| bcond ((((tksOf s1).length : Int) : Int) == (r2.length : Int)) ( bcond ((((wsOf s1).length : Int) : Int) == (r3.length : Int)) ( andThen (law07_wakes_v) fun (r4 : Bool) => some r4
) ( some false
)
) ( some false
)
)
)
set_option maxRecDepth 100000 in
set_option maxHeartbeats 4000000 in
theorem law07_WordScans_fn {s1 : ByteArray} {r : Bool} (h : law07_WordScans_v s1 = some r) : FnP Try.prog 3 [.string s1] (.bool r) := by
 unfold law07_WordScans_v at h
 refine FnP.intro Try.func3 rfl Try.ntmps3 (by simp) ?_
 intro w0 K
 refine TC.star0 ?_
 show TC _ _ _ _ _ _ _ _ _ [star ((([] : List Nat) : List Nat).map mark)]
 refine TC.seq (TC.region ?_)
 refine TO.alloc zr_4 rfl (by decide) (fun b1 => ?_)
 refine TO.nil (TX.next (TC.seq (TC.seq (TC.region ?_))))
 obtain ⟨r1, hq1, h⟩ := andE h
 refine TO.callP (v := .bool r1) (vs := []) rfl (by decide) rfl rfl rfl en_12 (law07_wakes_fn hq1) (TO.un rfl (by decide) rfl un_not (TO.nil (TX.next ?_)))
 refine TC.condB rfl (fun hb1 => ?_) (fun hb1 => ?_)
 ·
  have h := condT hb1 h
  refine TC.seq (TC.region ?_)
  refine TO.store (k := 1) (l' := [.bool false]) sz_4 rfl rfl rfl rfl rfl (fun _ _ => rfl) rfl ?_
  show TO _ _ _ _ _ _ _ _ _ _ [star ((([] : List Nat) : List Nat).map mark), cells b1 [.bool false] 4]
  refine TO.nil (TX.next (TC.ret (TX.thenRet ?_)))
  cases h
  exact TX.finM (rs := [.cell 2 4]) ([] : List Nat) () (.inl rfl) (Splits.open0 (k := 0) rfl) Try.results3 (.cons (.cell sc_4 (k := 1) rfl rfl) .nil) rfl Splits.nil
 ·
  have h := condF hb1 h
  refine TC.skip (TX.next (TC.seq (TC.region (TO.move rfl (by decide) rfl ?_))))
  obtain ⟨r2, hq2, h⟩ := andE h
  refine TO.call (vs := [.string s1]) rfl (by decide) rfl rfl rfl en_13 (ref07_Tokens_fn hq2) Splits.nil ?_
  rintro v1
  show TO _ _ _ _ _ _ _ _ _ _ [star ((([] : List Nat) : List Nat).map mark), cells b1 [.bool false] 4, vec enc_Gapi_Token 36 3 v1 r2]
  refine TO.move rfl (by decide) rfl ?_
  obtain ⟨r3, hq3, h⟩ := andE h
  refine TO.call (vs := [.string s1]) rfl (by decide) rfl rfl rfl en_14 (ref07_Words_fn hq3) Splits.nil ?_
  rintro v2
  show TO _ _ _ _ _ _ _ _ _ _ [star ((([] : List Nat) : List Nat).map mark), cells b1 [.bool false] 4, vec enc_Gapi_Token 36 3 v1 r2, vec enc_Gapi_Span 34 2 v2 r3]
  refine TO.alloc zr_23 rfl (by decide) (fun b2 => ?_)
  refine TO.alloc zr_25 rfl (by decide) (fun b3 => ?_)
  show TO _ _ _ _ _ _ _ _ _ _ [star ((([] : List Nat) : List Nat).map mark), cells b1 [.bool false] 4, vec enc_Gapi_Token 36 3 v1 r2, vec enc_Gapi_Span 34 2 v2 r3, cells b2 [.slice none 0 0] 23, cells b3 [.slice none 0 0] 25]
  refine TO.store (k := 4) (l' := [v1]) sz_23 rfl rfl rfl rfl rfl (fun _ h => one_vec h (k := 2) rfl) rfl ?_
  refine TO.store (k := 5) (l' := [v2]) sz_25 rfl rfl rfl rfl rfl (fun _ h => one_vec h (k := 3) rfl) rfl ?_
  show TO _ _ _ _ _ _ _ _ _ _ [star ((([] : List Nat) : List Nat).map mark), cells b1 [.bool false] 4, vec enc_Gapi_Token 36 3 v1 r2, vec enc_Gapi_Span 34 2 v2 r3, cells b2 [v1] 23, cells b3 [v2] 25]
  refine TO.nil (TX.next (TC.seq (TC.region (TO.move rfl (by decide) rfl (TO.call (vs := [.string s1]) rfl (by decide) rfl rfl rfl en_15 (scan_fn s1) Splits.nil ?_)))))
  rintro b4
  show TO _ _ _ _ _ _ _ _ _ _ [star ((([] : List Nat) : List Nat).map mark), cells b1 [.bool false] 4, vec enc_Gapi_Token 36 3 v1 r2, vec enc_Gapi_Span 34 2 v2 r3, cells b2 [v1] 23, cells b3 [v2] 25, cells b4 [.string s1] 9]
  refine TO.move rfl (by decide) rfl (TO.call (vs := [.string s1]) rfl (by decide) rfl rfl rfl en_16 (words_fn s1) Splits.nil ?_)
  rintro b5
  show TO _ _ _ _ _ _ _ _ _ _ [star ((([] : List Nat) : List Nat).map mark), cells b1 [.bool false] 4, vec enc_Gapi_Token 36 3 v1 r2, vec enc_Gapi_Span 34 2 v2 r3, cells b2 [v1] 23, cells b3 [v2] 25, cells b4 [.string s1] 9, cells b5 [.string s1] 9]
  refine TO.alloc zr_31 rfl (by decide) (fun b6 => ?_)
  refine TO.assign rfl (by decide) rfl ?_
  refine TO.store (k := 8) (l' := [.func (.func 51) #[] #[.pointer (some ⟨b5, 0, none⟩)]]) sz_31 rfl rfl rfl rfl rfl (fun _ _ => rfl) rfl ?_
  show TO _ _ _ _ _ _ _ _ _ _ [star ((([] : List Nat) : List Nat).map mark), cells b1 [.bool false] 4, vec enc_Gapi_Token 36 3 v1 r2, vec enc_Gapi_Span 34 2 v2 r3, cells b2 [v1] 23, cells b3 [v2] 25, cells b4 [.string s1] 9, cells b5 [.string s1] 9, cells b6 [.func (.func 51) #[] #[.pointer (some ⟨b5, 0, none⟩)]] 31]
  refine TO.nil (TX.next (TC.seq (TC.seq (TC.region (TO.move rfl (by decide) rfl (TO.bin rfl (by decide) rfl rfl (bin_funcnil Try.underlying28 rfl) (TO.move rfl (by decide) rfl (TO.load (k := 8) sc_31 rfl (by decide) rfl rfl rfl (TO.bin rfl (by decide) rfl rfl (bin_funcnil Try.underlying31 rfl) (TO.pick (b := false) rfl (by decide) rfl rfl (TO.nil (TX.next (TC.condF rfl ?_)))))))))))))
  refine TC.skip (TX.next ?_)
  obtain ⟨j1, hj1, h⟩ := joinE h
  refine TC.cutN (β := (List Nat)) 0 rfl (fun b => j1 = some r) (fun b => marksOf b) (fun b => [(0, .string s1), (2, .pointer (some ⟨b1, 0, none⟩)), (3, .pointer (some ⟨b2, 0, none⟩)), (4, .pointer (some ⟨b3, 0, none⟩))]) (fun b => [cells b1 [.bool false] 4, cells b2 [v1] 23, vec enc_Gapi_Token 36 3 v1 r2, cells b3 [v2] 25, vec enc_Gapi_Span 34 2 v2 r3, star ((b : List Nat).map mark)]) (fun cut => ?_) ?_
  ·
   refine cut (TC.seq (TC.region (TO.assign rfl (by decide) rfl (TO.nil (TX.next (TC.block ?_))))))
   refine TC.loopD (β := Nat × Int × (List Nat)) (fun b => loopG (fun _ => none) (law07_WordScans_s1 s1 r2 r3 j1) b.1 b.2.1 = some r) (fun b => marksOf b.2.2) (fun b => [(0, .string s1), (2, .pointer (some ⟨b1, 0, none⟩)), (3, .pointer (some ⟨b2, 0, none⟩)), (4, .pointer (some ⟨b3, 0, none⟩)), (5, .func (.func 46) #[] #[.pointer (some ⟨b4, 0, none⟩)]), (6, .pointer (some ⟨b6, 0, none⟩)), (7, .int .i64 b.2.1)]) (fun b => [cells b1 [.bool false] 4, cells b2 [v1] 23, vec enc_Gapi_Token 36 3 v1 r2, cells b3 [v2] 25, vec enc_Gapi_Span 34 2 v2 r3, cells b4 [.string s1] 9, cells b6 [.func (.func 51) #[] #[.pointer (some ⟨b5, 0, none⟩)]] 31, cells b5 [.string s1] 9, star ((b.2.2 : List Nat).map mark)]) (fun b => b.1) (fuel, 0, ([] : List Nat)) h rfl (Sbs.cons rfl (Sbs.cons rfl (Sbs.cons rfl (Sbs.cons rfl (Sbs.cons rfl (Sbs.cons rfl (Sbs.cons rfl (Sbs.nil)))))))) (Splits.of [1, 4, 2, 5, 3, 6, 8, 7, 0] (by as_aux_lemma => kernel_rfl) rfl) ?_
   rintro ⟨n1, round3, ds4⟩ h
   cases n1 with
   | zero => exact noneE h
   | succ n1 =>
    obtain ⟨ag1, hag1⟩ : ∃ ag, ag = loopG (fun _ => none) (law07_WordScans_s1 s1 r2 r3 j1) n1 := ⟨_, rfl⟩
    have h : law07_WordScans_s1 s1 r2 r3 j1 ag1 round3 = some r := by rw [hag1]; exact h
    unfold law07_WordScans_s1 at h
    show TC _ _ _ _ _ (marksOf ds4) _ _ [(0, .string s1), (2, .pointer (some ⟨b1, 0, none⟩)), (3, .pointer (some ⟨b2, 0, none⟩)), (4, .pointer (some ⟨b3, 0, none⟩)), (5, .func (.func 46) #[] #[.pointer (some ⟨b4, 0, none⟩)]), (6, .pointer (some ⟨b6, 0, none⟩)), (7, .int .i64 round3)] [cells b1 [.bool false] 4, cells b2 [v1] 23, vec enc_Gapi_Token 36 3 v1 r2, cells b3 [v2] 25, vec enc_Gapi_Span 34 2 v2 r3, cells b4 [.string s1] 9, cells b6 [.func (.func 51) #[] #[.pointer (some ⟨b5, 0, none⟩)]] 31, cells b5 [.string s1] 9, star ((ds4 : List Nat).map mark)]
    refine TC.seq (TC.seq (TC.region (TO.move rfl (by decide) rfl (TO.bin rfl (by decide) rfl rfl bin_lss (TO.nil (TX.next ?_))))))
    refine TC.condB rfl (fun hb2 => ?_) (fun hb2 => ?_)
    ·
     have h := condT hb2 h
     refine TC.skip (TX.next ?_)
     obtain ⟨j2, hj2, h⟩ := joinE h
     refine TC.cutN (β := Int × Bool × (List Nat)) 0 rfl (fun b => j2 b.1 b.2.1 = some r) (fun b => marksOf b.2.2) (fun b => [(0, .string s1), (2, .pointer (some ⟨b1, 0, none⟩)), (3, .pointer (some ⟨b2, 0, none⟩)), (4, .pointer (some ⟨b3, 0, none⟩)), (5, .func (.func 46) #[] #[.pointer (some ⟨b4, 0, none⟩)]), (6, .pointer (some ⟨b6, 0, none⟩)), (7, .int .i64 round3), (93, .int .i64 b.1), (94, v2), (95, .int .i64 (r3.length : Int)), (96, .bool b.2.1)]) (fun b => [cells b1 [.bool false] 4, cells b2 [v1] 23, vec enc_Gapi_Token 36 3 v1 r2, cells b3 [v2] 25, vec enc_Gapi_Span 34 2 v2 r3, cells b4 [.string s1] 9, cells b6 [.func (.func 51) #[] #[.pointer (some ⟨b5, 0, none⟩)]] 31, cells b5 [.string s1] 9, star ((b.2.2 : List Nat).map mark)]) (fun cut => ?_) ?_
     ·
      refine cut (TC.block ?_)
      obtain ⟨j3, hj3, h⟩ := joinE h
      refine TC.cutN (β := Int × Nat × Nat × (List Nat)) 1 rfl (fun b => j3 b.1 = some r) (fun b => marksOf b.2.2.2) (fun b => [(0, .string s1), (2, .pointer (some ⟨b1, 0, none⟩)), (3, .pointer (some ⟨b2, 0, none⟩)), (4, .pointer (some ⟨b3, 0, none⟩)), (5, .func (.func 46) #[] #[.pointer (some ⟨b4, 0, none⟩)]), (6, .pointer (some ⟨b6, 0, none⟩)), (7, .int .i64 round3), (8, .pointer (some ⟨b.2.1, 0, none⟩)), (9, .pointer (some ⟨b.2.2.1, 0, none⟩))]) (fun b => [cells b1 [.bool false] 4, cells b2 [v1] 23, vec enc_Gapi_Token 36 3 v1 r2, cells b3 [v2] 25, vec enc_Gapi_Span 34 2 v2 r3, cells b4 [.string s1] 9, cells b6 [.func (.func 51) #[] #[.pointer (some ⟨b5, 0, none⟩)]] 31, cells b5 [.string s1] 9, cells b.2.1 [.int .i64 b.1] 3, cells b.2.2.1 [.int .i64 0] 3, star ((b.2.2.2 : List Nat).map mark)]) (fun cut => ?_) ?_
      ·
       refine TC.seq (TC.region ?_)
       refine TO.alloc zr_3 rfl (by decide) (fun b9 => ?_)
       refine TO.alloc zr_3 rfl (by decide) (fun b10 => ?_)
       show TO _ _ _ _ _ _ _ _ _ _ [cells b1 [.bool false] 4, cells b2 [v1] 23, vec enc_Gapi_Token 36 3 v1 r2, cells b3 [v2] 25, vec enc_Gapi_Span 34 2 v2 r3, cells b4 [.string s1] 9, cells b6 [.func (.func 51) #[] #[.pointer (some ⟨b5, 0, none⟩)]] 31, cells b5 [.string s1] 9, star ((ds4 : List Nat).map mark), cells b9 [.int .i64 0] 3, cells b10 [.int .i64 0] 3]
       refine TO.store (k := 9) (l' := [.int .i64 0]) sz_3 rfl rfl rfl rfl rfl (fun _ _ => rfl) rfl ?_
       refine TO.store (k := 10) (l' := [.int .i64 0]) sz_3 rfl rfl rfl rfl rfl (fun _ _ => rfl) rfl ?_
       show TO _ _ _ _ _ _ _ _ _ _ [cells b1 [.bool false] 4, cells b2 [v1] 23, vec enc_Gapi_Token 36 3 v1 r2, cells b3 [v2] 25, vec enc_Gapi_Span 34 2 v2 r3, cells b4 [.string s1] 9, cells b6 [.func (.func 51) #[] #[.pointer (some ⟨b5, 0, none⟩)]] 31, cells b5 [.string s1] 9, star ((ds4 : List Nat).map mark), cells b9 [.int .i64 0] 3, cells b10 [.int .i64 0] 3]
       refine TO.nil (TX.next (cut (TC.seq (TC.region (TO.move rfl (by decide) rfl (TO.nil (TX.next (TC.block ?_))))))))
       obtain ⟨hg1, h⟩ := grdE h
       obtain ⟨e1, he1, h⟩ := joinE h
       obtain ⟨d1, hd1, h⟩ := joinE h
       refine TC.range (α := Tk) (β := Int) (γ := Int) (δ := Nat) (ps := [37]) Ro.nil rfl en_46 (scan1_itr s1 hg1 b4) (fun pre b => ∀ post, tksOf s1 = pre ++ post → rangeG d1 (law07_WordScans_s2 s1 r2 r3 e1) post b = some r) (fun pre b => [cells b1 [.bool false] 4, cells b2 [v1] 23, vec enc_Gapi_Token 36 3 v1 r2, cells b3 [v2] 25, vec enc_Gapi_Span 34 2 v2 r3, cells b6 [.func (.func 51) #[] #[.pointer (some ⟨b5, 0, none⟩)]] 31, cells b5 [.string s1] 9, cells b9 [.int .i64 b] 3, cells b10 [.int .i64 0] 3]) (fun c pre g => (fun g => c = .ret ∧ e1 g = some r) g) (fun c pre g => (fun g => [cells b1 [.bool false] 4, cells b2 [v1] 23, vec enc_Gapi_Token 36 3 v1 r2, cells b3 [v2] 25, vec enc_Gapi_Span 34 2 v2 r3, cells b6 [.func (.func 51) #[] #[.pointer (some ⟨b5, 0, none⟩)]] 31, cells b5 [.string s1] 9, cells b9 [.int .i64 g] 3, cells b10 [.int .i64 0] 3]) g) (fun pre x b j => [(0, .string s1), (2, .pointer (some ⟨b1, 0, none⟩)), (3, .pointer (some ⟨b2, 0, none⟩)), (4, .pointer (some ⟨b3, 0, none⟩)), (5, .func (.func 46) #[] #[.pointer (some ⟨b4, 0, none⟩)]), (6, .pointer (some ⟨b6, 0, none⟩)), (7, .int .i64 round3), (8, .pointer (some ⟨b9, 0, none⟩)), (9, .pointer (some ⟨b10, 0, none⟩)), (36, .func (.func 46) #[] #[.pointer (some ⟨b4, 0, none⟩)]), (10, .pointer (some ⟨j, 0, none⟩))]) (fun pre x b j => [cells b1 [.bool false] 4, cells b2 [v1] 23, vec enc_Gapi_Token 36 3 v1 r2, cells b3 [v2] 25, vec enc_Gapi_Span 34 2 v2 r3, cells b6 [.func (.func 51) #[] #[.pointer (some ⟨b5, 0, none⟩)]] 31, cells b5 [.string s1] 9, cells b9 [.int .i64 b] 3, cells b10 [.int .i64 0] 3, cells j [.int .i64 x.k, .int .i64 (x.f : Int), .int .i64 (x.t : Int)] 36]) 0 (fun post e => by rw [List.nil_append] at e; subst e; exact h) (Splits.of [0, 1, 2, 3, 4, 6, 7, 9, 10] (by as_aux_lemma => kernel_rfl) rfl) ⟨.inl ⟨5, rfl⟩, trivial⟩ (fun _ => rfl) (by decide) ?_ ?_ ?_ ?_
       ·
        rintro lp rc pre x3 post n5 w1 K1 hxs2 hext hro hinv
        refine TC.region ?_
        refine TO.alloc zr_36 rfl (by decide) (fun b11 => ?_)
        refine TO.stores (k := 9) (vs := [.int .i64 x3.k, .int .i64 (x3.f : Int), .int .i64 (x3.t : Int)]) (l' := [.int .i64 x3.k, .int .i64 (x3.f : Int), .int .i64 (x3.t : Int)]) sz_36 rfl rfl rfl rfl rfl (show _ ≤ _ by simp) rfl rfl ?_
        show TO _ _ _ _ _ _ _ _ _ _ [cells b1 [.bool false] 4, cells b2 [v1] 23, vec enc_Gapi_Token 36 3 v1 r2, cells b3 [v2] 25, vec enc_Gapi_Span 34 2 v2 r3, cells b6 [.func (.func 51) #[] #[.pointer (some ⟨b5, 0, none⟩)]] 31, cells b5 [.string s1] 9, cells b9 [.int .i64 n5] 3, cells b10 [.int .i64 0] 3, cells b11 [.int .i64 x3.k, .int .i64 (x3.f : Int), .int .i64 (x3.t : Int)] 36]
        refine TO.nil ?_
        exact fun a w ha hw => ⟨b11, (Sbs.cons rfl (Sbs.cons rfl (Sbs.cons rfl (Sbs.cons rfl (Sbs.cons rfl (Sbs.cons rfl (Sbs.cons rfl (Sbs.cons rfl (Sbs.cons rfl (Sbs.cons rfl (Sbs.cons rfl (Sbs.nil)))))))))))) _ _ _ ha, hw.weaken (Splits.of [0, 1, 2, 3, 4, 5, 6, 7, 8, 9] (by as_aux_lemma => kernel_rfl) rfl)⟩
       ·
        rintro lp rc pre x3 post2 n5 jb1 w1 K1 hxs2 hext hro hinv
        have h := hinv (x3 :: post2) hxs2
        obtain ⟨ag2, hag2⟩ : ∃ ag, ag = rangeG d1 (law07_WordScans_s2 s1 r2 r3 e1) post2 := ⟨_, rfl⟩
        have h : law07_WordScans_s2 s1 r2 r3 e1 x3 ag2 n5 = some r := by rw [hag2]; exact h
        unfold law07_WordScans_s2 at h
        show TC _ _ _ _ _ _ _ _ [(0, .string s1), (2, .pointer (some ⟨b1, 0, none⟩)), (3, .pointer (some ⟨b2, 0, none⟩)), (4, .pointer (some ⟨b3, 0, none⟩)), (5, .func (.func 46) #[] #[.pointer (some ⟨b4, 0, none⟩)]), (6, .pointer (some ⟨b6, 0, none⟩)), (7, .int .i64 round3), (8, .pointer (some ⟨b9, 0, none⟩)), (9, .pointer (some ⟨b10, 0, none⟩)), (36, .func (.func 46) #[] #[.pointer (some ⟨b4, 0, none⟩)]), (10, .pointer (some ⟨jb1, 0, none⟩))] [cells b1 [.bool false] 4, cells b2 [v1] 23, vec enc_Gapi_Token 36 3 v1 r2, cells b3 [v2] 25, vec enc_Gapi_Span 34 2 v2 r3, cells b6 [.func (.func 51) #[] #[.pointer (some ⟨b5, 0, none⟩)]] 31, cells b5 [.string s1] 9, cells b9 [.int .i64 n5] 3, cells b10 [.int .i64 0] 3, cells jb1 [.int .i64 x3.k, .int .i64 (x3.f : Int), .int .i64 (x3.t : Int)] 36]
        refine TC.block (TC.seq (TC.seq ?_))
        refine TC.bySplit (b := decide (((r2.length : Int) : Int) ≤ n5)) (fun hb3 => ?_) (fun hb3 => ?_)
        ·
         have h := condT hb3 h
         refine TC.drawN 10 [(0, 38, .int .i64 n5), (1, 39, v1), (2, 40, .int .i64 (r2.length : Int)), (3, 41, .bool true), (4, 42, .bool true), (5, 43, undef), (6, 44, undef), (7, 45, undef), (8, 46, undef), (9, 47, undef)] mixed (by as_aux_lemma => kernel_rfl) (by as_aux_lemma => kernel_rfl) (by decide) (by rfl) (by as_aux_lemma => kernel_rfl) (by as_aux_lemma => kernel_rfl) (DrawPre.cons ?_ (DrawPre.cons ?_ (DrawPre.cons ?_ (DrawPre.cons ?_ (DrawPre.cons ?_ (DrawPre.cons ?_ (DrawPre.cons ?_ (DrawPre.cons ?_ (DrawPre.cons ?_ (DrawPre.cons ?_ DrawPre.nil)))))))))) ?_
         ·
          intro D hn hd hcl hu hi
          refine TO.load (k := 7) sc_3 rfl (by decide) (dl_old (by rfl) rfl) rfl rfl ?_
          exact TX.quiet 0 hu hi rfl
         ·
          intro D hn hd hcl hu hi
          refine TO.load (k := 1) sc_23 rfl (by decide) (dl_old (by rfl) rfl) rfl rfl ?_
          exact TX.quiet 1 hu hi rfl
         ·
          intro D hn hd hcl hu hi
          refine TO.lenVec (k := 2) rfl (by decide) (dl_lookup (m := 1) hu rfl (hd 1 (by decide))) rfl Try.underlying23 ?_
          exact TX.quiet 2 hu hi rfl
         ·
          intro D hn hd hcl hu hi
          refine TO.bin rfl (by decide) (dl_lookup (m := 0) hu rfl (hd 0 (by decide))) (dl_lookup (m := 2) hu rfl (hd 2 (by decide))) bin_geq (TO.rewH (show Value.bool (decide (((r2.length : Int) : Int) ≤ n5)) = Value.bool true from congrArg Value.bool hb3) ?_)
          exact TX.quiet 3 hu hi rfl
         ·
          intro D hn hd hcl hu hi
          refine TO.move rfl (by decide) (dl_lookup (m := 3) hu rfl (hd 3 (by decide))) ?_
          exact TX.quiet 4 hu hi rfl
         ·
          intro D hn hd hcl hu hi
          refine TO.skip (gd_F rfl (dl_lookup (m := 4) hu rfl (hd 4 (by decide)))) (by decide) ?_
          exact TX.quiet 5 hu hi rfl
         ·
          intro D hn hd hcl hu hi
          refine TO.skip (gd_F rfl (dl_lookup (m := 4) hu rfl (hd 4 (by decide)))) (by decide) ?_
          exact TX.quiet 6 hu hi rfl
         ·
          intro D hn hd hcl hu hi
          refine TO.skip (gd_F rfl (dl_lookup (m := 4) hu rfl (hd 4 (by decide)))) (by decide) ?_
          exact TX.quiet 7 hu hi rfl
         ·
          intro D hn hd hcl hu hi
          refine TO.skip (gd_F rfl (dl_lookup (m := 4) hu rfl (hd 4 (by decide)))) (by decide) ?_
          exact TX.quiet 8 hu hi rfl
         ·
          intro D hn hd hcl hu hi
          refine TO.skip (gd_F rfl (dl_lookup (m := 4) hu rfl (hd 4 (by decide)))) (by decide) ?_
          exact TX.quiet 9 hu hi rfl
         refine TO.skip rfl (by decide) (TO.pick (b := true) rfl (by decide) rfl rfl (TO.nil (TX.next (TC.condT rfl (TC.seq (TC.region ?_))))))
         refine TO.store (k := 0) (l' := [.bool false]) sz_4 rfl rfl rfl rfl rfl (fun _ _ => rfl) rfl ?_
         refine TO.nil (TX.next (TC.ret (TX.thenRet (TX.blockRet ?_))))
         exact TX.roundRet n5 (show _ ∧ _ from ⟨rfl, h⟩) (Splits.of [0, 1, 2, 3, 4, 5, 6, 7, 8] (by as_aux_lemma => kernel_rfl) rfl)
        ·
         have h := condF hb3 h
         obtain ⟨q1, hq4, h⟩ := andE h
         refine TC.drawN 10 [(0, 38, .int .i64 n5), (1, 39, v1), (2, 40, .int .i64 (r2.length : Int)), (3, 41, .bool false), (4, 42, .bool false), (5, 43, .agg #[.int .i64 x3.k, .int .i64 (x3.f : Int), .int .i64 (x3.t : Int)]), (6, 44, v1), (7, 45, .int .i64 n5), (8, 46, .pointer (some ⟨vblk v1, (n5 : Int).toNat * 3, none⟩)), (9, 47, .agg #[.int .i64 q1.Kind, .int .i64 q1.Span_From, .int .i64 q1.Span_To])] mixed (by as_aux_lemma => kernel_rfl) (by as_aux_lemma => kernel_rfl) (by decide) (by rfl) (by as_aux_lemma => kernel_rfl) (by as_aux_lemma => kernel_rfl) (DrawPre.cons ?_ (DrawPre.cons ?_ (DrawPre.cons ?_ (DrawPre.cons ?_ (DrawPre.cons ?_ (DrawPre.cons ?_ (DrawPre.cons ?_ (DrawPre.cons ?_ (DrawPre.cons ?_ (DrawPre.cons ?_ DrawPre.nil)))))))))) ?_
         ·
          intro D hn hd hcl hu hi
          refine TO.load (k := 7) sc_3 rfl (by decide) (dl_old (by rfl) rfl) rfl rfl ?_
          exact TX.quiet 0 hu hi rfl
         ·
          intro D hn hd hcl hu hi
          refine TO.load (k := 1) sc_23 rfl (by decide) (dl_old (by rfl) rfl) rfl rfl ?_
          exact TX.quiet 1 hu hi rfl
         ·
          intro D hn hd hcl hu hi
          refine TO.lenVec (k := 2) rfl (by decide) (dl_lookup (m := 1) hu rfl (hd 1 (by decide))) rfl Try.underlying23 ?_
          exact TX.quiet 2 hu hi rfl
         ·
          intro D hn hd hcl hu hi
          refine TO.bin rfl (by decide) (dl_lookup (m := 0) hu rfl (hd 0 (by decide))) (dl_lookup (m := 2) hu rfl (hd 2 (by decide))) bin_geq (TO.rewH (show Value.bool (decide (((r2.length : Int) : Int) ≤ n5)) = Value.bool false from congrArg Value.bool hb3) ?_)
          exact TX.quiet 3 hu hi rfl
         ·
          intro D hn hd hcl hu hi
          refine TO.move rfl (by decide) (dl_lookup (m := 3) hu rfl (hd 3 (by decide))) ?_
          exact TX.quiet 4 hu hi rfl
         ·
          intro D hn hd hcl hu hi
          refine TO.loads (k := 9) (cs := [.int .i64 x3.k, .int .i64 (x3.f : Int), .int .i64 (x3.t : Int)]) rw_36 (gd_T rfl (dl_lookup (m := 4) hu rfl (hd 4 (by decide)))) (by decide) (dl_old (by rfl) rfl) rfl rfl rfl ?_
          exact TX.quiet 5 hu hi rfl
         ·
          intro D hn hd hcl hu hi
          refine TO.load (k := 1) sc_23 (gd_T rfl (dl_lookup (m := 4) hu rfl (hd 4 (by decide)))) (by decide) (dl_old (by rfl) rfl) rfl rfl ?_
          exact TX.quiet 6 hu hi rfl
         ·
          intro D hn hd hcl hu hi
          refine TO.load (k := 7) sc_3 (gd_T rfl (dl_lookup (m := 4) hu rfl (hd 4 (by decide)))) (by decide) (dl_old (by rfl) rfl) rfl rfl ?_
          exact TX.quiet 7 hu hi rfl
         ·
          intro D hn hd hcl hu hi
          refine TO.indexVecI (k := 2) hq4 Try.underlying23 sz_36 (gd_T rfl (dl_lookup (m := 4) hu rfl (hd 4 (by decide)))) (by decide) (dl_lookup (m := 6) hu rfl (hd 6 (by decide))) (dl_lookup (m := 7) hu rfl (hd 7 (by decide))) rfl rfl ?_
          exact TX.quiet 8 hu hi rfl
         ·
          intro D hn hd hcl hu hi
          refine TO.loadsVec (i := (n5 : Int).toNat) (j := 0) (k := 2) (q := q1) (cs := [.int .i64 q1.Kind, .int .i64 q1.Span_From, .int .i64 q1.Span_To]) rw_36 enc_Gapi_Token_len (gd_T rfl (dl_lookup (m := 4) hu rfl (hd 4 (by decide)))) (by decide) (dl_lookup (m := 8) hu rfl (hd 8 (by decide))) rfl (getO_get hq4) rfl rfl rfl ?_
          exact TX.quiet 9 hu hi rfl
         refine TO.bin rfl (by decide) rfl rfl (bin_neq_36 (⟨x3.k, (x3.f : Int), (x3.t : Int)⟩ : Gapi_Token) q1) (TO.pick (b := false) rfl (by decide) rfl rfl (TO.nil (TX.next ?_)))
         refine TC.condB rfl (fun hb4 => ?_) (fun hb4 => ?_)
         ·
          have h := condT hb4 h
          refine TC.seq (TC.region ?_)
          refine TO.store (k := 0) (l' := [.bool false]) sz_4 rfl rfl rfl rfl rfl (fun _ _ => rfl) rfl ?_
          refine TO.nil (TX.next (TC.ret (TX.thenRet (TX.blockRet ?_))))
          exact TX.roundRet n5 (show _ ∧ _ from ⟨rfl, h⟩) (Splits.of [0, 1, 2, 3, 4, 5, 6, 7, 8] (by as_aux_lemma => kernel_rfl) rfl)
         ·
          have h := condF hb4 h
          refine TC.skip (TX.next (TC.seq (TC.region (TO.load (k := 7) sc_3 rfl (by decide) rfl rfl rfl ?_))))
          obtain ⟨hg2, h⟩ := grdE h
          refine TO.bin rfl (by decide) rfl rfl (bin_add (r := n5 + 1) (IntWalk.i64_in _ hg2)) ?_
          refine TO.store (k := 7) (l' := [.int .i64 (n5 + 1)]) sz_3 rfl rfl rfl rfl rfl (fun _ _ => rfl) rfl ?_
          refine TO.nil (TX.next (TC.seq (TC.region (TO.load (k := 7) sc_3 rfl (by decide) rfl rfl rfl (TO.bin rfl (by decide) rfl rfl bin_eql (TO.nil (TX.next ?_)))))))
          refine TC.condB rfl (fun hb5 => ?_) (fun hb5 => ?_)
          ·
           have h := condT hb5 h
           refine TC.seq (TC.region ?_)
           refine TO.alloc zr_3 rfl (by decide) (fun b12 => ?_)
           show TO _ _ _ _ _ _ _ _ _ _ [cells b1 [.bool false] 4, cells b2 [v1] 23, vec enc_Gapi_Token 36 3 v1 r2, cells b3 [v2] 25, vec enc_Gapi_Span 34 2 v2 r3, cells b6 [.func (.func 51) #[] #[.pointer (some ⟨b5, 0, none⟩)]] 31, cells b5 [.string s1] 9, cells b9 [.int .i64 (n5 + 1)] 3, cells b10 [.int .i64 0] 3, cells jb1 [.int .i64 x3.k, .int .i64 (x3.f : Int), .int .i64 (x3.t : Int)] 36, cells b12 [.int .i64 0] 3]
           refine TO.store (k := 10) (l' := [.int .i64 0]) sz_3 rfl rfl rfl rfl rfl (fun _ _ => rfl) rfl ?_
           refine TO.nil (TX.next (TC.seq (TC.region (TO.load (k := 5) sc_31 rfl (by decide) rfl rfl rfl (TO.nil (TX.next (TC.block ?_)))))))
           obtain ⟨hg3, h⟩ := grdE h
           obtain ⟨e2, he2, h⟩ := joinE h
           obtain ⟨e3, he3, h⟩ := joinE h
           obtain ⟨d2, hd2, h⟩ := joinE h
           refine TC.rangeIn (α := Nat × Nat) (β := Int) (γ := Int ⊕ Int) (δ := Nat) (ps := [55]) hro (i₀ := 0) rfl rfl en_51 (words1_itr s1 hg3 b5) (fun pre b => ∀ post, wsOf s1 = pre ++ post → rangeG d2 (law07_WordScans_s3 r3 e2 e3) post b = some r) (fun pre b => [cells b1 [.bool false] 4, cells b3 [v2] 25, vec enc_Gapi_Span 34 2 v2 r3, cells b12 [.int .i64 b] 3]) (fun c pre g => (Sum.elim (fun g => c = .ret ∧ e2 g = some r) (fun g => c = .exit 4 ∧ e3 g = some r)) g) (fun c pre g => (Sum.elim (fun g => [cells b1 [.bool false] 4, cells b3 [v2] 25, vec enc_Gapi_Span 34 2 v2 r3, cells b12 [.int .i64 g] 3]) (fun g => [cells b1 [.bool false] 4, cells b3 [v2] 25, vec enc_Gapi_Span 34 2 v2 r3, cells b12 [.int .i64 g] 3])) g) (fun pre x b j => [(2, .pointer (some ⟨b1, 0, none⟩)), (4, .pointer (some ⟨b3, 0, none⟩)), (11, .pointer (some ⟨b12, 0, none⟩)), (54, .func (.func 51) #[] #[.pointer (some ⟨b5, 0, none⟩)]), (12, .pointer (some ⟨j, 0, none⟩))]) (fun pre x b j => [cells b1 [.bool false] 4, cells b3 [v2] 25, vec enc_Gapi_Span 34 2 v2 r3, cells b12 [.int .i64 b] 3, cells j [.int .i64 (x.1 : Int), .int .i64 (x.2 : Int)] 34]) 0 (fun post e => by rw [List.nil_append] at e; subst e; exact h) (Splits.of [0, 3, 4, 10] (by as_aux_lemma => kernel_rfl) rfl) ⟨.inl ⟨6, rfl⟩, trivial⟩ (fun _ => rfl) (by decide) ?_ ?_ ?_ ?_
           ·
            rintro lp rc pre x4 post i3 w1 K1 hxs3 hext hro hinv
            refine TC.region ?_
            refine TO.alloc zr_34 rfl (by decide) (fun b13 => ?_)
            refine TO.stores (k := 4) (vs := [.int .i64 (x4.1 : Int), .int .i64 (x4.2 : Int)]) (l' := [.int .i64 (x4.1 : Int), .int .i64 (x4.2 : Int)]) sz_34 rfl rfl rfl rfl rfl (show _ ≤ _ by simp) rfl rfl ?_
            show TO _ _ _ _ _ _ _ _ _ _ [cells b1 [.bool false] 4, cells b3 [v2] 25, vec enc_Gapi_Span 34 2 v2 r3, cells b12 [.int .i64 i3] 3, cells b13 [.int .i64 (x4.1 : Int), .int .i64 (x4.2 : Int)] 34]
            refine TO.nil ?_
            exact fun a w ha hw => ⟨b13, (Sbs.cons rfl (Sbs.cons rfl (Sbs.cons rfl (Sbs.cons rfl (Sbs.cons rfl (Sbs.nil)))))) _ _ _ ha, hw.weaken (Splits.of [0, 1, 2, 3, 4] (by as_aux_lemma => kernel_rfl) rfl)⟩
           ·
            rintro lp rc pre x4 post3 i3 jb2 w1 K1 hxs3 hext hro hinv
            have h := hinv (x4 :: post3) hxs3
            obtain ⟨ag3, hag3⟩ : ∃ ag, ag = rangeG d2 (law07_WordScans_s3 r3 e2 e3) post3 := ⟨_, rfl⟩
            have h : law07_WordScans_s3 r3 e2 e3 x4 ag3 i3 = some r := by rw [hag3]; exact h
            unfold law07_WordScans_s3 at h
            show TC _ _ _ _ _ _ _ _ [(2, .pointer (some ⟨b1, 0, none⟩)), (4, .pointer (some ⟨b3, 0, none⟩)), (11, .pointer (some ⟨b12, 0, none⟩)), (54, .func (.func 51) #[] #[.pointer (some ⟨b5, 0, none⟩)]), (12, .pointer (some ⟨jb2, 0, none⟩))] [cells b1 [.bool false] 4, cells b3 [v2] 25, vec enc_Gapi_Span 34 2 v2 r3, cells b12 [.int .i64 i3] 3, cells jb2 [.int .i64 (x4.1 : Int), .int .i64 (x4.2 : Int)] 34]
            refine TC.block (TC.seq (TC.seq ?_))
            refine TC.bySplit (b := decide (((r3.length : Int) : Int) ≤ i3)) (fun hb6 => ?_) (fun hb6 => ?_)
            ·
             have h := condT hb6 h
             refine TC.drawN 10 [(0, 56, .int .i64 i3), (1, 57, v2), (2, 58, .int .i64 (r3.length : Int)), (3, 59, .bool true), (4, 60, .bool true), (5, 61, undef), (6, 62, undef), (7, 63, undef), (8, 64, undef), (9, 65, undef)] mixed (by as_aux_lemma => kernel_rfl) (by as_aux_lemma => kernel_rfl) (by decide) (by rfl) (by as_aux_lemma => kernel_rfl) (by as_aux_lemma => kernel_rfl) (DrawPre.cons ?_ (DrawPre.cons ?_ (DrawPre.cons ?_ (DrawPre.cons ?_ (DrawPre.cons ?_ (DrawPre.cons ?_ (DrawPre.cons ?_ (DrawPre.cons ?_ (DrawPre.cons ?_ (DrawPre.cons ?_ DrawPre.nil)))))))))) ?_
             ·
              intro D hn hd hcl hu hi
              refine TO.load (k := 3) sc_3 rfl (by decide) (dl_old (by rfl) rfl) rfl rfl ?_
              exact TX.quiet 0 hu hi rfl
             ·
              intro D hn hd hcl hu hi
              refine TO.load (k := 1) sc_25 rfl (by decide) (dl_old (by rfl) rfl) rfl rfl ?_
              exact TX.quiet 1 hu hi rfl
             ·
              intro D hn hd hcl hu hi
              refine TO.lenVec (k := 2) rfl (by decide) (dl_lookup (m := 1) hu rfl (hd 1 (by decide))) rfl Try.underlying25 ?_
              exact TX.quiet 2 hu hi rfl
             ·
              intro D hn hd hcl hu hi
              refine TO.bin rfl (by decide) (dl_lookup (m := 0) hu rfl (hd 0 (by decide))) (dl_lookup (m := 2) hu rfl (hd 2 (by decide))) bin_geq (TO.rewH (show Value.bool (decide (((r3.length : Int) : Int) ≤ i3)) = Value.bool true from congrArg Value.bool hb6) ?_)
              exact TX.quiet 3 hu hi rfl
             ·
              intro D hn hd hcl hu hi
              refine TO.move rfl (by decide) (dl_lookup (m := 3) hu rfl (hd 3 (by decide))) ?_
              exact TX.quiet 4 hu hi rfl
             ·
              intro D hn hd hcl hu hi
              refine TO.skip (gd_F rfl (dl_lookup (m := 4) hu rfl (hd 4 (by decide)))) (by decide) ?_
              exact TX.quiet 5 hu hi rfl
             ·
              intro D hn hd hcl hu hi
              refine TO.skip (gd_F rfl (dl_lookup (m := 4) hu rfl (hd 4 (by decide)))) (by decide) ?_
              exact TX.quiet 6 hu hi rfl
             ·
              intro D hn hd hcl hu hi
              refine TO.skip (gd_F rfl (dl_lookup (m := 4) hu rfl (hd 4 (by decide)))) (by decide) ?_
              exact TX.quiet 7 hu hi rfl
             ·
              intro D hn hd hcl hu hi
              refine TO.skip (gd_F rfl (dl_lookup (m := 4) hu rfl (hd 4 (by decide)))) (by decide) ?_
              exact TX.quiet 8 hu hi rfl
             ·
              intro D hn hd hcl hu hi
              refine TO.skip (gd_F rfl (dl_lookup (m := 4) hu rfl (hd 4 (by decide)))) (by decide) ?_
              exact TX.quiet 9 hu hi rfl
             refine TO.skip rfl (by decide) (TO.pick (b := true) rfl (by decide) rfl rfl (TO.nil (TX.next (TC.condT rfl (TC.seq (TC.region ?_))))))
             refine TO.store (k := 0) (l' := [.bool false]) sz_4 rfl rfl rfl rfl rfl (fun _ _ => rfl) rfl ?_
             refine TO.nil (TX.next (TC.ret (TX.thenRet (TX.blockRet ?_))))
             exact TX.roundRet (.inl i3) (show _ ∧ _ from ⟨rfl, h⟩) (Splits.of [0, 1, 2, 3] (by as_aux_lemma => kernel_rfl) rfl)
            ·
             have h := condF hb6 h
             obtain ⟨q2, hq5, h⟩ := andE h
             refine TC.drawN 10 [(0, 56, .int .i64 i3), (1, 57, v2), (2, 58, .int .i64 (r3.length : Int)), (3, 59, .bool false), (4, 60, .bool false), (5, 61, .agg #[.int .i64 (x4.1 : Int), .int .i64 (x4.2 : Int)]), (6, 62, v2), (7, 63, .int .i64 i3), (8, 64, .pointer (some ⟨vblk v2, (i3 : Int).toNat * 2, none⟩)), (9, 65, .agg #[.int .i64 q2.From, .int .i64 q2.To])] mixed (by as_aux_lemma => kernel_rfl) (by as_aux_lemma => kernel_rfl) (by decide) (by rfl) (by as_aux_lemma => kernel_rfl) (by as_aux_lemma => kernel_rfl) (DrawPre.cons ?_ (DrawPre.cons ?_ (DrawPre.cons ?_ (DrawPre.cons ?_ (DrawPre.cons ?_ (DrawPre.cons ?_ (DrawPre.cons ?_ (DrawPre.cons ?_ (DrawPre.cons ?_ (DrawPre.cons ?_ DrawPre.nil)))))))))) ?_
             ·
              intro D hn hd hcl hu hi
              refine TO.load (k := 3) sc_3 rfl (by decide) (dl_old (by rfl) rfl) rfl rfl ?_
              exact TX.quiet 0 hu hi rfl
             ·
              intro D hn hd hcl hu hi
              refine TO.load (k := 1) sc_25 rfl (by decide) (dl_old (by rfl) rfl) rfl rfl ?_
              exact TX.quiet 1 hu hi rfl
             ·
              intro D hn hd hcl hu hi
              refine TO.lenVec (k := 2) rfl (by decide) (dl_lookup (m := 1) hu rfl (hd 1 (by decide))) rfl Try.underlying25 ?_
              exact TX.quiet 2 hu hi rfl
             ·
              intro D hn hd hcl hu hi
              refine TO.bin rfl (by decide) (dl_lookup (m := 0) hu rfl (hd 0 (by decide))) (dl_lookup (m := 2) hu rfl (hd 2 (by decide))) bin_geq (TO.rewH (show Value.bool (decide (((r3.length : Int) : Int) ≤ i3)) = Value.bool false from congrArg Value.bool hb6) ?_)
              exact TX.quiet 3 hu hi rfl
             ·
              intro D hn hd hcl hu hi
              refine TO.move rfl (by decide) (dl_lookup (m := 3) hu rfl (hd 3 (by decide))) ?_
              exact TX.quiet 4 hu hi rfl
             ·
              intro D hn hd hcl hu hi
              refine TO.loads (k := 4) (cs := [.int .i64 (x4.1 : Int), .int .i64 (x4.2 : Int)]) rw_34 (gd_T rfl (dl_lookup (m := 4) hu rfl (hd 4 (by decide)))) (by decide) (dl_old (by rfl) rfl) rfl rfl rfl ?_
              exact TX.quiet 5 hu hi rfl
             ·
              intro D hn hd hcl hu hi
              refine TO.load (k := 1) sc_25 (gd_T rfl (dl_lookup (m := 4) hu rfl (hd 4 (by decide)))) (by decide) (dl_old (by rfl) rfl) rfl rfl ?_
              exact TX.quiet 6 hu hi rfl
             ·
              intro D hn hd hcl hu hi
              refine TO.load (k := 3) sc_3 (gd_T rfl (dl_lookup (m := 4) hu rfl (hd 4 (by decide)))) (by decide) (dl_old (by rfl) rfl) rfl rfl ?_
              exact TX.quiet 7 hu hi rfl
             ·
              intro D hn hd hcl hu hi
              refine TO.indexVecI (k := 2) hq5 Try.underlying25 sz_34 (gd_T rfl (dl_lookup (m := 4) hu rfl (hd 4 (by decide)))) (by decide) (dl_lookup (m := 6) hu rfl (hd 6 (by decide))) (dl_lookup (m := 7) hu rfl (hd 7 (by decide))) rfl rfl ?_
              exact TX.quiet 8 hu hi rfl
             ·
              intro D hn hd hcl hu hi
              refine TO.loadsVec (i := (i3 : Int).toNat) (j := 0) (k := 2) (q := q2) (cs := [.int .i64 q2.From, .int .i64 q2.To]) rw_34 enc_Gapi_Span_len (gd_T rfl (dl_lookup (m := 4) hu rfl (hd 4 (by decide)))) (by decide) (dl_lookup (m := 8) hu rfl (hd 8 (by decide))) rfl (getO_get hq5) rfl rfl rfl ?_
              exact TX.quiet 9 hu hi rfl
             refine TO.bin rfl (by decide) rfl rfl (bin_neq_34 (⟨(x4.1 : Int), (x4.2 : Int)⟩ : Gapi_Span) q2) (TO.pick (b := false) rfl (by decide) rfl rfl (TO.nil (TX.next ?_)))
             refine TC.condB rfl (fun hb7 => ?_) (fun hb7 => ?_)
             ·
              have h := condT hb7 h
              refine TC.seq (TC.region ?_)
              refine TO.store (k := 0) (l' := [.bool false]) sz_4 rfl rfl rfl rfl rfl (fun _ _ => rfl) rfl ?_
              refine TO.nil (TX.next (TC.ret (TX.thenRet (TX.blockRet ?_))))
              exact TX.roundRet (.inl i3) (show _ ∧ _ from ⟨rfl, h⟩) (Splits.of [0, 1, 2, 3] (by as_aux_lemma => kernel_rfl) rfl)
             ·
              have h := condF hb7 h
              refine TC.skip (TX.next (TC.seq (TC.region (TO.load (k := 3) sc_3 rfl (by decide) rfl rfl rfl ?_))))
              obtain ⟨hg4, h⟩ := grdE h
              refine TO.bin rfl (by decide) rfl rfl (bin_add (r := i3 + 1) (IntWalk.i64_in _ hg4)) ?_
              refine TO.store (k := 3) (l' := [.int .i64 (i3 + 1)]) sz_3 rfl rfl rfl rfl rfl (fun _ _ => rfl) rfl ?_
              refine TO.nil (TX.next (TC.seq (TC.region (TO.load (k := 3) sc_3 rfl (by decide) rfl rfl rfl (TO.bin rfl (by decide) rfl rfl bin_eql (TO.nil (TX.next ?_)))))))
              refine TC.condB rfl (fun hb8 => ?_) (fun hb8 => ?_)
              ·
               have h := condT hb8 h
               refine TC.exit (TX.blockOn (by decide) ?_)
               exact TX.roundExit (.inr (i3 + 1)) (show _ ∧ _ from ⟨rfl, h⟩) (Splits.of [0, 1, 2, 3] (by as_aux_lemma => kernel_rfl) rfl)
              ·
               have h := condF hb8 h
               refine TC.skip (TX.blockNormal ?_)
               exact TX.round (i3 + 1) (fun post2 e2 => by have e9 := snoc_post hxs3 e2; subst e9; subst hag3; exact h) (Splits.of [0, 1, 2, 3] (by as_aux_lemma => kernel_rfl) rfl)
           ·
            rintro i3 hinv
            have h : d2 i3 = some r := hinv [] (List.append_nil _).symm
            subst hd2
            show TX _ _ _ _ _ _ _ [emp, cells b2 [v1] 23, vec enc_Gapi_Token 36 3 v1 r2, emp, emp, cells b6 [.func (.func 51) #[] #[.pointer (some ⟨b5, 0, none⟩)]] 31, cells b5 [.string s1] 9, cells b9 [.int .i64 (n5 + 1)] 3, cells b10 [.int .i64 0] 3, cells jb1 [.int .i64 x3.k, .int .i64 (x3.f : Int), .int .i64 (x3.t : Int)] 36, emp, cells b1 [.bool false] 4, cells b3 [v2] 25, vec enc_Gapi_Span 34 2 v2 r3, cells b12 [.int .i64 i3] 3]
            refine TX.blockNormal (TX.blockNormal ?_)
            exact TX.round (n5 + 1) (fun post2 e2 => by have e9 := snoc_post hxs2 e2; subst e9; subst hag2; exact h) (Splits.of [11, 1, 2, 12, 13, 5, 6, 7, 8] (by as_aux_lemma => kernel_rfl) rfl)
           ·
            rintro c pre x4 post g hxs hX
            rcases g with g | g
            ·
             obtain ⟨rfl, h⟩ := (show _ ∧ _ from hX)
             generalize g = i4 at *
             subst he2
             show TC _ _ _ _ _ _ _ _ _ [emp, cells b2 [v1] 23, vec enc_Gapi_Token 36 3 v1 r2, emp, emp, cells b6 [.func (.func 51) #[] #[.pointer (some ⟨b5, 0, none⟩)]] 31, cells b5 [.string s1] 9, cells b9 [.int .i64 (n5 + 1)] 3, cells b10 [.int .i64 0] 3, cells jb1 [.int .i64 x3.k, .int .i64 (x3.f : Int), .int .i64 (x3.t : Int)] 36, emp, cells b1 [.bool false] 4, cells b3 [v2] 25, vec enc_Gapi_Span 34 2 v2 r3, cells b12 [.int .i64 i4] 3]
             refine TC.ret (TX.blockRet (TX.blockRet ?_))
             exact TX.roundRet (n5 + 1) (show _ ∧ _ from ⟨rfl, h⟩) (Splits.of [11, 1, 2, 12, 13, 5, 6, 7, 8] (by as_aux_lemma => kernel_rfl) rfl)
            obtain ⟨rfl, h⟩ := (show _ ∧ _ from hX)
            generalize g = i5 at *
            subst he3
            show TC _ _ _ _ _ _ _ _ _ [emp, cells b2 [v1] 23, vec enc_Gapi_Token 36 3 v1 r2, emp, emp, cells b6 [.func (.func 51) #[] #[.pointer (some ⟨b5, 0, none⟩)]] 31, cells b5 [.string s1] 9, cells b9 [.int .i64 (n5 + 1)] 3, cells b10 [.int .i64 0] 3, cells jb1 [.int .i64 x3.k, .int .i64 (x3.f : Int), .int .i64 (x3.t : Int)] 36, emp, cells b1 [.bool false] 4, cells b3 [v2] 25, vec enc_Gapi_Span 34 2 v2 r3, cells b12 [.int .i64 i5] 3]
            refine TC.exit (TX.blockHere (TX.blockNormal ?_))
            exact TX.round (n5 + 1) (fun post2 e2 => by have e9 := snoc_post hxs2 e2; subst e9; subst hag2; exact h) (Splits.of [11, 1, 2, 12, 13, 5, 6, 7, 8] (by as_aux_lemma => kernel_rfl) rfl)
          ·
           have h := condF hb5 h
           refine TC.skip (TX.blockNormal ?_)
           exact TX.round (n5 + 1) (fun post2 e2 => by have e9 := snoc_post hxs2 e2; subst e9; subst hag2; exact h) (Splits.of [0, 1, 2, 3, 4, 5, 6, 7, 8] (by as_aux_lemma => kernel_rfl) rfl)
       ·
        rintro dm2 n5 hinv
        have h : d1 n5 = some r := hinv [] (List.append_nil _).symm
        subst hd1
        show TX _ _ _ _ _ _ _ [emp, emp, emp, emp, emp, cells b4 [.string s1] 9, emp, emp, star ((ds4 : List Nat).map mark), emp, emp, cells b1 [.bool false] 4, cells b2 [v1] 23, vec enc_Gapi_Token 36 3 v1 r2, cells b3 [v2] 25, vec enc_Gapi_Span 34 2 v2 r3, cells b6 [.func (.func 51) #[] #[.pointer (some ⟨b5, 0, none⟩)]] 31, cells b5 [.string s1] 9, cells b9 [.int .i64 n5] 3, cells b10 [.int .i64 0] 3, mark dm2]
        refine TX.starCons (k := 20) (j := 8) rfl rfl (by decide) ?_
        show TX _ _ _ _ _ _ _ [emp, emp, emp, emp, emp, cells b4 [.string s1] 9, emp, emp, star ((dm2 :: ds4 : List Nat).map mark), emp, emp, cells b1 [.bool false] 4, cells b2 [v1] 23, vec enc_Gapi_Token 36 3 v1 r2, cells b3 [v2] 25, vec enc_Gapi_Span 34 2 v2 r3, cells b6 [.func (.func 51) #[] #[.pointer (some ⟨b5, 0, none⟩)]] 31, cells b5 [.string s1] 9, cells b9 [.int .i64 n5] 3, cells b10 [.int .i64 0] 3, emp]
        refine TX.blockNormal ?_
        exact TX.meetD (n5, b9, b10, dm2 :: ds4) h rfl (Sbs.cons rfl (Sbs.cons rfl (Sbs.cons rfl (Sbs.cons rfl (Sbs.cons rfl (Sbs.cons rfl (Sbs.cons rfl (Sbs.cons rfl (Sbs.cons rfl (Sbs.nil)))))))))) (Splits.of [11, 12, 13, 14, 15, 5, 16, 17, 18, 19, 8] (by as_aux_lemma => kernel_rfl) rfl)
       ·
        rintro dm2 c pre x3 post g hxs hX
        obtain ⟨rfl, h⟩ := (show _ ∧ _ from hX)
        generalize g = n6 at *
        subst he1
        show TC _ _ _ _ _ _ _ _ _ [emp, emp, emp, emp, emp, cells b4 [.string s1] 9, emp, emp, star ((ds4 : List Nat).map mark), emp, emp, cells b1 [.bool false] 4, cells b2 [v1] 23, vec enc_Gapi_Token 36 3 v1 r2, cells b3 [v2] 25, vec enc_Gapi_Span 34 2 v2 r3, cells b6 [.func (.func 51) #[] #[.pointer (some ⟨b5, 0, none⟩)]] 31, cells b5 [.string s1] 9, cells b9 [.int .i64 n6] 3, cells b10 [.int .i64 0] 3, mark dm2]
        refine TC.starCons (k := 20) (j := 8) rfl rfl (by decide) ?_
        show TC _ _ _ _ _ _ _ _ _ [emp, emp, emp, emp, emp, cells b4 [.string s1] 9, emp, emp, star ((dm2 :: ds4 : List Nat).map mark), emp, emp, cells b1 [.bool false] 4, cells b2 [v1] 23, vec enc_Gapi_Token 36 3 v1 r2, cells b3 [v2] 25, vec enc_Gapi_Span 34 2 v2 r3, cells b6 [.func (.func 51) #[] #[.pointer (some ⟨b5, 0, none⟩)]] 31, cells b5 [.string s1] 9, cells b9 [.int .i64 n6] 3, cells b10 [.int .i64 0] 3, emp]
        refine TC.ret (TX.blockRet (TX.thenRet (TX.blockRet (TX.thenRet (TX.thenRet (TX.blockRet (TX.thenRet ?_)))))))
        cases h
        exact TX.finM (rs := [.cell 2 4]) (dm2 :: ds4) () (.inl rfl) (Splits.open0 (k := 8) rfl) Try.results3 (.cons (.cell sc_4 (k := 11) rfl rfl) .nil) rfl Splits.nil
      ·
       rintro ⟨n2, b7, b8, ds6⟩ h
       subst hj3
       show TC _ _ _ _ _ (marksOf ds6) _ _ [(0, .string s1), (2, .pointer (some ⟨b1, 0, none⟩)), (3, .pointer (some ⟨b2, 0, none⟩)), (4, .pointer (some ⟨b3, 0, none⟩)), (5, .func (.func 46) #[] #[.pointer (some ⟨b4, 0, none⟩)]), (6, .pointer (some ⟨b6, 0, none⟩)), (7, .int .i64 round3), (8, .pointer (some ⟨b7, 0, none⟩)), (9, .pointer (some ⟨b8, 0, none⟩))] [cells b1 [.bool false] 4, cells b2 [v1] 23, vec enc_Gapi_Token 36 3 v1 r2, cells b3 [v2] 25, vec enc_Gapi_Span 34 2 v2 r3, cells b4 [.string s1] 9, cells b6 [.func (.func 51) #[] #[.pointer (some ⟨b5, 0, none⟩)]] 31, cells b5 [.string s1] 9, cells b7 [.int .i64 n2] 3, cells b8 [.int .i64 0] 3, star ((ds6 : List Nat).map mark)]
       obtain ⟨j4, hj4, h⟩ := joinE h
       refine TC.cutN (β := Int × (List Nat)) 0 rfl (fun b => j4 b.1 = some r) (fun b => marksOf b.2) (fun b => [(0, .string s1), (2, .pointer (some ⟨b1, 0, none⟩)), (3, .pointer (some ⟨b2, 0, none⟩)), (4, .pointer (some ⟨b3, 0, none⟩)), (5, .func (.func 46) #[] #[.pointer (some ⟨b4, 0, none⟩)]), (6, .pointer (some ⟨b6, 0, none⟩)), (7, .int .i64 round3), (8, .pointer (some ⟨b7, 0, none⟩)), (9, .pointer (some ⟨b8, 0, none⟩))]) (fun b => [cells b1 [.bool false] 4, cells b2 [v1] 23, vec enc_Gapi_Token 36 3 v1 r2, cells b3 [v2] 25, vec enc_Gapi_Span 34 2 v2 r3, cells b4 [.string s1] 9, cells b6 [.func (.func 51) #[] #[.pointer (some ⟨b5, 0, none⟩)]] 31, cells b5 [.string s1] 9, cells b7 [.int .i64 n2] 3, cells b8 [.int .i64 b.1] 3, star ((b.2 : List Nat).map mark)]) (fun cut => ?_) ?_
       ·
        refine cut (TC.seq (TC.region (TO.load (k := 6) sc_31 rfl (by decide) rfl rfl rfl (TO.nil (TX.next (TC.block ?_))))))
        obtain ⟨hg5, h⟩ := grdE h
        obtain ⟨e4, he4, h⟩ := joinE h
        obtain ⟨d3, hd3, h⟩ := joinE h
        refine TC.range (α := Nat × Nat) (β := Int) (γ := Int) (δ := Nat) (ps := [73]) Ro.nil rfl en_51 (words1_itr s1 hg5 b5) (fun pre b => ∀ post, wsOf s1 = pre ++ post → rangeG d3 (law07_WordScans_s4 r3 e4) post b = some r) (fun pre b => [cells b1 [.bool false] 4, cells b2 [v1] 23, vec enc_Gapi_Token 36 3 v1 r2, cells b3 [v2] 25, vec enc_Gapi_Span 34 2 v2 r3, cells b4 [.string s1] 9, cells b6 [.func (.func 51) #[] #[.pointer (some ⟨b5, 0, none⟩)]] 31, cells b7 [.int .i64 n2] 3, cells b8 [.int .i64 b] 3]) (fun c pre g => (fun g => c = .ret ∧ e4 g = some r) g) (fun c pre g => (fun g => [cells b1 [.bool false] 4, cells b2 [v1] 23, vec enc_Gapi_Token 36 3 v1 r2, cells b3 [v2] 25, vec enc_Gapi_Span 34 2 v2 r3, cells b4 [.string s1] 9, cells b6 [.func (.func 51) #[] #[.pointer (some ⟨b5, 0, none⟩)]] 31, cells b7 [.int .i64 n2] 3, cells b8 [.int .i64 g] 3]) g) (fun pre x b j => [(0, .string s1), (2, .pointer (some ⟨b1, 0, none⟩)), (3, .pointer (some ⟨b2, 0, none⟩)), (4, .pointer (some ⟨b3, 0, none⟩)), (5, .func (.func 46) #[] #[.pointer (some ⟨b4, 0, none⟩)]), (6, .pointer (some ⟨b6, 0, none⟩)), (7, .int .i64 round3), (8, .pointer (some ⟨b7, 0, none⟩)), (9, .pointer (some ⟨b8, 0, none⟩)), (72, .func (.func 51) #[] #[.pointer (some ⟨b5, 0, none⟩)]), (13, .pointer (some ⟨j, 0, none⟩))]) (fun pre x b j => [cells b1 [.bool false] 4, cells b2 [v1] 23, vec enc_Gapi_Token 36 3 v1 r2, cells b3 [v2] 25, vec enc_Gapi_Span 34 2 v2 r3, cells b4 [.string s1] 9, cells b6 [.func (.func 51) #[] #[.pointer (some ⟨b5, 0, none⟩)]] 31, cells b7 [.int .i64 n2] 3, cells b8 [.int .i64 b] 3, cells j [.int .i64 (x.1 : Int), .int .i64 (x.2 : Int)] 34]) 0 (fun post e => by rw [List.nil_append] at e; subst e; exact h) (Splits.of [0, 1, 2, 3, 4, 5, 6, 8, 9] (by as_aux_lemma => kernel_rfl) rfl) ⟨.inl ⟨7, rfl⟩, trivial⟩ (fun _ => rfl) (by decide) ?_ ?_ ?_ ?_
        ·
         rintro lp rc pre x5 post k4 w1 K1 hxs4 hext hro hinv
         refine TC.region ?_
         refine TO.alloc zr_34 rfl (by decide) (fun b14 => ?_)
         refine TO.stores (k := 9) (vs := [.int .i64 (x5.1 : Int), .int .i64 (x5.2 : Int)]) (l' := [.int .i64 (x5.1 : Int), .int .i64 (x5.2 : Int)]) sz_34 rfl rfl rfl rfl rfl (show _ ≤ _ by simp) rfl rfl ?_
         show TO _ _ _ _ _ _ _ _ _ _ [cells b1 [.bool false] 4, cells b2 [v1] 23, vec enc_Gapi_Token 36 3 v1 r2, cells b3 [v2] 25, vec enc_Gapi_Span 34 2 v2 r3, cells b4 [.string s1] 9, cells b6 [.func (.func 51) #[] #[.pointer (some ⟨b5, 0, none⟩)]] 31, cells b7 [.int .i64 n2] 3, cells b8 [.int .i64 k4] 3, cells b14 [.int .i64 (x5.1 : Int), .int .i64 (x5.2 : Int)] 34]
         refine TO.nil ?_
         exact fun a w ha hw => ⟨b14, (Sbs.cons rfl (Sbs.cons rfl (Sbs.cons rfl (Sbs.cons rfl (Sbs.cons rfl (Sbs.cons rfl (Sbs.cons rfl (Sbs.cons rfl (Sbs.cons rfl (Sbs.cons rfl (Sbs.cons rfl (Sbs.nil)))))))))))) _ _ _ ha, hw.weaken (Splits.of [0, 1, 2, 3, 4, 5, 6, 7, 8, 9] (by as_aux_lemma => kernel_rfl) rfl)⟩
        ·
         rintro lp rc pre x5 post4 k4 jb3 w1 K1 hxs4 hext hro hinv
         have h := hinv (x5 :: post4) hxs4
         obtain ⟨ag4, hag4⟩ : ∃ ag, ag = rangeG d3 (law07_WordScans_s4 r3 e4) post4 := ⟨_, rfl⟩
         have h : law07_WordScans_s4 r3 e4 x5 ag4 k4 = some r := by rw [hag4]; exact h
         unfold law07_WordScans_s4 at h
         show TC _ _ _ _ _ _ _ _ [(0, .string s1), (2, .pointer (some ⟨b1, 0, none⟩)), (3, .pointer (some ⟨b2, 0, none⟩)), (4, .pointer (some ⟨b3, 0, none⟩)), (5, .func (.func 46) #[] #[.pointer (some ⟨b4, 0, none⟩)]), (6, .pointer (some ⟨b6, 0, none⟩)), (7, .int .i64 round3), (8, .pointer (some ⟨b7, 0, none⟩)), (9, .pointer (some ⟨b8, 0, none⟩)), (72, .func (.func 51) #[] #[.pointer (some ⟨b5, 0, none⟩)]), (13, .pointer (some ⟨jb3, 0, none⟩))] [cells b1 [.bool false] 4, cells b2 [v1] 23, vec enc_Gapi_Token 36 3 v1 r2, cells b3 [v2] 25, vec enc_Gapi_Span 34 2 v2 r3, cells b4 [.string s1] 9, cells b6 [.func (.func 51) #[] #[.pointer (some ⟨b5, 0, none⟩)]] 31, cells b7 [.int .i64 n2] 3, cells b8 [.int .i64 k4] 3, cells jb3 [.int .i64 (x5.1 : Int), .int .i64 (x5.2 : Int)] 34]
         refine TC.block (TC.seq (TC.seq ?_))
         refine TC.bySplit (b := decide (((r3.length : Int) : Int) ≤ k4)) (fun hb9 => ?_) (fun hb9 => ?_)
         ·
          have h := condT hb9 h
          refine TC.drawN 10 [(0, 74, .int .i64 k4), (1, 75, v2), (2, 76, .int .i64 (r3.length : Int)), (3, 77, .bool true), (4, 78, .bool true), (5, 79, undef), (6, 80, undef), (7, 81, undef), (8, 82, undef), (9, 83, undef)] mixed (by as_aux_lemma => kernel_rfl) (by as_aux_lemma => kernel_rfl) (by decide) (by rfl) (by as_aux_lemma => kernel_rfl) (by as_aux_lemma => kernel_rfl) (DrawPre.cons ?_ (DrawPre.cons ?_ (DrawPre.cons ?_ (DrawPre.cons ?_ (DrawPre.cons ?_ (DrawPre.cons ?_ (DrawPre.cons ?_ (DrawPre.cons ?_ (DrawPre.cons ?_ (DrawPre.cons ?_ DrawPre.nil)))))))))) ?_
          ·
           intro D hn hd hcl hu hi
           refine TO.load (k := 8) sc_3 rfl (by decide) (dl_old (by rfl) rfl) rfl rfl ?_
           exact TX.quiet 0 hu hi rfl
          ·
           intro D hn hd hcl hu hi
           refine TO.load (k := 3) sc_25 rfl (by decide) (dl_old (by rfl) rfl) rfl rfl ?_
           exact TX.quiet 1 hu hi rfl
          ·
           intro D hn hd hcl hu hi
           refine TO.lenVec (k := 4) rfl (by decide) (dl_lookup (m := 1) hu rfl (hd 1 (by decide))) rfl Try.underlying25 ?_
           exact TX.quiet 2 hu hi rfl
          ·
           intro D hn hd hcl hu hi
           refine TO.bin rfl (by decide) (dl_lookup (m := 0) hu rfl (hd 0 (by decide))) (dl_lookup (m := 2) hu rfl (hd 2 (by decide))) bin_geq (TO.rewH (show Value.bool (decide (((r3.length : Int) : Int) ≤ k4)) = Value.bool true from congrArg Value.bool hb9) ?_)
           exact TX.quiet 3 hu hi rfl
          ·
           intro D hn hd hcl hu hi
           refine TO.move rfl (by decide) (dl_lookup (m := 3) hu rfl (hd 3 (by decide))) ?_
           exact TX.quiet 4 hu hi rfl
          ·
           intro D hn hd hcl hu hi
           refine TO.skip (gd_F rfl (dl_lookup (m := 4) hu rfl (hd 4 (by decide)))) (by decide) ?_
           exact TX.quiet 5 hu hi rfl
          ·
           intro D hn hd hcl hu hi
           refine TO.skip (gd_F rfl (dl_lookup (m := 4) hu rfl (hd 4 (by decide)))) (by decide) ?_
           exact TX.quiet 6 hu hi rfl
          ·
           intro D hn hd hcl hu hi
           refine TO.skip (gd_F rfl (dl_lookup (m := 4) hu rfl (hd 4 (by decide)))) (by decide) ?_
           exact TX.quiet 7 hu hi rfl
          ·
           intro D hn hd hcl hu hi
           refine TO.skip (gd_F rfl (dl_lookup (m := 4) hu rfl (hd 4 (by decide)))) (by decide) ?_
           exact TX.quiet 8 hu hi rfl
          ·
           intro D hn hd hcl hu hi
           refine TO.skip (gd_F rfl (dl_lookup (m := 4) hu rfl (hd 4 (by decide)))) (by decide) ?_
           exact TX.quiet 9 hu hi rfl
          refine TO.skip rfl (by decide) (TO.pick (b := true) rfl (by decide) rfl rfl (TO.nil (TX.next (TC.condT rfl (TC.seq (TC.region ?_))))))
          refine TO.store (k := 0) (l' := [.bool false]) sz_4 rfl rfl rfl rfl rfl (fun _ _ => rfl) rfl ?_
          refine TO.nil (TX.next (TC.ret (TX.thenRet (TX.blockRet ?_))))
          exact TX.roundRet k4 (show _ ∧ _ from ⟨rfl, h⟩) (Splits.of [0, 1, 2, 3, 4, 5, 6, 7, 8] (by as_aux_lemma => kernel_rfl) rfl)
         ·
          have h := condF hb9 h
          obtain ⟨q3, hq6, h⟩ := andE h
          refine TC.drawN 10 [(0, 74, .int .i64 k4), (1, 75, v2), (2, 76, .int .i64 (r3.length : Int)), (3, 77, .bool false), (4, 78, .bool false), (5, 79, .agg #[.int .i64 (x5.1 : Int), .int .i64 (x5.2 : Int)]), (6, 80, v2), (7, 81, .int .i64 k4), (8, 82, .pointer (some ⟨vblk v2, (k4 : Int).toNat * 2, none⟩)), (9, 83, .agg #[.int .i64 q3.From, .int .i64 q3.To])] mixed (by as_aux_lemma => kernel_rfl) (by as_aux_lemma => kernel_rfl) (by decide) (by rfl) (by as_aux_lemma => kernel_rfl) (by as_aux_lemma => kernel_rfl) (DrawPre.cons ?_ (DrawPre.cons ?_ (DrawPre.cons ?_ (DrawPre.cons ?_ (DrawPre.cons ?_ (DrawPre.cons ?_ (DrawPre.cons ?_ (DrawPre.cons ?_ (DrawPre.cons ?_ (DrawPre.cons ?_ DrawPre.nil)))))))))) ?_
          ·
           intro D hn hd hcl hu hi
           refine TO.load (k := 8) sc_3 rfl (by decide) (dl_old (by rfl) rfl) rfl rfl ?_
           exact TX.quiet 0 hu hi rfl
          ·
           intro D hn hd hcl hu hi
           refine TO.load (k := 3) sc_25 rfl (by decide) (dl_old (by rfl) rfl) rfl rfl ?_
           exact TX.quiet 1 hu hi rfl
          ·
           intro D hn hd hcl hu hi
           refine TO.lenVec (k := 4) rfl (by decide) (dl_lookup (m := 1) hu rfl (hd 1 (by decide))) rfl Try.underlying25 ?_
           exact TX.quiet 2 hu hi rfl
          ·
           intro D hn hd hcl hu hi
           refine TO.bin rfl (by decide) (dl_lookup (m := 0) hu rfl (hd 0 (by decide))) (dl_lookup (m := 2) hu rfl (hd 2 (by decide))) bin_geq (TO.rewH (show Value.bool (decide (((r3.length : Int) : Int) ≤ k4)) = Value.bool false from congrArg Value.bool hb9) ?_)
           exact TX.quiet 3 hu hi rfl
          ·
           intro D hn hd hcl hu hi
           refine TO.move rfl (by decide) (dl_lookup (m := 3) hu rfl (hd 3 (by decide))) ?_
           exact TX.quiet 4 hu hi rfl
          ·
           intro D hn hd hcl hu hi
           refine TO.loads (k := 9) (cs := [.int .i64 (x5.1 : Int), .int .i64 (x5.2 : Int)]) rw_34 (gd_T rfl (dl_lookup (m := 4) hu rfl (hd 4 (by decide)))) (by decide) (dl_old (by rfl) rfl) rfl rfl rfl ?_
           exact TX.quiet 5 hu hi rfl
          ·
           intro D hn hd hcl hu hi
           refine TO.load (k := 3) sc_25 (gd_T rfl (dl_lookup (m := 4) hu rfl (hd 4 (by decide)))) (by decide) (dl_old (by rfl) rfl) rfl rfl ?_
           exact TX.quiet 6 hu hi rfl
          ·
           intro D hn hd hcl hu hi
           refine TO.load (k := 8) sc_3 (gd_T rfl (dl_lookup (m := 4) hu rfl (hd 4 (by decide)))) (by decide) (dl_old (by rfl) rfl) rfl rfl ?_
           exact TX.quiet 7 hu hi rfl
          ·
           intro D hn hd hcl hu hi
           refine TO.indexVecI (k := 4) hq6 Try.underlying25 sz_34 (gd_T rfl (dl_lookup (m := 4) hu rfl (hd 4 (by decide)))) (by decide) (dl_lookup (m := 6) hu rfl (hd 6 (by decide))) (dl_lookup (m := 7) hu rfl (hd 7 (by decide))) rfl rfl ?_
           exact TX.quiet 8 hu hi rfl
          ·
           intro D hn hd hcl hu hi
           refine TO.loadsVec (i := (k4 : Int).toNat) (j := 0) (k := 4) (q := q3) (cs := [.int .i64 q3.From, .int .i64 q3.To]) rw_34 enc_Gapi_Span_len (gd_T rfl (dl_lookup (m := 4) hu rfl (hd 4 (by decide)))) (by decide) (dl_lookup (m := 8) hu rfl (hd 8 (by decide))) rfl (getO_get hq6) rfl rfl rfl ?_
           exact TX.quiet 9 hu hi rfl
          refine TO.bin rfl (by decide) rfl rfl (bin_neq_34 (⟨(x5.1 : Int), (x5.2 : Int)⟩ : Gapi_Span) q3) (TO.pick (b := false) rfl (by decide) rfl rfl (TO.nil (TX.next ?_)))
          refine TC.condB rfl (fun hb10 => ?_) (fun hb10 => ?_)
          ·
           have h := condT hb10 h
           refine TC.seq (TC.region ?_)
           refine TO.store (k := 0) (l' := [.bool false]) sz_4 rfl rfl rfl rfl rfl (fun _ _ => rfl) rfl ?_
           refine TO.nil (TX.next (TC.ret (TX.thenRet (TX.blockRet ?_))))
           exact TX.roundRet k4 (show _ ∧ _ from ⟨rfl, h⟩) (Splits.of [0, 1, 2, 3, 4, 5, 6, 7, 8] (by as_aux_lemma => kernel_rfl) rfl)
          ·
           have h := condF hb10 h
           refine TC.skip (TX.next (TC.region (TO.load (k := 8) sc_3 rfl (by decide) rfl rfl rfl ?_)))
           obtain ⟨hg6, h⟩ := grdE h
           refine TO.bin rfl (by decide) rfl rfl (bin_add (r := k4 + 1) (IntWalk.i64_in _ hg6)) ?_
           refine TO.store (k := 8) (l' := [.int .i64 (k4 + 1)]) sz_3 rfl rfl rfl rfl rfl (fun _ _ => rfl) rfl ?_
           refine TO.nil (TX.blockNormal ?_)
           exact TX.round (k4 + 1) (fun post2 e2 => by have e9 := snoc_post hxs4 e2; subst e9; subst hag4; exact h) (Splits.of [0, 1, 2, 3, 4, 5, 6, 7, 8] (by as_aux_lemma => kernel_rfl) rfl)
        ·
         rintro dm3 k4 hinv
         have h : d3 k4 = some r := hinv [] (List.append_nil _).symm
         subst hd3
         show TX _ _ _ _ _ _ _ [emp, emp, emp, emp, emp, emp, emp, cells b5 [.string s1] 9, emp, emp, star ((ds6 : List Nat).map mark), cells b1 [.bool false] 4, cells b2 [v1] 23, vec enc_Gapi_Token 36 3 v1 r2, cells b3 [v2] 25, vec enc_Gapi_Span 34 2 v2 r3, cells b4 [.string s1] 9, cells b6 [.func (.func 51) #[] #[.pointer (some ⟨b5, 0, none⟩)]] 31, cells b7 [.int .i64 n2] 3, cells b8 [.int .i64 k4] 3, mark dm3]
         refine TX.starCons (k := 20) (j := 10) rfl rfl (by decide) ?_
         show TX _ _ _ _ _ _ _ [emp, emp, emp, emp, emp, emp, emp, cells b5 [.string s1] 9, emp, emp, star ((dm3 :: ds6 : List Nat).map mark), cells b1 [.bool false] 4, cells b2 [v1] 23, vec enc_Gapi_Token 36 3 v1 r2, cells b3 [v2] 25, vec enc_Gapi_Span 34 2 v2 r3, cells b4 [.string s1] 9, cells b6 [.func (.func 51) #[] #[.pointer (some ⟨b5, 0, none⟩)]] 31, cells b7 [.int .i64 n2] 3, cells b8 [.int .i64 k4] 3, emp]
         refine TX.blockNormal ?_
         exact TX.meetD (k4, dm3 :: ds6) h rfl (Sbs.cons rfl (Sbs.cons rfl (Sbs.cons rfl (Sbs.cons rfl (Sbs.cons rfl (Sbs.cons rfl (Sbs.cons rfl (Sbs.cons rfl (Sbs.cons rfl (Sbs.nil)))))))))) (Splits.of [11, 12, 13, 14, 15, 16, 17, 7, 18, 19, 10] (by as_aux_lemma => kernel_rfl) rfl)
        ·
         rintro dm3 c pre x5 post g hxs hX
         obtain ⟨rfl, h⟩ := (show _ ∧ _ from hX)
         generalize g = k5 at *
         subst he4
         show TC _ _ _ _ _ _ _ _ _ [emp, emp, emp, emp, emp, emp, emp, cells b5 [.string s1] 9, emp, emp, star ((ds6 : List Nat).map mark), cells b1 [.bool false] 4, cells b2 [v1] 23, vec enc_Gapi_Token 36 3 v1 r2, cells b3 [v2] 25, vec enc_Gapi_Span 34 2 v2 r3, cells b4 [.string s1] 9, cells b6 [.func (.func 51) #[] #[.pointer (some ⟨b5, 0, none⟩)]] 31, cells b7 [.int .i64 n2] 3, cells b8 [.int .i64 k5] 3, mark dm3]
         refine TC.starCons (k := 20) (j := 10) rfl rfl (by decide) ?_
         show TC _ _ _ _ _ _ _ _ _ [emp, emp, emp, emp, emp, emp, emp, cells b5 [.string s1] 9, emp, emp, star ((dm3 :: ds6 : List Nat).map mark), cells b1 [.bool false] 4, cells b2 [v1] 23, vec enc_Gapi_Token 36 3 v1 r2, cells b3 [v2] 25, vec enc_Gapi_Span 34 2 v2 r3, cells b4 [.string s1] 9, cells b6 [.func (.func 51) #[] #[.pointer (some ⟨b5, 0, none⟩)]] 31, cells b7 [.int .i64 n2] 3, cells b8 [.int .i64 k5] 3, emp]
         refine TC.ret (TX.blockRet (TX.thenRet (TX.blockRet (TX.thenRet (TX.thenRet (TX.blockRet (TX.thenRet ?_)))))))
         cases h
         exact TX.finM (rs := [.cell 2 4]) (dm3 :: ds6) () (.inl rfl) (Splits.open0 (k := 10) rfl) Try.results3 (.cons (.cell sc_4 (k := 11) rfl rfl) .nil) rfl Splits.nil
       ·
        rintro ⟨k1, ds7⟩ h
        subst hj4
        show TC _ _ _ _ _ (marksOf ds7) _ _ [(0, .string s1), (2, .pointer (some ⟨b1, 0, none⟩)), (3, .pointer (some ⟨b2, 0, none⟩)), (4, .pointer (some ⟨b3, 0, none⟩)), (5, .func (.func 46) #[] #[.pointer (some ⟨b4, 0, none⟩)]), (6, .pointer (some ⟨b6, 0, none⟩)), (7, .int .i64 round3), (8, .pointer (some ⟨b7, 0, none⟩)), (9, .pointer (some ⟨b8, 0, none⟩))] [cells b1 [.bool false] 4, cells b2 [v1] 23, vec enc_Gapi_Token 36 3 v1 r2, cells b3 [v2] 25, vec enc_Gapi_Span 34 2 v2 r3, cells b4 [.string s1] 9, cells b6 [.func (.func 51) #[] #[.pointer (some ⟨b5, 0, none⟩)]] 31, cells b5 [.string s1] 9, cells b7 [.int .i64 n2] 3, cells b8 [.int .i64 k1] 3, star ((ds7 : List Nat).map mark)]
        refine TC.seq (TC.seq (TC.region (TO.load (k := 8) sc_3 rfl (by decide) rfl rfl rfl (TO.load (k := 1) sc_23 rfl (by decide) rfl rfl rfl (TO.lenVec (k := 2) rfl (by decide) rfl rfl Try.underlying23 (TO.bin rfl (by decide) rfl rfl bin_neq (TO.move rfl (by decide) rfl ?_)))))))
        refine TO.split (s := 92) rfl (fun hb11 => ?_) (fun hb11 => ?_)
        ·
         have h := condT hb11 h
         refine TO.skip rfl (by decide) (TO.skip rfl (by decide) (TO.skip rfl (by decide) (TO.skip rfl (by decide) (TO.pick (b := true) rfl (by decide) rfl rfl (TO.nil (TX.next (TC.condT rfl (TC.seq (TC.region ?_)))))))))
         refine TO.store (k := 0) (l' := [.bool false]) sz_4 rfl rfl rfl rfl rfl (fun _ _ => rfl) rfl ?_
         refine TO.nil (TX.next (TC.ret (TX.thenRet (TX.blockRet (TX.thenRet (TX.thenRet (TX.blockRet (TX.thenRet ?_))))))))
         cases h
         exact TX.finM (rs := [.cell 2 4]) ds7 () (.inl rfl) (Splits.open0 (k := 10) rfl) Try.results3 (.cons (.cell sc_4 (k := 0) rfl rfl) .nil) rfl Splits.nil
        ·
         have h := condF hb11 h
         refine TO.load (k := 9) sc_3 rfl (by decide) rfl rfl rfl (TO.load (k := 3) sc_25 rfl (by decide) rfl rfl rfl (TO.lenVec (k := 4) rfl (by decide) rfl rfl Try.underlying25 (TO.bin rfl (by decide) rfl rfl bin_neq (TO.pick (b := false) rfl (by decide) rfl rfl (TO.nil (TX.next ?_))))))
         refine TC.condB rfl (fun hb12 => ?_) (fun hb12 => ?_)
         ·
          have h := condT hb12 h
          refine TC.seq (TC.region ?_)
          refine TO.store (k := 0) (l' := [.bool false]) sz_4 rfl rfl rfl rfl rfl (fun _ _ => rfl) rfl ?_
          refine TO.nil (TX.next (TC.ret (TX.thenRet (TX.blockRet (TX.thenRet (TX.thenRet (TX.blockRet (TX.thenRet ?_))))))))
          cases h
          exact TX.finM (rs := [.cell 2 4]) ds7 () (.inl rfl) (Splits.open0 (k := 10) rfl) Try.results3 (.cons (.cell sc_4 (k := 0) rfl rfl) .nil) rfl Splits.nil
         ·
          have h := condF hb12 h
          refine TC.skip (TX.next (TC.seq (TC.region (TO.move rfl (by decide) rfl (TO.nil (TX.next (TC.block ?_)))))))
          obtain ⟨hg7, h⟩ := grdE h
          obtain ⟨e5, he5, h⟩ := joinE h
          obtain ⟨d4, hd4, h⟩ := joinE h
          refine TC.range (α := Tk) (β := Unit) (γ := Unit) (δ := Unit) (ps := [99]) Ro.nil rfl en_46 (scan1_itr s1 hg7 b4) (fun pre b => ∀ post, tksOf s1 = pre ++ post → rangeG d4 (law07_WordScans_s5 e5) post = some r) (fun pre b => [cells b1 [.bool false] 4, cells b2 [v1] 23, vec enc_Gapi_Token 36 3 v1 r2, cells b3 [v2] 25, vec enc_Gapi_Span 34 2 v2 r3, cells b6 [.func (.func 51) #[] #[.pointer (some ⟨b5, 0, none⟩)]] 31, cells b5 [.string s1] 9]) (fun c pre g => (fun g => c = .exit 8 ∧ e5 = some r) g) (fun c pre g => (fun g => [cells b1 [.bool false] 4, cells b2 [v1] 23, vec enc_Gapi_Token 36 3 v1 r2, cells b3 [v2] 25, vec enc_Gapi_Span 34 2 v2 r3, cells b6 [.func (.func 51) #[] #[.pointer (some ⟨b5, 0, none⟩)]] 31, cells b5 [.string s1] 9]) g) (fun pre x b j => [(0, .string s1), (2, .pointer (some ⟨b1, 0, none⟩)), (3, .pointer (some ⟨b2, 0, none⟩)), (4, .pointer (some ⟨b3, 0, none⟩)), (5, .func (.func 46) #[] #[.pointer (some ⟨b4, 0, none⟩)]), (6, .pointer (some ⟨b6, 0, none⟩)), (7, .int .i64 round3), (93, .int .i64 k1), (94, v2), (95, .int .i64 (r3.length : Int)), (96, .bool ((k1 : Int) != (r3.length : Int))), (98, .func (.func 46) #[] #[.pointer (some ⟨b4, 0, none⟩)])]) (fun pre x b j => [cells b1 [.bool false] 4, cells b2 [v1] 23, vec enc_Gapi_Token 36 3 v1 r2, cells b3 [v2] 25, vec enc_Gapi_Span 34 2 v2 r3, cells b6 [.func (.func 51) #[] #[.pointer (some ⟨b5, 0, none⟩)]] 31, cells b5 [.string s1] 9]) () (fun post e => by rw [List.nil_append] at e; subst e; exact h) (Splits.of [0, 1, 2, 3, 4, 6, 7] (by as_aux_lemma => kernel_rfl) rfl) ⟨.inl ⟨5, rfl⟩, trivial⟩ (fun _ => rfl) (by decide) ?_ ?_ ?_ ?_
          ·
           rintro lp rc pre x6 post _ w1 K1 hxs5 hext hro hinv
           refine TC.skip ?_
           exact fun a w ha hw => ⟨(), (Sbs.cons rfl (Sbs.cons rfl (Sbs.cons rfl (Sbs.cons rfl (Sbs.cons rfl (Sbs.cons rfl (Sbs.cons rfl (Sbs.cons rfl (Sbs.cons rfl (Sbs.cons rfl (Sbs.cons rfl (Sbs.cons rfl (Sbs.nil))))))))))))) _ _ _ ha, hw.weaken (Splits.of [0, 1, 2, 3, 4, 5, 6] (by as_aux_lemma => kernel_rfl) rfl)⟩
          ·
           rintro lp rc pre x6 post5 _ _ w1 K1 hxs5 hext hro hinv
           have h := hinv (x6 :: post5) hxs5
           obtain ⟨ag5, hag5⟩ : ∃ ag, ag = rangeG d4 (law07_WordScans_s5 e5) post5 := ⟨_, rfl⟩
           have h : law07_WordScans_s5 e5 x6 ag5 = some r := by rw [hag5]; exact h
           unfold law07_WordScans_s5 at h
           show TC _ _ _ _ _ _ _ _ [(0, .string s1), (2, .pointer (some ⟨b1, 0, none⟩)), (3, .pointer (some ⟨b2, 0, none⟩)), (4, .pointer (some ⟨b3, 0, none⟩)), (5, .func (.func 46) #[] #[.pointer (some ⟨b4, 0, none⟩)]), (6, .pointer (some ⟨b6, 0, none⟩)), (7, .int .i64 round3), (93, .int .i64 k1), (94, v2), (95, .int .i64 (r3.length : Int)), (96, .bool ((k1 : Int) != (r3.length : Int))), (98, .func (.func 46) #[] #[.pointer (some ⟨b4, 0, none⟩)])] [cells b1 [.bool false] 4, cells b2 [v1] 23, vec enc_Gapi_Token 36 3 v1 r2, cells b3 [v2] 25, vec enc_Gapi_Span 34 2 v2 r3, cells b6 [.func (.func 51) #[] #[.pointer (some ⟨b5, 0, none⟩)]] 31, cells b5 [.string s1] 9]
           refine TC.block (TC.exit (TX.blockOn (by decide) ?_))
           exact TX.roundExit () (show _ ∧ _ from ⟨rfl, h⟩) (Splits.of [0, 1, 2, 3, 4, 5, 6] (by as_aux_lemma => kernel_rfl) rfl)
          ·
           rintro dm4 _ hinv
           have h : d4 = some r := hinv [] (List.append_nil _).symm
           subst hd4
           show TX _ _ _ _ _ _ _ [emp, emp, emp, emp, emp, cells b4 [.string s1] 9, emp, emp, cells b7 [.int .i64 n2] 3, cells b8 [.int .i64 k1] 3, star ((ds7 : List Nat).map mark), cells b1 [.bool false] 4, cells b2 [v1] 23, vec enc_Gapi_Token 36 3 v1 r2, cells b3 [v2] 25, vec enc_Gapi_Span 34 2 v2 r3, cells b6 [.func (.func 51) #[] #[.pointer (some ⟨b5, 0, none⟩)]] 31, cells b5 [.string s1] 9, mark dm4]
           refine TX.starCons (k := 18) (j := 10) rfl rfl (by decide) ?_
           show TX _ _ _ _ _ _ _ [emp, emp, emp, emp, emp, cells b4 [.string s1] 9, emp, emp, cells b7 [.int .i64 n2] 3, cells b8 [.int .i64 k1] 3, star ((dm4 :: ds7 : List Nat).map mark), cells b1 [.bool false] 4, cells b2 [v1] 23, vec enc_Gapi_Token 36 3 v1 r2, cells b3 [v2] 25, vec enc_Gapi_Span 34 2 v2 r3, cells b6 [.func (.func 51) #[] #[.pointer (some ⟨b5, 0, none⟩)]] 31, cells b5 [.string s1] 9, emp]
           refine TX.blockNormal (TX.blockNormal ?_)
           exact TX.meetD (k1, (k1 : Int) != (r3.length : Int), dm4 :: ds7) h rfl (Sbs.cons rfl (Sbs.cons rfl (Sbs.cons rfl (Sbs.cons rfl (Sbs.cons rfl (Sbs.cons rfl (Sbs.cons rfl (Sbs.cons rfl (Sbs.cons rfl (Sbs.cons rfl (Sbs.cons rfl (Sbs.nil)))))))))))) (Splits.of [11, 12, 13, 14, 15, 5, 16, 17, 10] (by as_aux_lemma => kernel_rfl) rfl)
          ·
           rintro dm4 c pre x6 post g hxs hX
           obtain ⟨rfl, h⟩ := (show _ ∧ _ from hX)
           subst he5
           show TC _ _ _ _ _ _ _ _ _ [emp, emp, emp, emp, emp, cells b4 [.string s1] 9, emp, emp, cells b7 [.int .i64 n2] 3, cells b8 [.int .i64 k1] 3, star ((ds7 : List Nat).map mark), cells b1 [.bool false] 4, cells b2 [v1] 23, vec enc_Gapi_Token 36 3 v1 r2, cells b3 [v2] 25, vec enc_Gapi_Span 34 2 v2 r3, cells b6 [.func (.func 51) #[] #[.pointer (some ⟨b5, 0, none⟩)]] 31, cells b5 [.string s1] 9, mark dm4]
           refine TC.starCons (k := 18) (j := 10) rfl rfl (by decide) ?_
           show TC _ _ _ _ _ _ _ _ _ [emp, emp, emp, emp, emp, cells b4 [.string s1] 9, emp, emp, cells b7 [.int .i64 n2] 3, cells b8 [.int .i64 k1] 3, star ((dm4 :: ds7 : List Nat).map mark), cells b1 [.bool false] 4, cells b2 [v1] 23, vec enc_Gapi_Token 36 3 v1 r2, cells b3 [v2] 25, vec enc_Gapi_Span 34 2 v2 r3, cells b6 [.func (.func 51) #[] #[.pointer (some ⟨b5, 0, none⟩)]] 31, cells b5 [.string s1] 9, emp]
           refine TC.exit (TX.blockHere (TX.blockNormal ?_))
           exact TX.meetD (k1, (k1 : Int) != (r3.length : Int), dm4 :: ds7) h rfl (Sbs.cons rfl (Sbs.cons rfl (Sbs.cons rfl (Sbs.cons rfl (Sbs.cons rfl (Sbs.cons rfl (Sbs.cons rfl (Sbs.cons rfl (Sbs.cons rfl (Sbs.cons rfl (Sbs.cons rfl (Sbs.nil)))))))))))) (Splits.of [11, 12, 13, 14, 15, 5, 16, 17, 10] (by as_aux_lemma => kernel_rfl) rfl)
     ·
      rintro ⟨x1, x2, ds5⟩ h
      subst hj2
      show TC _ _ _ _ _ (marksOf ds5) _ _ [(0, .string s1), (2, .pointer (some ⟨b1, 0, none⟩)), (3, .pointer (some ⟨b2, 0, none⟩)), (4, .pointer (some ⟨b3, 0, none⟩)), (5, .func (.func 46) #[] #[.pointer (some ⟨b4, 0, none⟩)]), (6, .pointer (some ⟨b6, 0, none⟩)), (7, .int .i64 round3), (93, .int .i64 x1), (94, v2), (95, .int .i64 (r3.length : Int)), (96, .bool x2)] [cells b1 [.bool false] 4, cells b2 [v1] 23, vec enc_Gapi_Token 36 3 v1 r2, cells b3 [v2] 25, vec enc_Gapi_Span 34 2 v2 r3, cells b4 [.string s1] 9, cells b6 [.func (.func 51) #[] #[.pointer (some ⟨b5, 0, none⟩)]] 31, cells b5 [.string s1] 9, star ((ds5 : List Nat).map mark)]
      refine TC.region (TO.move rfl (by decide) rfl ?_)
      obtain ⟨hg8, h⟩ := grdE h
      refine TO.bin rfl (by decide) rfl rfl (bin_add (r := round3 + 1) (IntWalk.i64_in _ hg8)) (TO.assign rfl (by decide) rfl (TO.nil ?_))
      subst hag1
      exact TX.againD (n1, round3 + 1, ds5) h (Nat.lt_succ_self _) rfl (Sbs.cons rfl (Sbs.cons rfl (Sbs.cons rfl (Sbs.cons rfl (Sbs.cons rfl (Sbs.cons rfl (Sbs.cons rfl (Sbs.nil)))))))) (Splits.of [0, 1, 2, 3, 4, 5, 6, 7, 8] (by as_aux_lemma => kernel_rfl) rfl)
    ·
     have h := condF hb2 h
     refine TC.exit (TX.thenExit (TX.thenExit (TX.blockHere ?_)))
     exact TX.meetD ds4 h rfl (Sbs.cons rfl (Sbs.cons rfl (Sbs.cons rfl (Sbs.cons rfl (Sbs.nil))))) (Splits.of [0, 1, 2, 3, 4, 8] (by as_aux_lemma => kernel_rfl) rfl)
  ·
   rintro ds1 h
   subst hj1
   show TC _ _ _ _ _ (marksOf ds1) _ _ [(0, .string s1), (2, .pointer (some ⟨b1, 0, none⟩)), (3, .pointer (some ⟨b2, 0, none⟩)), (4, .pointer (some ⟨b3, 0, none⟩))] [cells b1 [.bool false] 4, cells b2 [v1] 23, vec enc_Gapi_Token 36 3 v1 r2, cells b3 [v2] 25, vec enc_Gapi_Span 34 2 v2 r3, star ((ds1 : List Nat).map mark)]
   refine TC.seq (TC.region (TO.move rfl (by decide) rfl ?_))
   obtain ⟨hg9, h⟩ := grdE h
   refine TO.callP (v := .tuple #[.int .i64 ((tksOf s1).length : Int), .int .i64 ((wsOf s1).length : Int)]) (vs := [.string s1]) rfl (by decide) rfl rfl rfl en_17 (wcount_c s1 hg9) (TO.move rfl (by decide) rfl (TO.extract rfl (by decide) rfl rfl (TO.extract rfl (by decide) rfl rfl (TO.assign rfl (by decide) rfl (TO.assign rfl (by decide) rfl (TO.nil (TX.next (TC.seq (TC.region (TO.move rfl (by decide) rfl (TO.load (k := 1) sc_23 rfl (by decide) rfl rfl rfl (TO.lenVec (k := 2) rfl (by decide) rfl rfl Try.underlying23 (TO.bin rfl (by decide) rfl rfl bin_eql ?_)))))))))))))
   refine TO.move rfl (by decide) rfl ?_
   refine TO.split (s := 109) rfl (fun hb13 => ?_) (fun hb13 => ?_)
   ·
    have h := condT hb13 h
    refine TO.move rfl (by decide) rfl (TO.load (k := 3) sc_25 rfl (by decide) rfl rfl rfl (TO.lenVec (k := 4) rfl (by decide) rfl rfl Try.underlying25 (TO.bin rfl (by decide) rfl rfl bin_eql (TO.pick (b := true) rfl (by decide) rfl rfl (TO.move rfl (by decide) rfl ?_)))))
    refine TO.split (s := 115) rfl (fun hb14 => ?_) (fun hb14 => ?_)
    ·
     have h := condT hb14 h
     obtain ⟨r4, hq7, h⟩ := andE h
     refine TO.callP (v := .bool r4) (vs := []) rfl (by decide) rfl rfl rfl en_12 (law07_wakes_fn hq7) (TO.pick (b := true) rfl (by decide) rfl rfl ?_)
     refine TO.store (k := 0) (l' := [.bool r4]) sz_4 rfl rfl rfl rfl rfl (fun _ _ => rfl) rfl ?_
     refine TO.nil (TX.next (TC.ret ?_))
     cases h
     exact TX.finM (rs := [.cell 2 4]) ds1 () (.inl rfl) (Splits.open0 (k := 5) rfl) Try.results3 (.cons (.cell sc_4 (k := 0) rfl rfl) .nil) rfl Splits.nil
    ·
     have h := condF hb14 h
     refine TO.skip rfl (by decide) (TO.pick (b := false) rfl (by decide) rfl rfl ?_)
     refine TO.store (k := 0) (l' := [.bool false]) sz_4 rfl rfl rfl rfl rfl (fun _ _ => rfl) rfl ?_
     refine TO.nil (TX.next (TC.ret ?_))
     cases h
     exact TX.finM (rs := [.cell 2 4]) ds1 () (.inl rfl) (Splits.open0 (k := 5) rfl) Try.results3 (.cons (.cell sc_4 (k := 0) rfl rfl) .nil) rfl Splits.nil
   ·
    have h := condF hb13 h
    refine TO.skip rfl (by decide) (TO.skip rfl (by decide) (TO.skip rfl (by decide) (TO.skip rfl (by decide) (TO.pick (b := false) rfl (by decide) rfl rfl (TO.move rfl (by decide) rfl (TO.skip rfl (by decide) (TO.pick (b := false) rfl (by decide) rfl rfl ?_)))))))
    refine TO.store (k := 0) (l' := [.bool false]) sz_4 rfl rfl rfl rfl rfl (fun _ _ => rfl) rfl ?_
    refine TO.nil (TX.next (TC.ret ?_))
    cases h
    exact TX.finM (rs := [.cell 2 4]) ds1 () (.inl rfl) (Splits.open0 (k := 5) rfl) Try.results3 (.cons (.cell sc_4 (k := 0) rfl rfl) .nil) rfl Splits.nil
end Go.Proofs.Ytgeefojgkbglnaa
namespace Go.Proofs.Ytgeefojgkbglnaa
open Go.RowKit Go.Lib
set_option linter.unusedVariables false
set_option linter.unusedSimpArgs false
section
variable {R α : Type}
theorem range_idx (xs : List α) {K : Int → Option R} {step : α → (Int → Option R) → Int → Option R} (hs : ∀ (ag : Int → Option R) (k : Nat) (x : α), xs[k]? = some x → step x ag (k : Int) = ag ((k + 1 : Nat) : Int)) : rangeG K step xs 0 = K (xs.length : Int) := by
  have key : ∀ (post pre : List α), xs = pre ++ post → rangeG K step post (pre.length : Int) = K (xs.length : Int) := by
    intro post
    induction post with
    | nil => intro pre h; rw [h]; simp [rangeG]
    | cons x post ih =>
      intro pre h
      rw [rangeG_cons, hs _ pre.length x (by rw [h]; simp)]
      have := ih (pre ++ [x]) (by rw [h]; simp)
      rw [List.length_append] at this
      exact this
  exact key xs [] rfl
/-- All ways out lead to the same. -/
theorem range_same (xs : List α) {X : Option R} {K : Int → Option R} {step : α → (Int → Option R) → Int → Option R} (hK : K (xs.length : Int) = X) (hs : ∀ (ag : Int → Option R) (k : Nat) (x : α), xs[k]? = some x → ag ((k + 1 : Nat) : Int) = X → step x ag (k : Int) = X) : rangeG K step xs 0 = X := by
  have key : ∀ (post pre : List α), xs = pre ++ post → rangeG K step post (pre.length : Int) = X := by
    intro post
    induction post with
    | nil => intro pre h; rw [h] at hK; simp [rangeG] at hK ⊢; exact hK
    | cons x post ih =>
      intro pre h
      rw [rangeG_cons]
      refine hs _ pre.length x (by rw [h]; simp) ?_
      have := ih (pre ++ [x]) (by rw [h]; simp)
      rw [List.length_append] at this
      exact this
  exact key xs [] rfl
end
theorem scans_words (s : ByteArray) (hs : s.size ≤ 1000000000) (k : Nat) (x : Nat × Nat) (hx : (wsOf s)[k]? = some x) (e2 e3 : Int → Option Bool) (X : Option Bool) (h3 : ∀ i, e3 i = X) (ag : Int → Option Bool) (h : ag ((k + 1 : Nat) : Int) = X) : law07_WordScans_s3 ((wsOf s).map spG) e2 e3 x ag (k : Int) = X := by
  have hl := ws_len s
  have hk := (List.getElem?_eq_some_iff.1 hx).1
  unfold law07_WordScans_s3
  refine condFI (decide_eq_false (by simp; omega)) (thenI (getO_map hx) (condFI (eqr_span _) (grdI ⟨by omega, by omega⟩ ?_)))
  by_cases h2 : (k : Int) + 1 = 2
  · exact condTI (beq_iff_eq.2 h2) (h3 _)
  · exact condFI (beq_eq_false_iff_ne.2 h2) h
theorem scans_tok (s : ByteArray) (hs : s.size ≤ 1000000000) (k : Nat) (x : Tk) (hx : (tksOf s)[k]? = some x) (e1 : Int → Option Bool) (ag : Int → Option Bool) : law07_WordScans_s2 s ((tksOf s).map tkG) ((wsOf s).map spG) e1 x ag (k : Int) = ag ((k + 1 : Nat) : Int) := by
  have hl := tks_len s
  have hk := (List.getElem?_eq_some_iff.1 hx).1
  unfold law07_WordScans_s2
  refine condFI (decide_eq_false (by simp; omega)) (thenI (getO_map hx) (condFI (eqr_tok _) (grdI ⟨by omega, by omega⟩ ?_)))
  by_cases h2 : (k : Int) + 1 = 2
  · refine condTI (beq_iff_eq.2 h2) (grdI (by omega) (joinI (joinI (joinI ?_))))
    exact range_same (wsOf s) rfl fun ag2 j y hy h => scans_words s hs j y hy _ _ _ (fun _ => rfl) ag2 h
  · exact condFI (beq_eq_false_iff_ne.2 h2) rfl
theorem scans_w2 (s : ByteArray) (hs : s.size ≤ 1000000000) (k : Nat) (x : Nat × Nat) (hx : (wsOf s)[k]? = some x) (e4 : Int → Option Bool) (ag : Int → Option Bool) : law07_WordScans_s4 ((wsOf s).map spG) e4 x ag (k : Int) = ag ((k + 1 : Nat) : Int) := by
  have hl := ws_len s
  have hk := (List.getElem?_eq_some_iff.1 hx).1
  unfold law07_WordScans_s4
  exact condFI (decide_eq_false (by simp; omega)) (thenI (getO_map hx) (condFI (eqr_span _) (grdI ⟨by omega, by omega⟩ rfl)))
theorem scans_any (l : List Tk) (X : Option Bool) : rangeG X (law07_WordScans_s5 X) l = X := by
  cases l <;> rfl
theorem scans_round (s : ByteArray) (hs : s.size ≤ 1000000000) (k : Nat) (hk : k < 2) (J : Option Bool) (ag : Int → Option Bool) : law07_WordScans_s1 s ((tksOf s).map tkG) ((wsOf s).map spG) J ag (k : Int) = ag ((k + 1 : Nat) : Int) := by
  unfold law07_WordScans_s1
  refine condTI (decide_eq_true (by omega)) (joinI (joinI (grdI (by omega) (joinI (joinI ?_)))))
  refine (range_idx (tksOf s) fun ag k x hx => scans_tok s hs k x hx _ ag).trans ?_
  refine joinI (grdI (by omega) (joinI (joinI ?_)))
  refine (range_idx (wsOf s) fun ag k x hx => scans_w2 s hs k x hx _ ag).trans ?_
  refine condFI (bne_same (by simp)) (condFI (bne_same (by simp)) (grdI (by omega) (joinI (joinI ?_))))
  exact (scans_any _ _).trans (grdI ⟨by omega, by omega⟩ rfl)
theorem scans_law (s : ByteArray) (hs : s.size ≤ 1000000000) : law07_WordScans_v s = some true := by
  unfold law07_WordScans_v
  refine thenI wakes_v (condFI rfl (thenI (toks_v s hs) (thenI (words_v s hs) (joinI ?_))))
  refine loop_to0 2 (fun ag k hk => scans_round s hs k hk _ ag) (fun ag => ?_) (by unfold fuel; omega)
  unfold law07_WordScans_s1
  refine condFI rfl (grdI (by omega) (condTI (beq_iff_eq.2 (by simp)) (condTI (beq_iff_eq.2 (by simp)) wakesK)))
theorem wordScans_any (s : ByteArray) (w : World) (h0 : s.size ≤ 1048576) : Calls Try.prog 3 #[.string s] w fun e w' => e = .returned (.bool true) ∧ Below w.heap.size w w' := law07_WordScans_fn (scans_law s (by omega)) w
end Go.Proofs.Ytgeefojgkbglnaa
