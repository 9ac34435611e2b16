/-
  Texts laid together: LqP, LqQ, PqA, PqB, LqS. Nothing is assumed.
-/
import Derived.Test.YtgfkogafkhbgnaaDoorPoemCut2
namespace Go.Proofs.YtgfkogafkhbgnaaDoor
open Go.RowKit Go.Lib
set_option linter.unusedVariables false
set_option linter.unusedSimpArgs false
def place_New_s1 (s1 : ByteArray) (j1 : (List Gapi_Place) → (List Gplace_ended) → Int → Int → Int → Int → Int → Int → Int → Option ((Option Gplace_Map) × Int)) (ag1 : (List Gapi_Place) → (List Gplace_ended) → Int → Int → Int → Int → Int → Int → Int → Nat → Option ((Option Gplace_Map) × Int)) (m10 : List Gapi_Place) (m11 : List Gplace_ended) (p16 : Int) (p17 : Int) (p18 : Int) (p19 : Int) (p20 : Int) (line7 : Int) (line8 : Int) (m12 : Nat) : Option ((Option Gplace_Map) × Int) := bcond (decide (m12 < (pcs s1.data.toList).length)) ( andThen ((pcs s1.data.toList)[m12]?) fun (p21 : Pc) => joinK (fun (j2 : Int → Option ((Option Gplace_Map) × Int)) => grd (m10.length + 1 ≤ 2147483648) <| grd (I64 (p17 + 1)) <| grd (I64 (p18 + 1)) <| grd (I64 (p20 + 1)) <| bcond (decide ((65536 : Int) ≤ (p21.r : Int))) ( grd (I64 ((p18 + 1) + 1)) <| j2 ((p18 + 1) + 1)
) ( j2 (p18 + 1)
)
) (fun (p22 : Int) => joinK (fun (j3 : Int → Option ((Option Gplace_Map) × Int)) => bcond (((p21.r : Int) : Int) == 13) ( grd (I64 ((p21.i : Int) + 1)) <| bcond (decide ((((p21.i : Int) + 1) : Int) < (s1.size : Int))) ( grd (I64 ((p21.i : Int) + 1)) <| andThen (getB s1 ((p21.i : Int) + 1)) fun (c1 : Int) => bcond ((c1 : Int) == 10) ( ag1 (m10 ++ [(⟨(p21.i : Int), p17, p18, p19, p20⟩ : Gapi_Place)]) m11 (p21.i : Int) (p17 + 1) p22 p19 (p20 + 1) line7 line8 (m12 + 1)
) ( bcond (((p21.r : Int) : Int) == 10) ( bcond (decide ((0 : Int) < (p21.i : Int))) ( grd (I64 ((p21.i : Int) - 1)) <| andThen (getB s1 ((p21.i : Int) - 1)) fun (c2 : Int) => bcond ((c2 : Int) == 13) ( j3 2
) ( bcond (((p21.r : Int) : Int) != 13) ( bcond (((p21.r : Int) : Int) != 10) ( ag1 (m10 ++ [(⟨(p21.i : Int), p17, p18, p19, p20⟩ : Gapi_Place)]) m11 (p21.i : Int) (p17 + 1) p22 p19 (p20 + 1) line7 line8 (m12 + 1)
) ( j3 1
)
) ( j3 1
)
)
) ( bcond (((p21.r : Int) : Int) != 13) ( bcond (((p21.r : Int) : Int) != 10) ( ag1 (m10 ++ [(⟨(p21.i : Int), p17, p18, p19, p20⟩ : Gapi_Place)]) m11 (p21.i : Int) (p17 + 1) p22 p19 (p20 + 1) line7 line8 (m12 + 1)
) ( j3 1
)
) ( j3 1
)
)
) ( bcond (((p21.r : Int) : Int) != 13) ( bcond (((p21.r : Int) : Int) != 10) ( ag1 (m10 ++ [(⟨(p21.i : Int), p17, p18, p19, p20⟩ : Gapi_Place)]) m11 (p21.i : Int) (p17 + 1) p22 p19 (p20 + 1) line7 line8 (m12 + 1)
) ( j3 1
)
) ( j3 1
)
)
)
) ( bcond (((p21.r : Int) : Int) == 10) ( bcond (decide ((0 : Int) < (p21.i : Int))) ( grd (I64 ((p21.i : Int) - 1)) <| andThen (getB s1 ((p21.i : Int) - 1)) fun (c3 : Int) => bcond ((c3 : Int) == 13) ( j3 2
) ( bcond (((p21.r : Int) : Int) != 13) ( bcond (((p21.r : Int) : Int) != 10) ( ag1 (m10 ++ [(⟨(p21.i : Int), p17, p18, p19, p20⟩ : Gapi_Place)]) m11 (p21.i : Int) (p17 + 1) p22 p19 (p20 + 1) line7 line8 (m12 + 1)
) ( j3 1
)
) ( j3 1
)
)
) ( bcond (((p21.r : Int) : Int) != 13) ( bcond (((p21.r : Int) : Int) != 10) ( ag1 (m10 ++ [(⟨(p21.i : Int), p17, p18, p19, p20⟩ : Gapi_Place)]) m11 (p21.i : Int) (p17 + 1) p22 p19 (p20 + 1) line7 line8 (m12 + 1)
) ( j3 1
)
) ( j3 1
)
)
) ( bcond (((p21.r : Int) : Int) != 13) ( bcond (((p21.r : Int) : Int) != 10) ( ag1 (m10 ++ [(⟨(p21.i : Int), p17, p18, p19, p20⟩ : Gapi_Place)]) m11 (p21.i : Int) (p17 + 1) p22 p19 (p20 + 1) line7 line8 (m12 + 1)
) ( j3 1
)
) ( j3 1
)
)
)
) ( bcond (((p21.r : Int) : Int) == 10) ( bcond (decide ((0 : Int) < (p21.i : Int))) ( grd (I64 ((p21.i : Int) - 1)) <| andThen (getB s1 ((p21.i : Int) - 1)) fun (c4 : Int) => bcond ((c4 : Int) == 13) ( j3 2
) ( bcond (((p21.r : Int) : Int) != 13) ( bcond (((p21.r : Int) : Int) != 10) ( ag1 (m10 ++ [(⟨(p21.i : Int), p17, p18, p19, p20⟩ : Gapi_Place)]) m11 (p21.i : Int) (p17 + 1) p22 p19 (p20 + 1) line7 line8 (m12 + 1)
) ( j3 1
)
) ( j3 1
)
)
) ( bcond (((p21.r : Int) : Int) != 13) ( bcond (((p21.r : Int) : Int) != 10) ( ag1 (m10 ++ [(⟨(p21.i : Int), p17, p18, p19, p20⟩ : Gapi_Place)]) m11 (p21.i : Int) (p17 + 1) p22 p19 (p20 + 1) line7 line8 (m12 + 1)
) ( j3 1
)
) ( j3 1
)
)
) ( bcond (((p21.r : Int) : Int) != 13) ( bcond (((p21.r : Int) : Int) != 10) ( ag1 (m10 ++ [(⟨(p21.i : Int), p17, p18, p19, p20⟩ : Gapi_Place)]) m11 (p21.i : Int) (p17 + 1) p22 p19 (p20 + 1) line7 line8 (m12 + 1)
) ( j3 1
)
) ( j3 1
)
)
)
) (fun (width1 : Int) => grd (I64 ((p21.i : Int) + 1)) <| grd (I64 (((p21.i : Int) + 1) - width1)) <| grd (m11.length + 1 ≤ 2147483648) <| grd (I64 ((p21.i : Int) + 1)) <| grd (I64 (p19 + 1)) <| ag1 (m10 ++ [(⟨(p21.i : Int), p17, p18, p19, p20⟩ : Gapi_Place)]) (m11 ++ [(⟨line7, ((p21.i : Int) + 1) - width1, width1, line8⟩ : Gplace_ended)]) (p21.i : Int) (p17 + 1) p22 (p19 + 1) 0 ((p21.i : Int) + 1) ((m10 ++ [(⟨(p21.i : Int), p17, p18, p19, p20⟩ : Gapi_Place)]).length : Int) (m12 + 1)
)
)
) ( j1 m10 m11 p16 p17 p18 p19 p20 line7 line8
)
def place_New_v (s1 : ByteArray) : Option ((Option Gplace_Map) × Int) := bcond (decide ((65536 : Int) < (s1.size : Int))) ( some (none, 3)
) ( joinK (fun (j1 : (List Gapi_Place) → (List Gplace_ended) → Int → Int → Int → Int → Int → Int → Int → Option ((Option Gplace_Map) × Int)) => loopG (fun _ _ _ _ _ _ _ _ _ _ => none) (place_New_s1 s1 j1) fuel ([] : List Gapi_Place) ([] : List Gplace_ended) 0 0 0 0 0 0 0 0
) (fun (m1 : List Gapi_Place) (m2 : List Gplace_ended) (p1 : Int) (p2 : Int) (p3 : Int) (p4 : Int) (p5 : Int) (line1 : Int) (line2 : Int) => grd (m1.length + 1 ≤ 2147483648) <| grd (m2.length + 1 ≤ 2147483648) <| some ((some (⟨s1, m1 ++ [(⟨(s1.size : Int), p2, p3, p4, p5⟩ : Gapi_Place)], m2 ++ [(⟨line1, (s1.size : Int), 0, line2⟩ : Gplace_ended)]⟩ : Gplace_Map)), 0)
)
)
set_option maxRecDepth 100000 in
set_option maxHeartbeats 4000000 in
theorem place_New_fn {s1 : ByteArray} {r : ((Option Gplace_Map) × Int)} (h : place_New_v s1 = some r) : Fn Tryd.prog 45 [.string s1] [] (fun v0 : Value => .tuple #[v0, .int .i64 r.2]) (fun v0 => [pobj encN_Gplace_Map nest_Gplace_Map 128 v0 r.1]) := by
 unfold place_New_v at h
 refine Fn.intro Tryd.func45 rfl Tryd.ntmps45 (by simp) ?_
 intro w0 K
 refine TC.seq (TC.region (TO.assign rfl dc rfl (TO.assign rfl dc rfl (TO.nil (TX.next ?_)))))
 refine TC.scope (β := Unit) (l := 0) (fun _ => False) (fun _ => []) (fun _ => []) rfl ?_ ?_
 ·
  refine TC.seq (TC.seq (TC.region (TO.move rfl dc rfl (TO.lenStr rfl dc rfl Tryd.underlying9 (TO.bin rfl dc rfl rfl bin_gtr (TO.nil (TX.next ?_)))))))
  refine TC.condB rfl (fun hb1 => ?_) (fun hb1 => ?_)
  ·
   have h := condT hb1 h
   refine TC.seq (TC.region (TO.assign rfl dc rfl (TO.assign rfl dc rfl (TO.nil (TX.next (TC.ret (TX.thenRet (TX.jumpOn (by simp) (TX.newObj encN_Gplace_Map nest_Gplace_Map 128 ?_)))))))))
   show TX _ _ _ _ _ _ _ [pobj encN_Gplace_Map nest_Gplace_Map 128 (.pointer none) none]
   cases h
   exact TX.fin (rs := [.tmp 2, .tmp 3]) (.pointer none) (.inl rfl) Tryd.results45 (.cons (.tmp rfl) (.cons (.tmp rfl) .nil)) rfl (Splits.of [0] kr rfl)
  ·
   have h := condF hb1 h
   refine TC.skip (TX.next ?_)
   obtain ⟨j1, hj1, h⟩ := joinE h
   refine TC.cutN (β := (List Gapi_Place) × (List Gplace_ended) × Int × Int × Int × Int × Int × Int × Int × Nat × Hd × Hd × Nat × Nat) 4 rfl (fun b => j1 b.1 b.2.1 b.2.2.1 b.2.2.2.1 b.2.2.2.2.1 b.2.2.2.2.2.1 b.2.2.2.2.2.2.1 b.2.2.2.2.2.2.2.1 b.2.2.2.2.2.2.2.2.1 = some r) (fun b => []) (fun b => [(0, .string s1), (4, .pointer (some ⟨b.2.2.2.2.2.2.2.2.2.1, 0, none⟩)), (5, .pointer (some ⟨b.2.2.2.2.2.2.2.2.2.2.2.2.1, 0, none⟩)), (6, .pointer (some ⟨b.2.2.2.2.2.2.2.2.2.2.2.2.2, 0, none⟩))]) (fun b => [cells b.2.2.2.2.2.2.2.2.2.1 [.string s1, b.2.2.2.2.2.2.2.2.2.2.1.v, b.2.2.2.2.2.2.2.2.2.2.2.1.v] 128, vec enc_Gapi_Place 130 5 b.2.2.2.2.2.2.2.2.2.2.1.v b.1, vec enc_Gplace_ended 132 4 b.2.2.2.2.2.2.2.2.2.2.2.1.v b.2.1, cells b.2.2.2.2.2.2.2.2.2.2.2.2.1 [.int .i64 b.2.2.1, .int .i64 b.2.2.2.1, .int .i64 b.2.2.2.2.1, .int .i64 b.2.2.2.2.2.1, .int .i64 b.2.2.2.2.2.2.1] 130, cells b.2.2.2.2.2.2.2.2.2.2.2.2.2 [.int .i64 b.2.2.2.2.2.2.2.1, .int .i64 0, .int .i64 0, .int .i64 b.2.2.2.2.2.2.2.2.1] 132]) (fun cut => ?_) ?_
   ·
    refine TC.seq (TC.region (TO.move rfl dc rfl ?_))
    refine TO.build (v := .agg #[.string s1, .slice none 0 0, .slice none 0 0]) (ps := [(0, .tmp 13)]) rfl dc rfl (fun _ => by kernel_rfl) ?_
    refine TO.box rfl dc rfl (fun b4 => ?_)
    refine TO.assign rfl dc rfl (TO.nil (TX.next (TC.seq (TC.region ?_))))
    refine TO.build (v := .agg #[.int .i64 0, .int .i64 0, .int .i64 0, .int .i64 0, .int .i64 0]) (ps := []) rfl dc rfl (fun _ => by kernel_rfl) ?_
    refine TO.alloc zr_130 rfl dc (fun b5 => ?_)
    show TO _ _ _ _ _ _ _ _ _ _ [cells b4 [.string s1, .slice none 0 0, .slice none 0 0] 128, cells b5 [.int .i64 0, .int .i64 0, .int .i64 0, .int .i64 0, .int .i64 0] 130]
    refine TO.stores (k := 1) (vs := [.int .i64 0, .int .i64 0, .int .i64 0, .int .i64 0, .int .i64 0]) (l' := [.int .i64 0, .int .i64 0, .int .i64 0, .int .i64 0, .int .i64 0]) sz_130 rfl rfl rfl rfl rfl (show _ ≤ _ by simp) rfl rfl (TO.nil (TX.next (TC.seq (TC.region ?_))))
    refine TO.build (v := .agg #[.int .i64 0, .int .i64 0, .int .i64 0, .int .i64 0]) (ps := []) rfl dc rfl (fun _ => by kernel_rfl) ?_
    refine TO.alloc zr_132 rfl dc (fun b6 => ?_)
    show TO _ _ _ _ _ _ _ _ _ _ [cells b4 [.string s1, .slice none 0 0, .slice none 0 0] 128, cells b5 [.int .i64 0, .int .i64 0, .int .i64 0, .int .i64 0, .int .i64 0] 130, cells b6 [.int .i64 0, .int .i64 0, .int .i64 0, .int .i64 0] 132]
    refine TO.stores (k := 2) (vs := [.int .i64 0, .int .i64 0, .int .i64 0, .int .i64 0]) (l' := [.int .i64 0, .int .i64 0, .int .i64 0, .int .i64 0]) sz_132 rfl rfl rfl rfl rfl (show _ ≤ _ by simp) rfl rfl (TO.nil (TX.next (TC.seq (TC.label (TX.next (cut (TC.seq (TC.region (TO.move rfl dc rfl ?_)))))))))
    refine TO.rangeStr Tryd.underlying9 rfl dc rfl (fun b7 => ?_)
    show TO _ _ _ _ _ _ _ _ _ _ [cells b4 [.string s1, .slice none 0 0, .slice none 0 0] 128, cells b5 [.int .i64 0, .int .i64 0, .int .i64 0, .int .i64 0, .int .i64 0] 130, cells b6 [.int .i64 0, .int .i64 0, .int .i64 0, .int .i64 0] 132, obj b7 (.stringIter s1 (posAt s1 0))]
    refine TO.nil (TX.next (TC.block (TC.newVec (enc := enc_Gapi_Place) (e := 130) (size := 5) ?_)))
    show TC _ _ _ _ _ _ _ _ _ [cells b4 [.string s1, .slice none 0 0, .slice none 0 0] 128, cells b5 [.int .i64 0, .int .i64 0, .int .i64 0, .int .i64 0, .int .i64 0] 130, cells b6 [.int .i64 0, .int .i64 0, .int .i64 0, .int .i64 0] 132, obj b7 (.stringIter s1 (posAt s1 0)), vec enc_Gapi_Place 130 5 (.slice none 0 0) ([] : List Gapi_Place)]
    refine TC.newVec (enc := enc_Gplace_ended) (e := 132) (size := 4) ?_
    show TC _ _ _ _ _ _ _ _ _ [cells b4 [.string s1, (.slice none 0 0), .slice none 0 0] 128, cells b5 [.int .i64 0, .int .i64 0, .int .i64 0, .int .i64 0, .int .i64 0] 130, cells b6 [.int .i64 0, .int .i64 0, .int .i64 0, .int .i64 0] 132, obj b7 (.stringIter s1 (posAt s1 0)), vec enc_Gapi_Place 130 5 (.slice none 0 0) ([] : List Gapi_Place), vec enc_Gplace_ended 132 4 (.slice none 0 0) ([] : List Gplace_ended)]
    refine TC.loopD (β := Nat × (List Gapi_Place) × (List Gplace_ended) × Int × Int × Int × Int × Int × Int × Int × Nat × Hd × Hd) (fun b => loopG (fun _ _ _ _ _ _ _ _ _ _ => none) (place_New_s1 s1 j1) b.1 b.2.1 b.2.2.1 b.2.2.2.1 b.2.2.2.2.1 b.2.2.2.2.2.1 b.2.2.2.2.2.2.1 b.2.2.2.2.2.2.2.1 b.2.2.2.2.2.2.2.2.1 b.2.2.2.2.2.2.2.2.2.1 b.2.2.2.2.2.2.2.2.2.2.1 = some r) (fun b => []) (fun b => [(0, .string s1), (4, .pointer (some ⟨b4, 0, none⟩)), (5, .pointer (some ⟨b5, 0, none⟩)), (6, .pointer (some ⟨b6, 0, none⟩)), (19, .pointer (some ⟨b7, 0, none⟩))]) (fun b => [cells b4 [.string s1, b.2.2.2.2.2.2.2.2.2.2.2.1.v, b.2.2.2.2.2.2.2.2.2.2.2.2.v] 128, vec enc_Gapi_Place 130 5 b.2.2.2.2.2.2.2.2.2.2.2.1.v b.2.1, vec enc_Gplace_ended 132 4 b.2.2.2.2.2.2.2.2.2.2.2.2.v b.2.2.1, cells b5 [.int .i64 b.2.2.2.1, .int .i64 b.2.2.2.2.1, .int .i64 b.2.2.2.2.2.1, .int .i64 b.2.2.2.2.2.2.1, .int .i64 b.2.2.2.2.2.2.2.1] 130, cells b6 [.int .i64 b.2.2.2.2.2.2.2.2.1, .int .i64 0, .int .i64 0, .int .i64 b.2.2.2.2.2.2.2.2.2.1] 132, obj b7 (.stringIter s1 (posAt s1 b.2.2.2.2.2.2.2.2.2.2.1))]) (fun b => b.1) (fuel, ([] : List Gapi_Place), ([] : List Gplace_ended), 0, 0, 0, 0, 0, 0, 0, 0, Hd.nil, Hd.nil) h rfl (Sbs.cons rfl (Sbs.cons rfl (Sbs.cons rfl (Sbs.cons rfl (Sbs.cons rfl (Sbs.nil)))))) (Splits.of [0, 4, 5, 1, 2, 3] kr rfl) ?_
    rintro ⟨n1, m10, m11, p16, p17, p18, p19, p20, line7, line8, m12, hd8, hd9⟩ h
    cases n1 with
    | zero => exact noneE h
    | succ n1 =>
     obtain ⟨ag1, hag1⟩ : ∃ ag, ag = loopG (fun _ _ _ _ _ _ _ _ _ _ => none) (place_New_s1 s1 j1) n1 := ⟨_, rfl⟩
     have h : place_New_s1 s1 j1 ag1 m10 m11 p16 p17 p18 p19 p20 line7 line8 m12 = some r := by rw [hag1]; exact h
     unfold place_New_s1 at h
     show TC _ _ _ _ _ ([]) _ _ [(0, .string s1), (4, .pointer (some ⟨b4, 0, none⟩)), (5, .pointer (some ⟨b5, 0, none⟩)), (6, .pointer (some ⟨b6, 0, none⟩)), (19, .pointer (some ⟨b7, 0, none⟩))] [cells b4 [.string s1, hd8.v, hd9.v] 128, vec enc_Gapi_Place 130 5 hd8.v m10, vec enc_Gplace_ended 132 4 hd9.v m11, cells b5 [.int .i64 p16, .int .i64 p17, .int .i64 p18, .int .i64 p19, .int .i64 p20] 130, cells b6 [.int .i64 line7, .int .i64 0, .int .i64 0, .int .i64 line8] 132, obj b7 (.stringIter s1 (posAt s1 m12))]
     refine TC.seq (TC.region ?_)
     refine TO.bySplit (b := decide (m12 < (pcs s1.data.toList).length)) (fun hb2 => ?_) (fun hb2 => ?_)
     ·
      have h := condT hb2 h
      obtain ⟨p21, hq1, h⟩ := andE h
      refine TO.nextStr (k := 5) (m := m12) (p := p21) rfl dc rfl rfl hq1 (TO.extract rfl dc rfl rfl (TO.nil (TX.next (TC.seq (TC.condT rfl (TC.skip (TX.next (TC.block ?_))))))))
      obtain ⟨j2, hj2, h⟩ := joinE h
      refine TC.cutN (β := Int × Hd) 6 rfl (fun b => j2 b.1 = some r) (fun b => []) (fun b => [(0, .string s1), (4, .pointer (some ⟨b4, 0, none⟩)), (5, .pointer (some ⟨b5, 0, none⟩)), (6, .pointer (some ⟨b6, 0, none⟩)), (7, .int .i64 (p21.i : Int)), (8, .int .i32 (p21.r : Int)), (19, .pointer (some ⟨b7, 0, none⟩))]) (fun b => [cells b4 [.string s1, b.2.v, hd9.v] 128, vec enc_Gapi_Place 130 5 b.2.v (m10 ++ [(⟨(p21.i : Int), p17, p18, p19, p20⟩ : Gapi_Place)]), vec enc_Gplace_ended 132 4 hd9.v m11, cells b5 [.int .i64 (p21.i : Int), .int .i64 (p17 + 1), .int .i64 b.1, .int .i64 p19, .int .i64 (p20 + 1)] 130, cells b6 [.int .i64 line7, .int .i64 0, .int .i64 0, .int .i64 line8] 132, obj b7 (.stringIter s1 (posAt s1 (m12 + 1)))]) (fun cut => ?_) ?_
      ·
       refine TC.seq (TC.region (TO.extract rfl dc rfl rfl (TO.extract rfl dc rfl rfl (TO.assign rfl dc rfl (TO.assign rfl dc rfl (TO.nil (TX.next (TC.seq (TC.region (TO.move rfl dc rfl (TO.fieldAddr fl_130_0 rfl dc rfl (show _ = 0 from rfl) ?_)))))))))))
       refine TO.store (k := 3) (l' := [.int .i64 (p21.i : Int), .int .i64 p17, .int .i64 p18, .int .i64 p19, .int .i64 p20]) sz_3 rfl rfl rfl rfl rfl (fun _ _ => rfl) rfl ?_
       show TO _ _ _ _ _ _ _ _ _ _ [cells b4 [.string s1, hd8.v, hd9.v] 128, vec enc_Gapi_Place 130 5 hd8.v m10, vec enc_Gplace_ended 132 4 hd9.v m11, cells b5 [.int .i64 (p21.i : Int), .int .i64 p17, .int .i64 p18, .int .i64 p19, .int .i64 p20] 130, cells b6 [.int .i64 line7, .int .i64 0, .int .i64 0, .int .i64 line8] 132, obj b7 (.stringIter s1 (posAt s1 (m12 + 1)))]
       refine TO.nil (TX.next (TC.seq ?_))
       obtain ⟨hg1, h⟩ := grdE h
       refine TC.pad 1 ?_
       show TC _ _ _ _ _ _ _ _ _ [cells b4 [.string s1, hd8.v, hd9.v] 128, vec enc_Gapi_Place 130 5 hd8.v m10, vec enc_Gplace_ended 132 4 hd9.v m11, cells b5 [.int .i64 (p21.i : Int), .int .i64 p17, .int .i64 p18, .int .i64 p19, .int .i64 p20] 130, cells b6 [.int .i64 line7, .int .i64 0, .int .i64 0, .int .i64 line8] 132, obj b7 (.stringIter s1 (posAt s1 (m12 + 1))), emp]
       refine let vals1 : (Nat × Hd) → List (Nat × Nat × Value) := fun b => [(0, 26, .pointer (some ⟨b4, 0, none⟩)), (1, 27, .pointer (some ⟨b4, 0, none⟩)), (2, 28, .pointer (some ⟨b4, 0, none⟩)), (3, 29, .pointer (some ⟨b4, 1, none⟩)), (4, 30, hd8.v), (5, 31, .agg #[.int .i64 (p21.i : Int), .int .i64 p17, .int .i64 p18, .int .i64 p19, .int .i64 p20]), (6, 32, .slice (some ⟨b.1, 0, none⟩) 1 1), (7, 33, b.2.v)]; let LL1 : (Nat → Prop) → (Nat × Hd) → List Asn := fun D b => [cells b4 [.string s1, hd8.v, hd9.v] 128, eD D (vec enc_Gapi_Place 130 5 hd8.v m10) [(7, vec enc_Gapi_Place 130 5 b.2.v (m10 ++ [(⟨(p21.i : Int), p17, p18, p19, p20⟩ : Gapi_Place)]))], vec enc_Gplace_ended 132 4 hd9.v m11, cells b5 [.int .i64 (p21.i : Int), .int .i64 p17, .int .i64 p18, .int .i64 p19, .int .i64 p20] 130, cells b6 [.int .i64 line7, .int .i64 0, .int .i64 0, .int .i64 line8] 132, obj b7 (.stringIter s1 (posAt s1 (m12 + 1))), eD D emp [(6, cells b.1 [.int .i64 (p21.i : Int), .int .i64 p17, .int .i64 p18, .int .i64 p19, .int .i64 p20] 130)]]; ?_
       refine TC.drawG (β := Nat × Hd) 8 ((0 : Nat), Hd.nil) vals1 LL1 mixed kr kr dc (fun _ => rfl) (cons_eq rfl (cons_eq eD_none (cons_eq rfl (cons_eq rfl (cons_eq rfl (cons_eq rfl (cons_eq eD_none rfl))))))) (DrawG.cons ?_ (DrawG.cons ?_ (DrawG.cons ?_ (DrawG.cons ?_ (DrawG.cons ?_ (DrawG.cons ?_ (DrawG.cons ?_ (DrawG.cons ?_ DrawG.nil)))))))) ?_
       ·
        intro D b hn hd hcl
        obtain ⟨b8, hd11⟩ := b
        refine TO.rewL (L' := [cells b4 [.string s1, hd8.v, hd9.v] 128, eD D (vec enc_Gapi_Place 130 5 hd8.v m10) [(7, vec enc_Gapi_Place 130 5 hd11.v (m10 ++ [(⟨(p21.i : Int), p17, p18, p19, p20⟩ : Gapi_Place)]))], vec enc_Gplace_ended 132 4 hd9.v m11, cells b5 [.int .i64 (p21.i : Int), .int .i64 p17, .int .i64 p18, .int .i64 p19, .int .i64 p20] 130, cells b6 [.int .i64 line7, .int .i64 0, .int .i64 0, .int .i64 line8] 132, obj b7 (.stringIter s1 (posAt s1 (m12 + 1))), eD D emp [(6, cells b8 [.int .i64 (p21.i : Int), .int .i64 p17, .int .i64 p18, .int .i64 p19, .int .i64 p20] 130)]]) (cons_eq rfl (cons_eq rfl (cons_eq rfl (cons_eq rfl (cons_eq rfl (cons_eq rfl (cons_eq rfl rfl))))))) (TO.move rfl dc (dl_old (by rfl) rfl) ?_)
        exact TX.valG (b8, hd11) 0 (by rfl) (by rfl) rfl (dl_cons_eq (fun _ => rfl) (dl_cons_eq (fun _ => rfl) (dl_cons_eq (fun _ => rfl) (dl_cons_eq (fun _ => rfl) (dl_cons_eq (fun _ => rfl) (dl_cons_eq (fun _ => rfl) (dl_cons_eq (fun _ => rfl) (dl_cons_eq (fun _ => rfl) rfl)))))))) (cons_eq rfl (cons_eq ((eD_skip (by rfl)).trans rfl) (cons_eq rfl (cons_eq rfl (cons_eq rfl (cons_eq rfl (cons_eq ((eD_skip (by rfl)).trans rfl) rfl)))))))
       ·
        intro D b hn hd hcl
        obtain ⟨b8, hd11⟩ := b
        refine TO.rewL (L' := [cells b4 [.string s1, hd8.v, hd9.v] 128, vec enc_Gapi_Place 130 5 hd8.v m10, vec enc_Gplace_ended 132 4 hd9.v m11, cells b5 [.int .i64 (p21.i : Int), .int .i64 p17, .int .i64 p18, .int .i64 p19, .int .i64 p20] 130, cells b6 [.int .i64 line7, .int .i64 0, .int .i64 0, .int .i64 line8] 132, obj b7 (.stringIter s1 (posAt s1 (m12 + 1))), eD D emp [(6, cells b8 [.int .i64 (p21.i : Int), .int .i64 p17, .int .i64 p18, .int .i64 p19, .int .i64 p20] 130)]]) (cons_eq rfl (cons_eq (eD_miss (fun hD => hn (hcl 2 _ rfl (hcl 3 _ rfl (hcl 4 _ rfl (hcl 7 _ rfl hD 4 dc) 3 dc) 2 dc) 1 dc)) eD_nil) (cons_eq rfl (cons_eq rfl (cons_eq rfl (cons_eq rfl (cons_eq rfl rfl))))))) ?_
        refine TO.move rfl dc (dl_old (by rfl) rfl) ?_
        exact TX.valG (b8, hd11) 1 (by rfl) (by rfl) rfl (dl_cons_eq (fun _ => rfl) (dl_cons_eq (fun _ => rfl) (dl_cons_eq (fun _ => rfl) (dl_cons_eq (fun _ => rfl) (dl_cons_eq (fun _ => rfl) (dl_cons_eq (fun _ => rfl) (dl_cons_eq (fun _ => rfl) (dl_cons_eq (fun _ => rfl) rfl)))))))) (cons_eq rfl (cons_eq ((eD_skip (by rfl)).trans (eD_miss (fun hD => hn (hcl 2 _ rfl (hcl 3 _ rfl (hcl 4 _ rfl (hcl 7 _ rfl hD 4 dc) 3 dc) 2 dc) 1 dc)) eD_nil)) (cons_eq rfl (cons_eq rfl (cons_eq rfl (cons_eq rfl (cons_eq ((eD_skip (by rfl)).trans rfl) rfl)))))))
       ·
        intro D b hn hd hcl
        obtain ⟨b8, hd11⟩ := b
        refine TO.rewL (L' := [cells b4 [.string s1, hd8.v, hd9.v] 128, vec enc_Gapi_Place 130 5 hd8.v m10, vec enc_Gplace_ended 132 4 hd9.v m11, cells b5 [.int .i64 (p21.i : Int), .int .i64 p17, .int .i64 p18, .int .i64 p19, .int .i64 p20] 130, cells b6 [.int .i64 line7, .int .i64 0, .int .i64 0, .int .i64 line8] 132, obj b7 (.stringIter s1 (posAt s1 (m12 + 1))), eD D emp [(6, cells b8 [.int .i64 (p21.i : Int), .int .i64 p17, .int .i64 p18, .int .i64 p19, .int .i64 p20] 130)]]) (cons_eq rfl (cons_eq (eD_miss (fun hD => hn (hcl 3 _ rfl (hcl 4 _ rfl (hcl 7 _ rfl hD 4 dc) 3 dc) 2 dc)) eD_nil) (cons_eq rfl (cons_eq rfl (cons_eq rfl (cons_eq rfl (cons_eq rfl rfl))))))) ?_
        refine TO.nilCheck rfl dc (dl_lookup (m := 1) rfl rfl (hd 1 dc)) ?_
        exact TX.valG (b8, hd11) 2 (by rfl) (by rfl) rfl (dl_cons_eq (fun _ => rfl) (dl_cons_eq (fun _ => rfl) (dl_cons_eq (fun _ => rfl) (dl_cons_eq (fun _ => rfl) (dl_cons_eq (fun _ => rfl) (dl_cons_eq (fun _ => rfl) (dl_cons_eq (fun _ => rfl) (dl_cons_eq (fun _ => rfl) rfl)))))))) (cons_eq rfl (cons_eq ((eD_skip (by rfl)).trans (eD_miss (fun hD => hn (hcl 3 _ rfl (hcl 4 _ rfl (hcl 7 _ rfl hD 4 dc) 3 dc) 2 dc)) eD_nil)) (cons_eq rfl (cons_eq rfl (cons_eq rfl (cons_eq rfl (cons_eq ((eD_skip (by rfl)).trans rfl) rfl)))))))
       ·
        intro D b hn hd hcl
        obtain ⟨b8, hd11⟩ := b
        refine TO.rewL (L' := [cells b4 [.string s1, hd8.v, hd9.v] 128, vec enc_Gapi_Place 130 5 hd8.v m10, vec enc_Gplace_ended 132 4 hd9.v m11, cells b5 [.int .i64 (p21.i : Int), .int .i64 p17, .int .i64 p18, .int .i64 p19, .int .i64 p20] 130, cells b6 [.int .i64 line7, .int .i64 0, .int .i64 0, .int .i64 line8] 132, obj b7 (.stringIter s1 (posAt s1 (m12 + 1))), eD D emp [(6, cells b8 [.int .i64 (p21.i : Int), .int .i64 p17, .int .i64 p18, .int .i64 p19, .int .i64 p20] 130)]]) (cons_eq rfl (cons_eq (eD_miss (fun hD => hn (hcl 4 _ rfl (hcl 7 _ rfl hD 4 dc) 3 dc)) eD_nil) (cons_eq rfl (cons_eq rfl (cons_eq rfl (cons_eq rfl (cons_eq rfl rfl))))))) ?_
        refine TO.fieldAddr fl_128_1 rfl dc (dl_lookup (m := 2) rfl rfl (hd 2 dc)) (show _ = 1 from rfl) ?_
        exact TX.valG (b8, hd11) 3 (by rfl) (by rfl) rfl (dl_cons_eq (fun _ => rfl) (dl_cons_eq (fun _ => rfl) (dl_cons_eq (fun _ => rfl) (dl_cons_eq (fun _ => rfl) (dl_cons_eq (fun _ => rfl) (dl_cons_eq (fun _ => rfl) (dl_cons_eq (fun _ => rfl) (dl_cons_eq (fun _ => rfl) rfl)))))))) (cons_eq rfl (cons_eq ((eD_skip (by rfl)).trans (eD_miss (fun hD => hn (hcl 4 _ rfl (hcl 7 _ rfl hD 4 dc) 3 dc)) eD_nil)) (cons_eq rfl (cons_eq rfl (cons_eq rfl (cons_eq rfl (cons_eq ((eD_skip (by rfl)).trans rfl) rfl)))))))
       ·
        intro D b hn hd hcl
        obtain ⟨b8, hd11⟩ := b
        refine TO.rewL (L' := [cells b4 [.string s1, hd8.v, hd9.v] 128, vec enc_Gapi_Place 130 5 hd8.v m10, vec enc_Gplace_ended 132 4 hd9.v m11, cells b5 [.int .i64 (p21.i : Int), .int .i64 p17, .int .i64 p18, .int .i64 p19, .int .i64 p20] 130, cells b6 [.int .i64 line7, .int .i64 0, .int .i64 0, .int .i64 line8] 132, obj b7 (.stringIter s1 (posAt s1 (m12 + 1))), eD D emp [(6, cells b8 [.int .i64 (p21.i : Int), .int .i64 p17, .int .i64 p18, .int .i64 p19, .int .i64 p20] 130)]]) (cons_eq rfl (cons_eq (eD_miss (fun hD => hn (hcl 7 _ rfl hD 4 dc)) eD_nil) (cons_eq rfl (cons_eq rfl (cons_eq rfl (cons_eq rfl (cons_eq rfl rfl))))))) ?_
        refine TO.load (k := 0) sc_125 rfl dc (dl_lookup (m := 3) rfl rfl (hd 3 dc)) rfl rfl ?_
        exact TX.valG (b8, hd11) 4 (by rfl) (by rfl) rfl (dl_cons_eq (fun _ => rfl) (dl_cons_eq (fun _ => rfl) (dl_cons_eq (fun _ => rfl) (dl_cons_eq (fun _ => rfl) (dl_cons_eq (fun _ => rfl) (dl_cons_eq (fun _ => rfl) (dl_cons_eq (fun _ => rfl) (dl_cons_eq (fun _ => rfl) rfl)))))))) (cons_eq rfl (cons_eq ((eD_skip (by rfl)).trans (eD_miss (fun hD => hn (hcl 7 _ rfl hD 4 dc)) eD_nil)) (cons_eq rfl (cons_eq rfl (cons_eq rfl (cons_eq rfl (cons_eq ((eD_skip (by rfl)).trans rfl) rfl)))))))
       ·
        intro D b hn hd hcl
        obtain ⟨b8, hd11⟩ := b
        refine TO.rewL (L' := [cells b4 [.string s1, hd8.v, hd9.v] 128, vec enc_Gapi_Place 130 5 hd8.v m10, vec enc_Gplace_ended 132 4 hd9.v m11, cells b5 [.int .i64 (p21.i : Int), .int .i64 p17, .int .i64 p18, .int .i64 p19, .int .i64 p20] 130, cells b6 [.int .i64 line7, .int .i64 0, .int .i64 0, .int .i64 line8] 132, obj b7 (.stringIter s1 (posAt s1 (m12 + 1))), emp]) (cons_eq rfl (cons_eq (eD_miss (fun hD => hn (hcl 6 _ rfl (hcl 7 _ rfl hD 6 dc) 5 dc)) eD_nil) (cons_eq rfl (cons_eq rfl (cons_eq rfl (cons_eq rfl (cons_eq (eD_miss (fun hD => hn (hcl 6 _ rfl hD 5 dc)) eD_nil) rfl))))))) ?_
        refine TO.loads (k := 3) (cs := [.int .i64 (p21.i : Int), .int .i64 p17, .int .i64 p18, .int .i64 p19, .int .i64 p20]) rw_130 rfl dc (dl_old (by rfl) rfl) rfl rfl rfl ?_
        exact TX.valG (b8, hd11) 5 (by rfl) (by rfl) rfl (dl_cons_eq (fun _ => rfl) (dl_cons_eq (fun _ => rfl) (dl_cons_eq (fun _ => rfl) (dl_cons_eq (fun _ => rfl) (dl_cons_eq (fun _ => rfl) (dl_cons_eq (fun _ => rfl) (dl_cons_eq (fun _ => rfl) (dl_cons_eq (fun _ => rfl) rfl)))))))) (cons_eq rfl (cons_eq ((eD_skip (by rfl)).trans (eD_miss (fun hD => hn (hcl 6 _ rfl (hcl 7 _ rfl hD 6 dc) 5 dc)) eD_nil)) (cons_eq rfl (cons_eq rfl (cons_eq rfl (cons_eq rfl (cons_eq ((eD_skip (by rfl)).trans (eD_miss (fun hD => hn (hcl 6 _ rfl hD 5 dc)) eD_nil)) rfl)))))))
       ·
        intro D b hn hd hcl
        obtain ⟨_, hd11⟩ := b
        refine TO.rewL (L' := [cells b4 [.string s1, hd8.v, hd9.v] 128, vec enc_Gapi_Place 130 5 hd8.v m10, vec enc_Gplace_ended 132 4 hd9.v m11, cells b5 [.int .i64 (p21.i : Int), .int .i64 p17, .int .i64 p18, .int .i64 p19, .int .i64 p20] 130, cells b6 [.int .i64 line7, .int .i64 0, .int .i64 0, .int .i64 line8] 132, obj b7 (.stringIter s1 (posAt s1 (m12 + 1))), emp]) (cons_eq rfl (cons_eq (eD_miss (fun hD => hn (hcl 7 _ rfl hD 6 dc)) eD_nil) (cons_eq rfl (cons_eq rfl (cons_eq rfl (cons_eq rfl (cons_eq (eD_miss hn eD_nil) rfl))))))) ?_
        refine TO.buildSlice (cs := [.int .i64 (p21.i : Int), .int .i64 p17, .int .i64 p18, .int .i64 p19, .int .i64 p20]) (te := 130) (ps := [(0, .tmp 31)]) rfl dc (evP.cons (dl_lookup (m := 5) rfl rfl (hd 5 dc)) evP.nil) (fun _ => by kernel_rfl) (fun b8 => ?_)
        refine TO.place 6 rfl rfl ?_
        show TO _ _ _ _ _ _ _ _ _ _ [cells b4 [.string s1, hd8.v, hd9.v] 128, vec enc_Gapi_Place 130 5 hd8.v m10, vec enc_Gplace_ended 132 4 hd9.v m11, cells b5 [.int .i64 (p21.i : Int), .int .i64 p17, .int .i64 p18, .int .i64 p19, .int .i64 p20] 130, cells b6 [.int .i64 line7, .int .i64 0, .int .i64 0, .int .i64 line8] 132, obj b7 (.stringIter s1 (posAt s1 (m12 + 1))), cells b8 [.int .i64 (p21.i : Int), .int .i64 p17, .int .i64 p18, .int .i64 p19, .int .i64 p20] 130]
        exact TX.valG (b8, hd11) 6 (by rfl) (by rfl) rfl (dl_cons_eq (fun _ => rfl) (dl_cons_eq (fun _ => rfl) (dl_cons_eq (fun _ => rfl) (dl_cons_eq (fun _ => rfl) (dl_cons_eq (fun _ => rfl) (dl_cons_eq (fun _ => rfl) (dl_cons_eq (fun hD => absurd hD hn) (dl_cons_eq (fun _ => rfl) rfl)))))))) (cons_eq rfl (cons_eq ((eD_skip (by rfl)).trans (eD_miss (fun hD => hn (hcl 7 _ rfl hD 6 dc)) eD_nil)) (cons_eq rfl (cons_eq rfl (cons_eq rfl (cons_eq rfl (cons_eq (eD_hit (Or.inr rfl) rfl) rfl)))))))
       ·
        intro D b hn hd hcl
        obtain ⟨b8, _⟩ := b
        refine TO.rewL (L' := [cells b4 [.string s1, hd8.v, hd9.v] 128, vec enc_Gapi_Place 130 5 hd8.v m10, vec enc_Gplace_ended 132 4 hd9.v m11, cells b5 [.int .i64 (p21.i : Int), .int .i64 p17, .int .i64 p18, .int .i64 p19, .int .i64 p20] 130, cells b6 [.int .i64 line7, .int .i64 0, .int .i64 0, .int .i64 line8] 132, obj b7 (.stringIter s1 (posAt s1 (m12 + 1))), cells b8 [.int .i64 (p21.i : Int), .int .i64 p17, .int .i64 p18, .int .i64 p19, .int .i64 p20] 130]) (cons_eq rfl (cons_eq (eD_miss hn eD_nil) (cons_eq rfl (cons_eq rfl (cons_eq rfl (cons_eq rfl (cons_eq (eD_hit (hd 6 dc) rfl) rfl))))))) ?_
        refine TO.appendVec (k := 1) (k2 := 6) (ys := [(⟨(p21.i : Int), p17, p18, p19, p20⟩ : Gapi_Place)]) Tryd.underlying125 el_130 enc_Gapi_Place_len enc_Gapi_Place_one rfl dc (dl_lookup (m := 4) rfl rfl (hd 4 dc)) (dl_lookup (m := 6) rfl rfl (hd 6 dc)) rfl rfl rfl rfl hg1 (fun v1 => ?_)
        refine TO.nameHd (k := 1) rfl (fun hd11 he1 => ?_)
        subst he1
        exact TX.valG (b8, hd11) 7 (by rfl) (by rfl) rfl (dl_cons_eq (fun _ => rfl) (dl_cons_eq (fun _ => rfl) (dl_cons_eq (fun _ => rfl) (dl_cons_eq (fun _ => rfl) (dl_cons_eq (fun _ => rfl) (dl_cons_eq (fun _ => rfl) (dl_cons_eq (fun _ => rfl) (dl_cons_eq (fun hD => absurd hD hn) rfl)))))))) (cons_eq rfl (cons_eq (eD_hit (Or.inr rfl) rfl) (cons_eq rfl (cons_eq rfl (cons_eq rfl (cons_eq rfl (cons_eq ((eD_skip (by rfl)).trans (eD_hit (hd 6 dc) rfl)) rfl)))))))
       intro D b hall
       obtain ⟨b8, hd11⟩ := b
       refine TO.rewL (L' := [cells b4 [.string s1, hd8.v, hd9.v] 128, vec enc_Gapi_Place 130 5 hd11.v (m10 ++ [(⟨(p21.i : Int), p17, p18, p19, p20⟩ : Gapi_Place)]), vec enc_Gplace_ended 132 4 hd9.v m11, cells b5 [.int .i64 (p21.i : Int), .int .i64 p17, .int .i64 p18, .int .i64 p19, .int .i64 p20] 130, cells b6 [.int .i64 line7, .int .i64 0, .int .i64 0, .int .i64 line8] 132, obj b7 (.stringIter s1 (posAt s1 (m12 + 1))), cells b8 [.int .i64 (p21.i : Int), .int .i64 p17, .int .i64 p18, .int .i64 p19, .int .i64 p20] 130]) (cons_eq rfl (cons_eq (eD_hit (hall 7 dc) rfl) (cons_eq rfl (cons_eq rfl (cons_eq rfl (cons_eq rfl (cons_eq (eD_hit (hall 6 dc) rfl) rfl))))))) (TO.nilCheck rfl dc rfl (TO.fieldAddr fl_128_1 rfl dc rfl (show _ = 1 from rfl) ?_))
       refine TO.store (k := 0) (l' := [.string s1, hd11.v, hd9.v]) sz_125 rfl rfl rfl rfl rfl (fun _ _ => rfl) rfl ?_
       refine TO.nil (TX.next (TC.seq (TC.region (TO.fieldAddr fl_130_1 rfl dc rfl (show _ = 1 from rfl) (TO.load (k := 3) sc_3 rfl dc rfl rfl rfl ?_)))))
       obtain ⟨hg2, h⟩ := grdE h
       refine TO.bin rfl dc rfl rfl (bin_add (r := p17 + 1) (IntWalk.i64_in _ hg2)) (TO.fieldAddr fl_130_1 rfl dc rfl (show _ = 1 from rfl) ?_)
       refine TO.store (k := 3) (l' := [.int .i64 (p21.i : Int), .int .i64 (p17 + 1), .int .i64 p18, .int .i64 p19, .int .i64 p20]) sz_3 rfl rfl rfl rfl rfl (fun _ _ => rfl) rfl ?_
       show TO _ _ _ _ _ _ _ _ _ _ [cells b4 [.string s1, hd11.v, hd9.v] 128, vec enc_Gapi_Place 130 5 hd11.v (m10 ++ [(⟨(p21.i : Int), p17, p18, p19, p20⟩ : Gapi_Place)]), vec enc_Gplace_ended 132 4 hd9.v m11, cells b5 [.int .i64 (p21.i : Int), .int .i64 (p17 + 1), .int .i64 p18, .int .i64 p19, .int .i64 p20] 130, cells b6 [.int .i64 line7, .int .i64 0, .int .i64 0, .int .i64 line8] 132, obj b7 (.stringIter s1 (posAt s1 (m12 + 1))), cells b8 [.int .i64 (p21.i : Int), .int .i64 p17, .int .i64 p18, .int .i64 p19, .int .i64 p20] 130]
       refine TO.nil (TX.next (TC.seq (TC.region (TO.fieldAddr fl_130_2 rfl dc rfl (show _ = 2 from rfl) (TO.load (k := 3) sc_3 rfl dc rfl rfl rfl ?_)))))
       obtain ⟨hg3, h⟩ := grdE h
       refine TO.bin rfl dc rfl rfl (bin_add (r := p18 + 1) (IntWalk.i64_in _ hg3)) (TO.fieldAddr fl_130_2 rfl dc rfl (show _ = 2 from rfl) ?_)
       refine TO.store (k := 3) (l' := [.int .i64 (p21.i : Int), .int .i64 (p17 + 1), .int .i64 (p18 + 1), .int .i64 p19, .int .i64 p20]) sz_3 rfl rfl rfl rfl rfl (fun _ _ => rfl) rfl ?_
       refine TO.nil (TX.next (TC.seq (TC.region (TO.fieldAddr fl_130_4 rfl dc rfl (show _ = 4 from rfl) (TO.load (k := 3) sc_3 rfl dc rfl rfl rfl ?_)))))
       obtain ⟨hg4, h⟩ := grdE h
       refine TO.bin rfl dc rfl rfl (bin_add (r := p20 + 1) (IntWalk.i64_in _ hg4)) (TO.fieldAddr fl_130_4 rfl dc rfl (show _ = 4 from rfl) ?_)
       refine TO.store (k := 3) (l' := [.int .i64 (p21.i : Int), .int .i64 (p17 + 1), .int .i64 (p18 + 1), .int .i64 p19, .int .i64 (p20 + 1)]) sz_3 rfl rfl rfl rfl rfl (fun _ _ => rfl) rfl ?_
       show TO _ _ _ _ _ _ _ _ _ _ [cells b4 [.string s1, hd11.v, hd9.v] 128, vec enc_Gapi_Place 130 5 hd11.v (m10 ++ [(⟨(p21.i : Int), p17, p18, p19, p20⟩ : Gapi_Place)]), vec enc_Gplace_ended 132 4 hd9.v m11, cells b5 [.int .i64 (p21.i : Int), .int .i64 (p17 + 1), .int .i64 (p18 + 1), .int .i64 p19, .int .i64 (p20 + 1)] 130, cells b6 [.int .i64 line7, .int .i64 0, .int .i64 0, .int .i64 line8] 132, obj b7 (.stringIter s1 (posAt s1 (m12 + 1))), cells b8 [.int .i64 (p21.i : Int), .int .i64 p17, .int .i64 p18, .int .i64 p19, .int .i64 p20] 130]
       refine TO.nil (TX.next (cut (TC.seq (TC.region (TO.move rfl dc rfl (TO.bin rfl dc rfl rfl bin_geq (TO.nil (TX.next ?_))))))))
       refine TC.condB rfl (fun hb3 => ?_) (fun hb3 => ?_)
       ·
        have h := condT hb3 h
        refine TC.region (TO.fieldAddr fl_130_2 rfl dc rfl (show _ = 2 from rfl) (TO.load (k := 3) sc_3 rfl dc rfl rfl rfl ?_))
        obtain ⟨hg5, h⟩ := grdE h
        refine TO.bin rfl dc rfl rfl (bin_add (r := (p18 + 1) + 1) (IntWalk.i64_in _ hg5)) (TO.fieldAddr fl_130_2 rfl dc rfl (show _ = 2 from rfl) ?_)
        refine TO.store (k := 3) (l' := [.int .i64 (p21.i : Int), .int .i64 (p17 + 1), .int .i64 ((p18 + 1) + 1), .int .i64 p19, .int .i64 (p20 + 1)]) sz_3 rfl rfl rfl rfl rfl (fun _ _ => rfl) rfl ?_
        refine TO.nil ?_
        exact TX.meetD ((p18 + 1) + 1, hd11) h rfl (Sbs.cons rfl (Sbs.cons rfl (Sbs.cons rfl (Sbs.cons rfl (Sbs.cons rfl (Sbs.cons rfl (Sbs.cons rfl (Sbs.nil)))))))) (Splits.of [0, 1, 2, 3, 4, 5] kr rfl)
       ·
        have h := condF hb3 h
        refine TC.skip ?_
        exact TX.meetD (p18 + 1, hd11) h rfl (Sbs.cons rfl (Sbs.cons rfl (Sbs.cons rfl (Sbs.cons rfl (Sbs.cons rfl (Sbs.cons rfl (Sbs.cons rfl (Sbs.nil)))))))) (Splits.of [0, 1, 2, 3, 4, 5] kr rfl)
      ·
       rintro ⟨p22, hd10⟩ h
       rw [hj2] at h
       show TC _ _ _ _ _ ([]) _ _ [(0, .string s1), (4, .pointer (some ⟨b4, 0, none⟩)), (5, .pointer (some ⟨b5, 0, none⟩)), (6, .pointer (some ⟨b6, 0, none⟩)), (7, .int .i64 (p21.i : Int)), (8, .int .i32 (p21.r : Int)), (19, .pointer (some ⟨b7, 0, none⟩))] [cells b4 [.string s1, hd10.v, hd9.v] 128, vec enc_Gapi_Place 130 5 hd10.v (m10 ++ [(⟨(p21.i : Int), p17, p18, p19, p20⟩ : Gapi_Place)]), vec enc_Gplace_ended 132 4 hd9.v m11, cells b5 [.int .i64 (p21.i : Int), .int .i64 (p17 + 1), .int .i64 p22, .int .i64 p19, .int .i64 (p20 + 1)] 130, cells b6 [.int .i64 line7, .int .i64 0, .int .i64 0, .int .i64 line8] 132, obj b7 (.stringIter s1 (posAt s1 (m12 + 1)))]
       obtain ⟨j3, hj3, h⟩ := joinE h
       refine TC.cutN (β := Int) 1 rfl (fun b => j3 b = some r) (fun b => []) (fun b => [(0, .string s1), (4, .pointer (some ⟨b4, 0, none⟩)), (5, .pointer (some ⟨b5, 0, none⟩)), (6, .pointer (some ⟨b6, 0, none⟩)), (7, .int .i64 (p21.i : Int)), (9, .int .i64 b), (19, .pointer (some ⟨b7, 0, none⟩))]) (fun b => [cells b4 [.string s1, hd10.v, hd9.v] 128, vec enc_Gapi_Place 130 5 hd10.v (m10 ++ [(⟨(p21.i : Int), p17, p18, p19, p20⟩ : Gapi_Place)]), vec enc_Gplace_ended 132 4 hd9.v m11, cells b5 [.int .i64 (p21.i : Int), .int .i64 (p17 + 1), .int .i64 p22, .int .i64 p19, .int .i64 (p20 + 1)] 130, cells b6 [.int .i64 line7, .int .i64 0, .int .i64 0, .int .i64 line8] 132, obj b7 (.stringIter s1 (posAt s1 (m12 + 1)))]) (fun cut => ?_) ?_
       ·
        refine TC.seq (TC.region (TO.assign rfl dc rfl (TO.nil (TX.next (cut (TC.block (TC.seq (TC.region (TO.move rfl dc rfl (TO.bin rfl dc rfl rfl bin_eql (TO.move rfl dc rfl ?_)))))))))))
        refine TO.split (s := 57) rfl (fun hb4 => ?_) (fun hb4 => ?_)
        ·
         have h := condT hb4 h
         refine TO.move rfl dc rfl ?_
         obtain ⟨hg6, h⟩ := grdE h
         refine TO.bin rfl dc rfl rfl (bin_add (r := (p21.i : Int) + 1) (IntWalk.i64_in _ hg6)) (TO.move rfl dc rfl (TO.lenStr rfl dc rfl Tryd.underlying9 (TO.bin rfl dc rfl rfl bin_lss (TO.pick (b := true) rfl dc rfl rfl (TO.move rfl dc rfl ?_)))))
         refine TO.split (s := 64) rfl (fun hb5 => ?_) (fun hb5 => ?_)
         ·
          have h := condT hb5 h
          refine TO.move rfl dc rfl (TO.move rfl dc rfl ?_)
          obtain ⟨hg7, h⟩ := grdE h
          refine TO.bin rfl dc rfl rfl (bin_add (r := (p21.i : Int) + 1) (IntWalk.i64_in _ hg7)) ?_
          obtain ⟨c1, hq2, h⟩ := andE h
          refine TO.index rfl dc rfl rfl (index_stringI Tryd.underlying9 hq2) (TO.bin rfl dc rfl rfl bin_eql (TO.pick (b := true) rfl dc rfl rfl (TO.assign rfl dc rfl (TO.nil (TX.next ?_)))))
          refine TC.condB rfl (fun hb6 => ?_) (fun hb6 => ?_)
          ·
           have h := condT hb6 h
           refine TC.exit (TX.blockOn dc (TX.thenExit (TX.blockHere ?_)))
           subst hag1
           exact TX.againD (n1, m10 ++ [(⟨(p21.i : Int), p17, p18, p19, p20⟩ : Gapi_Place)], m11, (p21.i : Int), p17 + 1, p22, p19, p20 + 1, line7, line8, m12 + 1, hd10, hd9) h (Nat.lt_succ_self _) rfl (Sbs.cons rfl (Sbs.cons rfl (Sbs.cons rfl (Sbs.cons rfl (Sbs.cons rfl (Sbs.nil)))))) (Splits.of [0, 1, 2, 3, 4, 5] kr rfl)
          ·
           have h := condF hb6 h
           refine TC.seq (TC.region (TO.move rfl dc rfl (TO.bin rfl dc rfl rfl bin_eql (TO.move rfl dc rfl ?_))))
           refine TO.split (s := 74) rfl (fun hb7 => ?_) (fun hb7 => ?_)
           ·
            have h := condT hb7 h
            refine TO.move rfl dc rfl (TO.bin rfl dc rfl rfl bin_gtr (TO.pick (b := true) rfl dc rfl rfl (TO.move rfl dc rfl ?_)))
            refine TO.split (s := 78) rfl (fun hb8 => ?_) (fun hb8 => ?_)
            ·
             have h := condT hb8 h
             refine TO.move rfl dc rfl (TO.move rfl dc rfl ?_)
             obtain ⟨hg8, h⟩ := grdE h
             refine TO.bin rfl dc rfl rfl (bin_sub (r := (p21.i : Int) - 1) (IntWalk.i64_in _ hg8)) ?_
             obtain ⟨c2, hq3, h⟩ := andE h
             refine TO.index rfl dc rfl rfl (index_stringI Tryd.underlying9 hq3) (TO.bin rfl dc rfl rfl bin_eql (TO.pick (b := true) rfl dc rfl rfl (TO.assign rfl dc rfl (TO.nil (TX.next ?_)))))
             refine TC.condB rfl (fun hb9 => ?_) (fun hb9 => ?_)
             ·
              have h := condT hb9 h
              refine TC.region (TO.assign rfl dc rfl (TO.nil (TX.blockNormal ?_)))
              exact TX.meetD 2 h rfl (Sbs.cons rfl (Sbs.cons rfl (Sbs.cons rfl (Sbs.cons rfl (Sbs.cons rfl (Sbs.cons rfl (Sbs.cons rfl (Sbs.nil)))))))) (Splits.of [0, 1, 2, 3, 4, 5] kr rfl)
             ·
              have h := condF hb9 h
              refine TC.seq (TC.region (TO.move rfl dc rfl (TO.bin rfl dc rfl rfl bin_neq (TO.move rfl dc rfl ?_))))
              refine TO.split (s := 88) rfl (fun hb10 => ?_) (fun hb10 => ?_)
              ·
               have h := condT hb10 h
               refine TO.move rfl dc rfl (TO.bin rfl dc rfl rfl bin_neq (TO.pick (b := true) rfl dc rfl rfl (TO.assign rfl dc rfl (TO.nil (TX.next ?_)))))
               refine TC.condB rfl (fun hb11 => ?_) (fun hb11 => ?_)
               ·
                have h := condT hb11 h
                refine TC.exit (TX.blockOn dc (TX.thenExit (TX.blockHere ?_)))
                subst hag1
                exact TX.againD (n1, m10 ++ [(⟨(p21.i : Int), p17, p18, p19, p20⟩ : Gapi_Place)], m11, (p21.i : Int), p17 + 1, p22, p19, p20 + 1, line7, line8, m12 + 1, hd10, hd9) h (Nat.lt_succ_self _) rfl (Sbs.cons rfl (Sbs.cons rfl (Sbs.cons rfl (Sbs.cons rfl (Sbs.cons rfl (Sbs.nil)))))) (Splits.of [0, 1, 2, 3, 4, 5] kr rfl)
               ·
                have h := condF hb11 h
                refine TC.skip (TX.blockNormal ?_)
                exact TX.meetD 1 h rfl (Sbs.cons rfl (Sbs.cons rfl (Sbs.cons rfl (Sbs.cons rfl (Sbs.cons rfl (Sbs.cons rfl (Sbs.cons rfl (Sbs.nil)))))))) (Splits.of [0, 1, 2, 3, 4, 5] kr rfl)
              ·
               have h := condF hb10 h
               refine TO.skip rfl dc (TO.skip rfl dc (TO.pick (b := false) rfl dc rfl rfl (TO.assign rfl dc rfl (TO.nil (TX.next (TC.condF rfl (TC.skip (TX.blockNormal ?_))))))))
               exact TX.meetD 1 h rfl (Sbs.cons rfl (Sbs.cons rfl (Sbs.cons rfl (Sbs.cons rfl (Sbs.cons rfl (Sbs.cons rfl (Sbs.cons rfl (Sbs.nil)))))))) (Splits.of [0, 1, 2, 3, 4, 5] kr rfl)
            ·
             have h := condF hb8 h
             refine TO.skip rfl dc (TO.skip rfl dc (TO.skip rfl dc (TO.skip rfl dc (TO.skip rfl dc (TO.pick (b := false) rfl dc rfl rfl (TO.assign rfl dc rfl (TO.nil (TX.next (TC.condF rfl (TC.seq (TC.region (TO.move rfl dc rfl (TO.bin rfl dc rfl rfl bin_neq ?_)))))))))))))
             refine TO.move rfl dc rfl ?_
             refine TO.split (s := 88) rfl (fun hb12 => ?_) (fun hb12 => ?_)
             ·
              have h := condT hb12 h
              refine TO.move rfl dc rfl (TO.bin rfl dc rfl rfl bin_neq (TO.pick (b := true) rfl dc rfl rfl (TO.assign rfl dc rfl (TO.nil (TX.next ?_)))))
              refine TC.condB rfl (fun hb13 => ?_) (fun hb13 => ?_)
              ·
               have h := condT hb13 h
               refine TC.exit (TX.blockOn dc (TX.thenExit (TX.blockHere ?_)))
               subst hag1
               exact TX.againD (n1, m10 ++ [(⟨(p21.i : Int), p17, p18, p19, p20⟩ : Gapi_Place)], m11, (p21.i : Int), p17 + 1, p22, p19, p20 + 1, line7, line8, m12 + 1, hd10, hd9) h (Nat.lt_succ_self _) rfl (Sbs.cons rfl (Sbs.cons rfl (Sbs.cons rfl (Sbs.cons rfl (Sbs.cons rfl (Sbs.nil)))))) (Splits.of [0, 1, 2, 3, 4, 5] kr rfl)
              ·
               have h := condF hb13 h
               refine TC.skip (TX.blockNormal ?_)
               exact TX.meetD 1 h rfl (Sbs.cons rfl (Sbs.cons rfl (Sbs.cons rfl (Sbs.cons rfl (Sbs.cons rfl (Sbs.cons rfl (Sbs.cons rfl (Sbs.nil)))))))) (Splits.of [0, 1, 2, 3, 4, 5] kr rfl)
             ·
              have h := condF hb12 h
              refine TO.skip rfl dc (TO.skip rfl dc (TO.pick (b := false) rfl dc rfl rfl (TO.assign rfl dc rfl (TO.nil (TX.next (TC.condF rfl (TC.skip (TX.blockNormal ?_))))))))
              exact TX.meetD 1 h rfl (Sbs.cons rfl (Sbs.cons rfl (Sbs.cons rfl (Sbs.cons rfl (Sbs.cons rfl (Sbs.cons rfl (Sbs.cons rfl (Sbs.nil)))))))) (Splits.of [0, 1, 2, 3, 4, 5] kr rfl)
           ·
            have h := condF hb7 h
            refine TO.skip rfl dc (TO.skip rfl dc (TO.pick (b := false) rfl dc rfl rfl (TO.move rfl dc rfl (TO.skip rfl dc (TO.skip rfl dc (TO.skip rfl dc (TO.skip rfl dc (TO.skip rfl dc (TO.pick (b := false) rfl dc rfl rfl (TO.assign rfl dc rfl (TO.nil (TX.next (TC.condF rfl ?_)))))))))))))
            refine TC.seq (TC.region (TO.move rfl dc rfl (TO.bin rfl dc rfl rfl bin_neq (TO.move rfl dc rfl ?_))))
            refine TO.split (s := 88) rfl (fun hb14 => ?_) (fun hb14 => ?_)
            ·
             have h := condT hb14 h
             refine TO.move rfl dc rfl (TO.bin rfl dc rfl rfl bin_neq (TO.pick (b := true) rfl dc rfl rfl (TO.assign rfl dc rfl (TO.nil (TX.next ?_)))))
             refine TC.condB rfl (fun hb15 => ?_) (fun hb15 => ?_)
             ·
              have h := condT hb15 h
              refine TC.exit (TX.blockOn dc (TX.thenExit (TX.blockHere ?_)))
              subst hag1
              exact TX.againD (n1, m10 ++ [(⟨(p21.i : Int), p17, p18, p19, p20⟩ : Gapi_Place)], m11, (p21.i : Int), p17 + 1, p22, p19, p20 + 1, line7, line8, m12 + 1, hd10, hd9) h (Nat.lt_succ_self _) rfl (Sbs.cons rfl (Sbs.cons rfl (Sbs.cons rfl (Sbs.cons rfl (Sbs.cons rfl (Sbs.nil)))))) (Splits.of [0, 1, 2, 3, 4, 5] kr rfl)
             ·
              have h := condF hb15 h
              refine TC.skip (TX.blockNormal ?_)
              exact TX.meetD 1 h rfl (Sbs.cons rfl (Sbs.cons rfl (Sbs.cons rfl (Sbs.cons rfl (Sbs.cons rfl (Sbs.cons rfl (Sbs.cons rfl (Sbs.nil)))))))) (Splits.of [0, 1, 2, 3, 4, 5] kr rfl)
            ·
             have h := condF hb14 h
             refine TO.skip rfl dc (TO.skip rfl dc (TO.pick (b := false) rfl dc rfl rfl (TO.assign rfl dc rfl (TO.nil (TX.next (TC.condF rfl (TC.skip (TX.blockNormal ?_))))))))
             exact TX.meetD 1 h rfl (Sbs.cons rfl (Sbs.cons rfl (Sbs.cons rfl (Sbs.cons rfl (Sbs.cons rfl (Sbs.cons rfl (Sbs.cons rfl (Sbs.nil)))))))) (Splits.of [0, 1, 2, 3, 4, 5] kr rfl)
         ·
          have h := condF hb5 h
          refine TO.skip rfl dc (TO.skip rfl dc (TO.skip rfl dc (TO.skip rfl dc (TO.skip rfl dc (TO.pick (b := false) rfl dc rfl rfl (TO.assign rfl dc rfl (TO.nil (TX.next (TC.condF rfl (TC.seq (TC.region (TO.move rfl dc rfl (TO.bin rfl dc rfl rfl bin_eql ?_)))))))))))))
          refine TO.move rfl dc rfl ?_
          refine TO.split (s := 74) rfl (fun hb16 => ?_) (fun hb16 => ?_)
          ·
           have h := condT hb16 h
           refine TO.move rfl dc rfl (TO.bin rfl dc rfl rfl bin_gtr (TO.pick (b := true) rfl dc rfl rfl (TO.move rfl dc rfl ?_)))
           refine TO.split (s := 78) rfl (fun hb17 => ?_) (fun hb17 => ?_)
           ·
            have h := condT hb17 h
            refine TO.move rfl dc rfl (TO.move rfl dc rfl ?_)
            obtain ⟨hg9, h⟩ := grdE h
            refine TO.bin rfl dc rfl rfl (bin_sub (r := (p21.i : Int) - 1) (IntWalk.i64_in _ hg9)) ?_
            obtain ⟨c3, hq4, h⟩ := andE h
            refine TO.index rfl dc rfl rfl (index_stringI Tryd.underlying9 hq4) (TO.bin rfl dc rfl rfl bin_eql (TO.pick (b := true) rfl dc rfl rfl (TO.assign rfl dc rfl (TO.nil (TX.next ?_)))))
            refine TC.condB rfl (fun hb18 => ?_) (fun hb18 => ?_)
            ·
             have h := condT hb18 h
             refine TC.region (TO.assign rfl dc rfl (TO.nil (TX.blockNormal ?_)))
             exact TX.meetD 2 h rfl (Sbs.cons rfl (Sbs.cons rfl (Sbs.cons rfl (Sbs.cons rfl (Sbs.cons rfl (Sbs.cons rfl (Sbs.cons rfl (Sbs.nil)))))))) (Splits.of [0, 1, 2, 3, 4, 5] kr rfl)
            ·
             have h := condF hb18 h
             refine TC.seq (TC.region (TO.move rfl dc rfl (TO.bin rfl dc rfl rfl bin_neq (TO.move rfl dc rfl ?_))))
             refine TO.split (s := 88) rfl (fun hb19 => ?_) (fun hb19 => ?_)
             ·
              have h := condT hb19 h
              refine TO.move rfl dc rfl (TO.bin rfl dc rfl rfl bin_neq (TO.pick (b := true) rfl dc rfl rfl (TO.assign rfl dc rfl (TO.nil (TX.next ?_)))))
              refine TC.condB rfl (fun hb20 => ?_) (fun hb20 => ?_)
              ·
               have h := condT hb20 h
               refine TC.exit (TX.blockOn dc (TX.thenExit (TX.blockHere ?_)))
               subst hag1
               exact TX.againD (n1, m10 ++ [(⟨(p21.i : Int), p17, p18, p19, p20⟩ : Gapi_Place)], m11, (p21.i : Int), p17 + 1, p22, p19, p20 + 1, line7, line8, m12 + 1, hd10, hd9) h (Nat.lt_succ_self _) rfl (Sbs.cons rfl (Sbs.cons rfl (Sbs.cons rfl (Sbs.cons rfl (Sbs.cons rfl (Sbs.nil)))))) (Splits.of [0, 1, 2, 3, 4, 5] kr rfl)
              ·
               have h := condF hb20 h
               refine TC.skip (TX.blockNormal ?_)
               exact TX.meetD 1 h rfl (Sbs.cons rfl (Sbs.cons rfl (Sbs.cons rfl (Sbs.cons rfl (Sbs.cons rfl (Sbs.cons rfl (Sbs.cons rfl (Sbs.nil)))))))) (Splits.of [0, 1, 2, 3, 4, 5] kr rfl)
             ·
              have h := condF hb19 h
              refine TO.skip rfl dc (TO.skip rfl dc (TO.pick (b := false) rfl dc rfl rfl (TO.assign rfl dc rfl (TO.nil (TX.next (TC.condF rfl (TC.skip (TX.blockNormal ?_))))))))
              exact TX.meetD 1 h rfl (Sbs.cons rfl (Sbs.cons rfl (Sbs.cons rfl (Sbs.cons rfl (Sbs.cons rfl (Sbs.cons rfl (Sbs.cons rfl (Sbs.nil)))))))) (Splits.of [0, 1, 2, 3, 4, 5] kr rfl)
           ·
            have h := condF hb17 h
            refine TO.skip rfl dc (TO.skip rfl dc (TO.skip rfl dc (TO.skip rfl dc (TO.skip rfl dc (TO.pick (b := false) rfl dc rfl rfl (TO.assign rfl dc rfl (TO.nil (TX.next (TC.condF rfl (TC.seq (TC.region (TO.move rfl dc rfl (TO.bin rfl dc rfl rfl bin_neq ?_)))))))))))))
            refine TO.move rfl dc rfl ?_
            refine TO.split (s := 88) rfl (fun hb21 => ?_) (fun hb21 => ?_)
            ·
             have h := condT hb21 h
             refine TO.move rfl dc rfl (TO.bin rfl dc rfl rfl bin_neq (TO.pick (b := true) rfl dc rfl rfl (TO.assign rfl dc rfl (TO.nil (TX.next ?_)))))
             refine TC.condB rfl (fun hb22 => ?_) (fun hb22 => ?_)
             ·
              have h := condT hb22 h
              refine TC.exit (TX.blockOn dc (TX.thenExit (TX.blockHere ?_)))
              subst hag1
              exact TX.againD (n1, m10 ++ [(⟨(p21.i : Int), p17, p18, p19, p20⟩ : Gapi_Place)], m11, (p21.i : Int), p17 + 1, p22, p19, p20 + 1, line7, line8, m12 + 1, hd10, hd9) h (Nat.lt_succ_self _) rfl (Sbs.cons rfl (Sbs.cons rfl (Sbs.cons rfl (Sbs.cons rfl (Sbs.cons rfl (Sbs.nil)))))) (Splits.of [0, 1, 2, 3, 4, 5] kr rfl)
             ·
              have h := condF hb22 h
              refine TC.skip (TX.blockNormal ?_)
              exact TX.meetD 1 h rfl (Sbs.cons rfl (Sbs.cons rfl (Sbs.cons rfl (Sbs.cons rfl (Sbs.cons rfl (Sbs.cons rfl (Sbs.cons rfl (Sbs.nil)))))))) (Splits.of [0, 1, 2, 3, 4, 5] kr rfl)
            ·
             have h := condF hb21 h
             refine TO.skip rfl dc (TO.skip rfl dc (TO.pick (b := false) rfl dc rfl rfl (TO.assign rfl dc rfl (TO.nil (TX.next (TC.condF rfl (TC.skip (TX.blockNormal ?_))))))))
             exact TX.meetD 1 h rfl (Sbs.cons rfl (Sbs.cons rfl (Sbs.cons rfl (Sbs.cons rfl (Sbs.cons rfl (Sbs.cons rfl (Sbs.cons rfl (Sbs.nil)))))))) (Splits.of [0, 1, 2, 3, 4, 5] kr rfl)
          ·
           have h := condF hb16 h
           refine TO.skip rfl dc (TO.skip rfl dc (TO.pick (b := false) rfl dc rfl rfl (TO.move rfl dc rfl (TO.skip rfl dc (TO.skip rfl dc (TO.skip rfl dc (TO.skip rfl dc (TO.skip rfl dc (TO.pick (b := false) rfl dc rfl rfl (TO.assign rfl dc rfl (TO.nil (TX.next (TC.condF rfl ?_)))))))))))))
           refine TC.seq (TC.region (TO.move rfl dc rfl (TO.bin rfl dc rfl rfl bin_neq (TO.move rfl dc rfl ?_))))
           refine TO.split (s := 88) rfl (fun hb23 => ?_) (fun hb23 => ?_)
           ·
            have h := condT hb23 h
            refine TO.move rfl dc rfl (TO.bin rfl dc rfl rfl bin_neq (TO.pick (b := true) rfl dc rfl rfl (TO.assign rfl dc rfl (TO.nil (TX.next ?_)))))
            refine TC.condB rfl (fun hb24 => ?_) (fun hb24 => ?_)
            ·
             have h := condT hb24 h
             refine TC.exit (TX.blockOn dc (TX.thenExit (TX.blockHere ?_)))
             subst hag1
             exact TX.againD (n1, m10 ++ [(⟨(p21.i : Int), p17, p18, p19, p20⟩ : Gapi_Place)], m11, (p21.i : Int), p17 + 1, p22, p19, p20 + 1, line7, line8, m12 + 1, hd10, hd9) h (Nat.lt_succ_self _) rfl (Sbs.cons rfl (Sbs.cons rfl (Sbs.cons rfl (Sbs.cons rfl (Sbs.cons rfl (Sbs.nil)))))) (Splits.of [0, 1, 2, 3, 4, 5] kr rfl)
            ·
             have h := condF hb24 h
             refine TC.skip (TX.blockNormal ?_)
             exact TX.meetD 1 h rfl (Sbs.cons rfl (Sbs.cons rfl (Sbs.cons rfl (Sbs.cons rfl (Sbs.cons rfl (Sbs.cons rfl (Sbs.cons rfl (Sbs.nil)))))))) (Splits.of [0, 1, 2, 3, 4, 5] kr rfl)
           ·
            have h := condF hb23 h
            refine TO.skip rfl dc (TO.skip rfl dc (TO.pick (b := false) rfl dc rfl rfl (TO.assign rfl dc rfl (TO.nil (TX.next (TC.condF rfl (TC.skip (TX.blockNormal ?_))))))))
            exact TX.meetD 1 h rfl (Sbs.cons rfl (Sbs.cons rfl (Sbs.cons rfl (Sbs.cons rfl (Sbs.cons rfl (Sbs.cons rfl (Sbs.cons rfl (Sbs.nil)))))))) (Splits.of [0, 1, 2, 3, 4, 5] kr rfl)
        ·
         have h := condF hb4 h
         refine TO.skip rfl dc (TO.skip rfl dc (TO.skip rfl dc (TO.skip rfl dc (TO.skip rfl dc (TO.pick (b := false) rfl dc rfl rfl (TO.move rfl dc rfl (TO.skip rfl dc (TO.skip rfl dc (TO.skip rfl dc (TO.skip rfl dc (TO.skip rfl dc (TO.pick (b := false) rfl dc rfl rfl (TO.assign rfl dc rfl ?_)))))))))))))
         refine TO.nil (TX.next (TC.condF rfl (TC.seq (TC.region (TO.move rfl dc rfl (TO.bin rfl dc rfl rfl bin_eql (TO.move rfl dc rfl ?_)))))))
         refine TO.split (s := 74) rfl (fun hb25 => ?_) (fun hb25 => ?_)
         ·
          have h := condT hb25 h
          refine TO.move rfl dc rfl (TO.bin rfl dc rfl rfl bin_gtr (TO.pick (b := true) rfl dc rfl rfl (TO.move rfl dc rfl ?_)))
          refine TO.split (s := 78) rfl (fun hb26 => ?_) (fun hb26 => ?_)
          ·
           have h := condT hb26 h
           refine TO.move rfl dc rfl (TO.move rfl dc rfl ?_)
           obtain ⟨hg10, h⟩ := grdE h
           refine TO.bin rfl dc rfl rfl (bin_sub (r := (p21.i : Int) - 1) (IntWalk.i64_in _ hg10)) ?_
           obtain ⟨c4, hq5, h⟩ := andE h
           refine TO.index rfl dc rfl rfl (index_stringI Tryd.underlying9 hq5) (TO.bin rfl dc rfl rfl bin_eql (TO.pick (b := true) rfl dc rfl rfl (TO.assign rfl dc rfl (TO.nil (TX.next ?_)))))
           refine TC.condB rfl (fun hb27 => ?_) (fun hb27 => ?_)
           ·
            have h := condT hb27 h
            refine TC.region (TO.assign rfl dc rfl (TO.nil (TX.blockNormal ?_)))
            exact TX.meetD 2 h rfl (Sbs.cons rfl (Sbs.cons rfl (Sbs.cons rfl (Sbs.cons rfl (Sbs.cons rfl (Sbs.cons rfl (Sbs.cons rfl (Sbs.nil)))))))) (Splits.of [0, 1, 2, 3, 4, 5] kr rfl)
           ·
            have h := condF hb27 h
            refine TC.seq (TC.region (TO.move rfl dc rfl (TO.bin rfl dc rfl rfl bin_neq (TO.move rfl dc rfl ?_))))
            refine TO.split (s := 88) rfl (fun hb28 => ?_) (fun hb28 => ?_)
            ·
             have h := condT hb28 h
             refine TO.move rfl dc rfl (TO.bin rfl dc rfl rfl bin_neq (TO.pick (b := true) rfl dc rfl rfl (TO.assign rfl dc rfl (TO.nil (TX.next ?_)))))
             refine TC.condB rfl (fun hb29 => ?_) (fun hb29 => ?_)
             ·
              have h := condT hb29 h
              refine TC.exit (TX.blockOn dc (TX.thenExit (TX.blockHere ?_)))
              subst hag1
              exact TX.againD (n1, m10 ++ [(⟨(p21.i : Int), p17, p18, p19, p20⟩ : Gapi_Place)], m11, (p21.i : Int), p17 + 1, p22, p19, p20 + 1, line7, line8, m12 + 1, hd10, hd9) h (Nat.lt_succ_self _) rfl (Sbs.cons rfl (Sbs.cons rfl (Sbs.cons rfl (Sbs.cons rfl (Sbs.cons rfl (Sbs.nil)))))) (Splits.of [0, 1, 2, 3, 4, 5] kr rfl)
             ·
              have h := condF hb29 h
              refine TC.skip (TX.blockNormal ?_)
              exact TX.meetD 1 h rfl (Sbs.cons rfl (Sbs.cons rfl (Sbs.cons rfl (Sbs.cons rfl (Sbs.cons rfl (Sbs.cons rfl (Sbs.cons rfl (Sbs.nil)))))))) (Splits.of [0, 1, 2, 3, 4, 5] kr rfl)
            ·
             have h := condF hb28 h
             refine TO.skip rfl dc (TO.skip rfl dc (TO.pick (b := false) rfl dc rfl rfl (TO.assign rfl dc rfl (TO.nil (TX.next (TC.condF rfl (TC.skip (TX.blockNormal ?_))))))))
             exact TX.meetD 1 h rfl (Sbs.cons rfl (Sbs.cons rfl (Sbs.cons rfl (Sbs.cons rfl (Sbs.cons rfl (Sbs.cons rfl (Sbs.cons rfl (Sbs.nil)))))))) (Splits.of [0, 1, 2, 3, 4, 5] kr rfl)
          ·
           have h := condF hb26 h
           refine TO.skip rfl dc (TO.skip rfl dc (TO.skip rfl dc (TO.skip rfl dc (TO.skip rfl dc (TO.pick (b := false) rfl dc rfl rfl (TO.assign rfl dc rfl (TO.nil (TX.next (TC.condF rfl (TC.seq (TC.region (TO.move rfl dc rfl (TO.bin rfl dc rfl rfl bin_neq ?_)))))))))))))
           refine TO.move rfl dc rfl ?_
           refine TO.split (s := 88) rfl (fun hb30 => ?_) (fun hb30 => ?_)
           ·
            have h := condT hb30 h
            refine TO.move rfl dc rfl (TO.bin rfl dc rfl rfl bin_neq (TO.pick (b := true) rfl dc rfl rfl (TO.assign rfl dc rfl (TO.nil (TX.next ?_)))))
            refine TC.condB rfl (fun hb31 => ?_) (fun hb31 => ?_)
            ·
             have h := condT hb31 h
             refine TC.exit (TX.blockOn dc (TX.thenExit (TX.blockHere ?_)))
             subst hag1
             exact TX.againD (n1, m10 ++ [(⟨(p21.i : Int), p17, p18, p19, p20⟩ : Gapi_Place)], m11, (p21.i : Int), p17 + 1, p22, p19, p20 + 1, line7, line8, m12 + 1, hd10, hd9) h (Nat.lt_succ_self _) rfl (Sbs.cons rfl (Sbs.cons rfl (Sbs.cons rfl (Sbs.cons rfl (Sbs.cons rfl (Sbs.nil)))))) (Splits.of [0, 1, 2, 3, 4, 5] kr rfl)
            ·
             have h := condF hb31 h
             refine TC.skip (TX.blockNormal ?_)
             exact TX.meetD 1 h rfl (Sbs.cons rfl (Sbs.cons rfl (Sbs.cons rfl (Sbs.cons rfl (Sbs.cons rfl (Sbs.cons rfl (Sbs.cons rfl (Sbs.nil)))))))) (Splits.of [0, 1, 2, 3, 4, 5] kr rfl)
           ·
            have h := condF hb30 h
            refine TO.skip rfl dc (TO.skip rfl dc (TO.pick (b := false) rfl dc rfl rfl (TO.assign rfl dc rfl (TO.nil (TX.next (TC.condF rfl (TC.skip (TX.blockNormal ?_))))))))
            exact TX.meetD 1 h rfl (Sbs.cons rfl (Sbs.cons rfl (Sbs.cons rfl (Sbs.cons rfl (Sbs.cons rfl (Sbs.cons rfl (Sbs.cons rfl (Sbs.nil)))))))) (Splits.of [0, 1, 2, 3, 4, 5] kr rfl)
         ·
          have h := condF hb25 h
          refine TO.skip rfl dc (TO.skip rfl dc (TO.pick (b := false) rfl dc rfl rfl (TO.move rfl dc rfl (TO.skip rfl dc (TO.skip rfl dc (TO.skip rfl dc (TO.skip rfl dc (TO.skip rfl dc (TO.pick (b := false) rfl dc rfl rfl (TO.assign rfl dc rfl (TO.nil (TX.next (TC.condF rfl ?_)))))))))))))
          refine TC.seq (TC.region (TO.move rfl dc rfl (TO.bin rfl dc rfl rfl bin_neq (TO.move rfl dc rfl ?_))))
          refine TO.split (s := 88) rfl (fun hb32 => ?_) (fun hb32 => ?_)
          ·
           have h := condT hb32 h
           refine TO.move rfl dc rfl (TO.bin rfl dc rfl rfl bin_neq (TO.pick (b := true) rfl dc rfl rfl (TO.assign rfl dc rfl (TO.nil (TX.next ?_)))))
           refine TC.condB rfl (fun hb33 => ?_) (fun hb33 => ?_)
           ·
            have h := condT hb33 h
            refine TC.exit (TX.blockOn dc (TX.thenExit (TX.blockHere ?_)))
            subst hag1
            exact TX.againD (n1, m10 ++ [(⟨(p21.i : Int), p17, p18, p19, p20⟩ : Gapi_Place)], m11, (p21.i : Int), p17 + 1, p22, p19, p20 + 1, line7, line8, m12 + 1, hd10, hd9) h (Nat.lt_succ_self _) rfl (Sbs.cons rfl (Sbs.cons rfl (Sbs.cons rfl (Sbs.cons rfl (Sbs.cons rfl (Sbs.nil)))))) (Splits.of [0, 1, 2, 3, 4, 5] kr rfl)
           ·
            have h := condF hb33 h
            refine TC.skip (TX.blockNormal ?_)
            exact TX.meetD 1 h rfl (Sbs.cons rfl (Sbs.cons rfl (Sbs.cons rfl (Sbs.cons rfl (Sbs.cons rfl (Sbs.cons rfl (Sbs.cons rfl (Sbs.nil)))))))) (Splits.of [0, 1, 2, 3, 4, 5] kr rfl)
          ·
           have h := condF hb32 h
           refine TO.skip rfl dc (TO.skip rfl dc (TO.pick (b := false) rfl dc rfl rfl (TO.assign rfl dc rfl (TO.nil (TX.next (TC.condF rfl (TC.skip (TX.blockNormal ?_))))))))
           exact TX.meetD 1 h rfl (Sbs.cons rfl (Sbs.cons rfl (Sbs.cons rfl (Sbs.cons rfl (Sbs.cons rfl (Sbs.cons rfl (Sbs.cons rfl (Sbs.nil)))))))) (Splits.of [0, 1, 2, 3, 4, 5] kr rfl)
       ·
        rintro width1 h
        rw [hj3] at h
        show TC _ _ _ _ _ ([]) _ _ [(0, .string s1), (4, .pointer (some ⟨b4, 0, none⟩)), (5, .pointer (some ⟨b5, 0, none⟩)), (6, .pointer (some ⟨b6, 0, none⟩)), (7, .int .i64 (p21.i : Int)), (9, .int .i64 width1), (19, .pointer (some ⟨b7, 0, none⟩))] [cells b4 [.string s1, hd10.v, hd9.v] 128, vec enc_Gapi_Place 130 5 hd10.v (m10 ++ [(⟨(p21.i : Int), p17, p18, p19, p20⟩ : Gapi_Place)]), vec enc_Gplace_ended 132 4 hd9.v m11, cells b5 [.int .i64 (p21.i : Int), .int .i64 (p17 + 1), .int .i64 p22, .int .i64 p19, .int .i64 (p20 + 1)] 130, cells b6 [.int .i64 line7, .int .i64 0, .int .i64 0, .int .i64 line8] 132, obj b7 (.stringIter s1 (posAt s1 (m12 + 1)))]
        refine TC.seq (TC.region (TO.move rfl dc rfl ?_))
        obtain ⟨hg11, h⟩ := grdE h
        refine TO.bin rfl dc rfl rfl (bin_add (r := (p21.i : Int) + 1) (IntWalk.i64_in _ hg11)) (TO.move rfl dc rfl ?_)
        obtain ⟨hg12, h⟩ := grdE h
        refine TO.bin rfl dc rfl rfl (bin_sub (r := ((p21.i : Int) + 1) - width1) (IntWalk.i64_in _ hg12)) (TO.fieldAddr fl_132_0 rfl dc rfl (show _ = 0 from rfl) (TO.fieldAddr fl_34_1 rfl dc rfl (show _ = 1 from rfl) ?_))
        refine TO.store (k := 4) (l' := [.int .i64 line7, .int .i64 (((p21.i : Int) + 1) - width1), .int .i64 0, .int .i64 line8]) sz_3 rfl rfl rfl rfl rfl (fun _ _ => rfl) rfl ?_
        refine TO.nil (TX.next (TC.seq (TC.region (TO.move rfl dc rfl (TO.fieldAddr fl_132_1 rfl dc rfl (show _ = 2 from rfl) ?_)))))
        refine TO.store (k := 4) (l' := [.int .i64 line7, .int .i64 (((p21.i : Int) + 1) - width1), .int .i64 width1, .int .i64 line8]) sz_3 rfl rfl rfl rfl rfl (fun _ _ => rfl) rfl ?_
        show TO _ _ _ _ _ _ _ _ _ _ [cells b4 [.string s1, hd10.v, hd9.v] 128, vec enc_Gapi_Place 130 5 hd10.v (m10 ++ [(⟨(p21.i : Int), p17, p18, p19, p20⟩ : Gapi_Place)]), vec enc_Gplace_ended 132 4 hd9.v m11, cells b5 [.int .i64 (p21.i : Int), .int .i64 (p17 + 1), .int .i64 p22, .int .i64 p19, .int .i64 (p20 + 1)] 130, cells b6 [.int .i64 line7, .int .i64 (((p21.i : Int) + 1) - width1), .int .i64 width1, .int .i64 line8] 132, obj b7 (.stringIter s1 (posAt s1 (m12 + 1)))]
        refine TO.nil (TX.next (TC.seq ?_))
        obtain ⟨hg13, h⟩ := grdE h
        refine TC.pad 1 ?_
        show TC _ _ _ _ _ _ _ _ _ [cells b4 [.string s1, hd10.v, hd9.v] 128, vec enc_Gapi_Place 130 5 hd10.v (m10 ++ [(⟨(p21.i : Int), p17, p18, p19, p20⟩ : Gapi_Place)]), vec enc_Gplace_ended 132 4 hd9.v m11, cells b5 [.int .i64 (p21.i : Int), .int .i64 (p17 + 1), .int .i64 p22, .int .i64 p19, .int .i64 (p20 + 1)] 130, cells b6 [.int .i64 line7, .int .i64 (((p21.i : Int) + 1) - width1), .int .i64 width1, .int .i64 line8] 132, obj b7 (.stringIter s1 (posAt s1 (m12 + 1))), emp]
        refine let vals2 : (Nat × Hd) → List (Nat × Nat × Value) := fun b => [(0, 100, .pointer (some ⟨b4, 0, none⟩)), (1, 101, .pointer (some ⟨b4, 0, none⟩)), (2, 102, .pointer (some ⟨b4, 0, none⟩)), (3, 103, .pointer (some ⟨b4, 2, none⟩)), (4, 104, hd9.v), (5, 105, .agg #[.int .i64 line7, .int .i64 (((p21.i : Int) + 1) - width1), .int .i64 width1, .int .i64 line8]), (6, 106, .slice (some ⟨b.1, 0, none⟩) 1 1), (7, 107, b.2.v)]; let LL2 : (Nat → Prop) → (Nat × Hd) → List Asn := fun D b => [cells b4 [.string s1, hd10.v, hd9.v] 128, vec enc_Gapi_Place 130 5 hd10.v (m10 ++ [(⟨(p21.i : Int), p17, p18, p19, p20⟩ : Gapi_Place)]), eD D (vec enc_Gplace_ended 132 4 hd9.v m11) [(7, vec enc_Gplace_ended 132 4 b.2.v (m11 ++ [(⟨line7, ((p21.i : Int) + 1) - width1, width1, line8⟩ : Gplace_ended)]))], cells b5 [.int .i64 (p21.i : Int), .int .i64 (p17 + 1), .int .i64 p22, .int .i64 p19, .int .i64 (p20 + 1)] 130, cells b6 [.int .i64 line7, .int .i64 (((p21.i : Int) + 1) - width1), .int .i64 width1, .int .i64 line8] 132, obj b7 (.stringIter s1 (posAt s1 (m12 + 1))), eD D emp [(6, cells b.1 [.int .i64 line7, .int .i64 (((p21.i : Int) + 1) - width1), .int .i64 width1, .int .i64 line8] 132)]]; ?_
        refine TC.drawG (β := Nat × Hd) 8 ((0 : Nat), Hd.nil) vals2 LL2 mixed kr kr dc (fun _ => rfl) (cons_eq rfl (cons_eq rfl (cons_eq eD_none (cons_eq rfl (cons_eq rfl (cons_eq rfl (cons_eq eD_none rfl))))))) (DrawG.cons ?_ (DrawG.cons ?_ (DrawG.cons ?_ (DrawG.cons ?_ (DrawG.cons ?_ (DrawG.cons ?_ (DrawG.cons ?_ (DrawG.cons ?_ DrawG.nil)))))))) ?_
        ·
         intro D b hn hd hcl
         obtain ⟨b9, hd12⟩ := b
         refine TO.rewL (L' := [cells b4 [.string s1, hd10.v, hd9.v] 128, vec enc_Gapi_Place 130 5 hd10.v (m10 ++ [(⟨(p21.i : Int), p17, p18, p19, p20⟩ : Gapi_Place)]), eD D (vec enc_Gplace_ended 132 4 hd9.v m11) [(7, vec enc_Gplace_ended 132 4 hd12.v (m11 ++ [(⟨line7, ((p21.i : Int) + 1) - width1, width1, line8⟩ : Gplace_ended)]))], cells b5 [.int .i64 (p21.i : Int), .int .i64 (p17 + 1), .int .i64 p22, .int .i64 p19, .int .i64 (p20 + 1)] 130, cells b6 [.int .i64 line7, .int .i64 (((p21.i : Int) + 1) - width1), .int .i64 width1, .int .i64 line8] 132, obj b7 (.stringIter s1 (posAt s1 (m12 + 1))), eD D emp [(6, cells b9 [.int .i64 line7, .int .i64 (((p21.i : Int) + 1) - width1), .int .i64 width1, .int .i64 line8] 132)]]) (cons_eq rfl (cons_eq rfl (cons_eq rfl (cons_eq rfl (cons_eq rfl (cons_eq rfl (cons_eq rfl rfl))))))) (TO.move rfl dc (dl_old (by rfl) rfl) ?_)
         exact TX.valG (b9, hd12) 0 (by rfl) (by rfl) rfl (dl_cons_eq (fun _ => rfl) (dl_cons_eq (fun _ => rfl) (dl_cons_eq (fun _ => rfl) (dl_cons_eq (fun _ => rfl) (dl_cons_eq (fun _ => rfl) (dl_cons_eq (fun _ => rfl) (dl_cons_eq (fun _ => rfl) (dl_cons_eq (fun _ => rfl) rfl)))))))) (cons_eq rfl (cons_eq rfl (cons_eq ((eD_skip (by rfl)).trans rfl) (cons_eq rfl (cons_eq rfl (cons_eq rfl (cons_eq ((eD_skip (by rfl)).trans rfl) rfl)))))))
        ·
         intro D b hn hd hcl
         obtain ⟨b9, hd12⟩ := b
         refine TO.rewL (L' := [cells b4 [.string s1, hd10.v, hd9.v] 128, vec enc_Gapi_Place 130 5 hd10.v (m10 ++ [(⟨(p21.i : Int), p17, p18, p19, p20⟩ : Gapi_Place)]), vec enc_Gplace_ended 132 4 hd9.v m11, cells b5 [.int .i64 (p21.i : Int), .int .i64 (p17 + 1), .int .i64 p22, .int .i64 p19, .int .i64 (p20 + 1)] 130, cells b6 [.int .i64 line7, .int .i64 (((p21.i : Int) + 1) - width1), .int .i64 width1, .int .i64 line8] 132, obj b7 (.stringIter s1 (posAt s1 (m12 + 1))), eD D emp [(6, cells b9 [.int .i64 line7, .int .i64 (((p21.i : Int) + 1) - width1), .int .i64 width1, .int .i64 line8] 132)]]) (cons_eq rfl (cons_eq rfl (cons_eq (eD_miss (fun hD => hn (hcl 2 _ rfl (hcl 3 _ rfl (hcl 4 _ rfl (hcl 7 _ rfl hD 4 dc) 3 dc) 2 dc) 1 dc)) eD_nil) (cons_eq rfl (cons_eq rfl (cons_eq rfl (cons_eq rfl rfl))))))) ?_
         refine TO.move rfl dc (dl_old (by rfl) rfl) ?_
         exact TX.valG (b9, hd12) 1 (by rfl) (by rfl) rfl (dl_cons_eq (fun _ => rfl) (dl_cons_eq (fun _ => rfl) (dl_cons_eq (fun _ => rfl) (dl_cons_eq (fun _ => rfl) (dl_cons_eq (fun _ => rfl) (dl_cons_eq (fun _ => rfl) (dl_cons_eq (fun _ => rfl) (dl_cons_eq (fun _ => rfl) rfl)))))))) (cons_eq rfl (cons_eq rfl (cons_eq ((eD_skip (by rfl)).trans (eD_miss (fun hD => hn (hcl 2 _ rfl (hcl 3 _ rfl (hcl 4 _ rfl (hcl 7 _ rfl hD 4 dc) 3 dc) 2 dc) 1 dc)) eD_nil)) (cons_eq rfl (cons_eq rfl (cons_eq rfl (cons_eq ((eD_skip (by rfl)).trans rfl) rfl)))))))
        ·
         intro D b hn hd hcl
         obtain ⟨b9, hd12⟩ := b
         refine TO.rewL (L' := [cells b4 [.string s1, hd10.v, hd9.v] 128, vec enc_Gapi_Place 130 5 hd10.v (m10 ++ [(⟨(p21.i : Int), p17, p18, p19, p20⟩ : Gapi_Place)]), vec enc_Gplace_ended 132 4 hd9.v m11, cells b5 [.int .i64 (p21.i : Int), .int .i64 (p17 + 1), .int .i64 p22, .int .i64 p19, .int .i64 (p20 + 1)] 130, cells b6 [.int .i64 line7, .int .i64 (((p21.i : Int) + 1) - width1), .int .i64 width1, .int .i64 line8] 132, obj b7 (.stringIter s1 (posAt s1 (m12 + 1))), eD D emp [(6, cells b9 [.int .i64 line7, .int .i64 (((p21.i : Int) + 1) - width1), .int .i64 width1, .int .i64 line8] 132)]]) (cons_eq rfl (cons_eq rfl (cons_eq (eD_miss (fun hD => hn (hcl 3 _ rfl (hcl 4 _ rfl (hcl 7 _ rfl hD 4 dc) 3 dc) 2 dc)) eD_nil) (cons_eq rfl (cons_eq rfl (cons_eq rfl (cons_eq rfl rfl))))))) ?_
         refine TO.nilCheck rfl dc (dl_lookup (m := 1) rfl rfl (hd 1 dc)) ?_
         exact TX.valG (b9, hd12) 2 (by rfl) (by rfl) rfl (dl_cons_eq (fun _ => rfl) (dl_cons_eq (fun _ => rfl) (dl_cons_eq (fun _ => rfl) (dl_cons_eq (fun _ => rfl) (dl_cons_eq (fun _ => rfl) (dl_cons_eq (fun _ => rfl) (dl_cons_eq (fun _ => rfl) (dl_cons_eq (fun _ => rfl) rfl)))))))) (cons_eq rfl (cons_eq rfl (cons_eq ((eD_skip (by rfl)).trans (eD_miss (fun hD => hn (hcl 3 _ rfl (hcl 4 _ rfl (hcl 7 _ rfl hD 4 dc) 3 dc) 2 dc)) eD_nil)) (cons_eq rfl (cons_eq rfl (cons_eq rfl (cons_eq ((eD_skip (by rfl)).trans rfl) rfl)))))))
        ·
         intro D b hn hd hcl
         obtain ⟨b9, hd12⟩ := b
         refine TO.rewL (L' := [cells b4 [.string s1, hd10.v, hd9.v] 128, vec enc_Gapi_Place 130 5 hd10.v (m10 ++ [(⟨(p21.i : Int), p17, p18, p19, p20⟩ : Gapi_Place)]), vec enc_Gplace_ended 132 4 hd9.v m11, cells b5 [.int .i64 (p21.i : Int), .int .i64 (p17 + 1), .int .i64 p22, .int .i64 p19, .int .i64 (p20 + 1)] 130, cells b6 [.int .i64 line7, .int .i64 (((p21.i : Int) + 1) - width1), .int .i64 width1, .int .i64 line8] 132, obj b7 (.stringIter s1 (posAt s1 (m12 + 1))), eD D emp [(6, cells b9 [.int .i64 line7, .int .i64 (((p21.i : Int) + 1) - width1), .int .i64 width1, .int .i64 line8] 132)]]) (cons_eq rfl (cons_eq rfl (cons_eq (eD_miss (fun hD => hn (hcl 4 _ rfl (hcl 7 _ rfl hD 4 dc) 3 dc)) eD_nil) (cons_eq rfl (cons_eq rfl (cons_eq rfl (cons_eq rfl rfl))))))) ?_
         refine TO.fieldAddr fl_128_2 rfl dc (dl_lookup (m := 2) rfl rfl (hd 2 dc)) (show _ = 2 from rfl) ?_
         exact TX.valG (b9, hd12) 3 (by rfl) (by rfl) rfl (dl_cons_eq (fun _ => rfl) (dl_cons_eq (fun _ => rfl) (dl_cons_eq (fun _ => rfl) (dl_cons_eq (fun _ => rfl) (dl_cons_eq (fun _ => rfl) (dl_cons_eq (fun _ => rfl) (dl_cons_eq (fun _ => rfl) (dl_cons_eq (fun _ => rfl) rfl)))))))) (cons_eq rfl (cons_eq rfl (cons_eq ((eD_skip (by rfl)).trans (eD_miss (fun hD => hn (hcl 4 _ rfl (hcl 7 _ rfl hD 4 dc) 3 dc)) eD_nil)) (cons_eq rfl (cons_eq rfl (cons_eq rfl (cons_eq ((eD_skip (by rfl)).trans rfl) rfl)))))))
        ·
         intro D b hn hd hcl
         obtain ⟨b9, hd12⟩ := b
         refine TO.rewL (L' := [cells b4 [.string s1, hd10.v, hd9.v] 128, vec enc_Gapi_Place 130 5 hd10.v (m10 ++ [(⟨(p21.i : Int), p17, p18, p19, p20⟩ : Gapi_Place)]), vec enc_Gplace_ended 132 4 hd9.v m11, cells b5 [.int .i64 (p21.i : Int), .int .i64 (p17 + 1), .int .i64 p22, .int .i64 p19, .int .i64 (p20 + 1)] 130, cells b6 [.int .i64 line7, .int .i64 (((p21.i : Int) + 1) - width1), .int .i64 width1, .int .i64 line8] 132, obj b7 (.stringIter s1 (posAt s1 (m12 + 1))), eD D emp [(6, cells b9 [.int .i64 line7, .int .i64 (((p21.i : Int) + 1) - width1), .int .i64 width1, .int .i64 line8] 132)]]) (cons_eq rfl (cons_eq rfl (cons_eq (eD_miss (fun hD => hn (hcl 7 _ rfl hD 4 dc)) eD_nil) (cons_eq rfl (cons_eq rfl (cons_eq rfl (cons_eq rfl rfl))))))) ?_
         refine TO.load (k := 0) sc_126 rfl dc (dl_lookup (m := 3) rfl rfl (hd 3 dc)) rfl rfl ?_
         exact TX.valG (b9, hd12) 4 (by rfl) (by rfl) rfl (dl_cons_eq (fun _ => rfl) (dl_cons_eq (fun _ => rfl) (dl_cons_eq (fun _ => rfl) (dl_cons_eq (fun _ => rfl) (dl_cons_eq (fun _ => rfl) (dl_cons_eq (fun _ => rfl) (dl_cons_eq (fun _ => rfl) (dl_cons_eq (fun _ => rfl) rfl)))))))) (cons_eq rfl (cons_eq rfl (cons_eq ((eD_skip (by rfl)).trans (eD_miss (fun hD => hn (hcl 7 _ rfl hD 4 dc)) eD_nil)) (cons_eq rfl (cons_eq rfl (cons_eq rfl (cons_eq ((eD_skip (by rfl)).trans rfl) rfl)))))))
        ·
         intro D b hn hd hcl
         obtain ⟨b9, hd12⟩ := b
         refine TO.rewL (L' := [cells b4 [.string s1, hd10.v, hd9.v] 128, vec enc_Gapi_Place 130 5 hd10.v (m10 ++ [(⟨(p21.i : Int), p17, p18, p19, p20⟩ : Gapi_Place)]), vec enc_Gplace_ended 132 4 hd9.v m11, cells b5 [.int .i64 (p21.i : Int), .int .i64 (p17 + 1), .int .i64 p22, .int .i64 p19, .int .i64 (p20 + 1)] 130, cells b6 [.int .i64 line7, .int .i64 (((p21.i : Int) + 1) - width1), .int .i64 width1, .int .i64 line8] 132, obj b7 (.stringIter s1 (posAt s1 (m12 + 1))), emp]) (cons_eq rfl (cons_eq rfl (cons_eq (eD_miss (fun hD => hn (hcl 6 _ rfl (hcl 7 _ rfl hD 6 dc) 5 dc)) eD_nil) (cons_eq rfl (cons_eq rfl (cons_eq rfl (cons_eq (eD_miss (fun hD => hn (hcl 6 _ rfl hD 5 dc)) eD_nil) rfl))))))) ?_
         refine TO.loads (k := 4) (cs := [.int .i64 line7, .int .i64 (((p21.i : Int) + 1) - width1), .int .i64 width1, .int .i64 line8]) rw_132 rfl dc (dl_old (by rfl) rfl) rfl rfl rfl ?_
         exact TX.valG (b9, hd12) 5 (by rfl) (by rfl) rfl (dl_cons_eq (fun _ => rfl) (dl_cons_eq (fun _ => rfl) (dl_cons_eq (fun _ => rfl) (dl_cons_eq (fun _ => rfl) (dl_cons_eq (fun _ => rfl) (dl_cons_eq (fun _ => rfl) (dl_cons_eq (fun _ => rfl) (dl_cons_eq (fun _ => rfl) rfl)))))))) (cons_eq rfl (cons_eq rfl (cons_eq ((eD_skip (by rfl)).trans (eD_miss (fun hD => hn (hcl 6 _ rfl (hcl 7 _ rfl hD 6 dc) 5 dc)) eD_nil)) (cons_eq rfl (cons_eq rfl (cons_eq rfl (cons_eq ((eD_skip (by rfl)).trans (eD_miss (fun hD => hn (hcl 6 _ rfl hD 5 dc)) eD_nil)) rfl)))))))
        ·
         intro D b hn hd hcl
         obtain ⟨_, hd12⟩ := b
         refine TO.rewL (L' := [cells b4 [.string s1, hd10.v, hd9.v] 128, vec enc_Gapi_Place 130 5 hd10.v (m10 ++ [(⟨(p21.i : Int), p17, p18, p19, p20⟩ : Gapi_Place)]), vec enc_Gplace_ended 132 4 hd9.v m11, cells b5 [.int .i64 (p21.i : Int), .int .i64 (p17 + 1), .int .i64 p22, .int .i64 p19, .int .i64 (p20 + 1)] 130, cells b6 [.int .i64 line7, .int .i64 (((p21.i : Int) + 1) - width1), .int .i64 width1, .int .i64 line8] 132, obj b7 (.stringIter s1 (posAt s1 (m12 + 1))), emp]) (cons_eq rfl (cons_eq rfl (cons_eq (eD_miss (fun hD => hn (hcl 7 _ rfl hD 6 dc)) eD_nil) (cons_eq rfl (cons_eq rfl (cons_eq rfl (cons_eq (eD_miss hn eD_nil) rfl))))))) ?_
         refine TO.buildSlice (cs := [.int .i64 line7, .int .i64 (((p21.i : Int) + 1) - width1), .int .i64 width1, .int .i64 line8]) (te := 132) (ps := [(0, .tmp 105)]) rfl dc (evP.cons (dl_lookup (m := 5) rfl rfl (hd 5 dc)) evP.nil) (fun _ => by kernel_rfl) (fun b9 => ?_)
         refine TO.place 6 rfl rfl ?_
         show TO _ _ _ _ _ _ _ _ _ _ [cells b4 [.string s1, hd10.v, hd9.v] 128, vec enc_Gapi_Place 130 5 hd10.v (m10 ++ [(⟨(p21.i : Int), p17, p18, p19, p20⟩ : Gapi_Place)]), vec enc_Gplace_ended 132 4 hd9.v m11, cells b5 [.int .i64 (p21.i : Int), .int .i64 (p17 + 1), .int .i64 p22, .int .i64 p19, .int .i64 (p20 + 1)] 130, cells b6 [.int .i64 line7, .int .i64 (((p21.i : Int) + 1) - width1), .int .i64 width1, .int .i64 line8] 132, obj b7 (.stringIter s1 (posAt s1 (m12 + 1))), cells b9 [.int .i64 line7, .int .i64 (((p21.i : Int) + 1) - width1), .int .i64 width1, .int .i64 line8] 132]
         exact TX.valG (b9, hd12) 6 (by rfl) (by rfl) rfl (dl_cons_eq (fun _ => rfl) (dl_cons_eq (fun _ => rfl) (dl_cons_eq (fun _ => rfl) (dl_cons_eq (fun _ => rfl) (dl_cons_eq (fun _ => rfl) (dl_cons_eq (fun _ => rfl) (dl_cons_eq (fun hD => absurd hD hn) (dl_cons_eq (fun _ => rfl) rfl)))))))) (cons_eq rfl (cons_eq rfl (cons_eq ((eD_skip (by rfl)).trans (eD_miss (fun hD => hn (hcl 7 _ rfl hD 6 dc)) eD_nil)) (cons_eq rfl (cons_eq rfl (cons_eq rfl (cons_eq (eD_hit (Or.inr rfl) rfl) rfl)))))))
        ·
         intro D b hn hd hcl
         obtain ⟨b9, _⟩ := b
         refine TO.rewL (L' := [cells b4 [.string s1, hd10.v, hd9.v] 128, vec enc_Gapi_Place 130 5 hd10.v (m10 ++ [(⟨(p21.i : Int), p17, p18, p19, p20⟩ : Gapi_Place)]), vec enc_Gplace_ended 132 4 hd9.v m11, cells b5 [.int .i64 (p21.i : Int), .int .i64 (p17 + 1), .int .i64 p22, .int .i64 p19, .int .i64 (p20 + 1)] 130, cells b6 [.int .i64 line7, .int .i64 (((p21.i : Int) + 1) - width1), .int .i64 width1, .int .i64 line8] 132, obj b7 (.stringIter s1 (posAt s1 (m12 + 1))), cells b9 [.int .i64 line7, .int .i64 (((p21.i : Int) + 1) - width1), .int .i64 width1, .int .i64 line8] 132]) (cons_eq rfl (cons_eq rfl (cons_eq (eD_miss hn eD_nil) (cons_eq rfl (cons_eq rfl (cons_eq rfl (cons_eq (eD_hit (hd 6 dc) rfl) rfl))))))) ?_
         refine TO.appendVec (k := 2) (k2 := 6) (ys := [(⟨line7, ((p21.i : Int) + 1) - width1, width1, line8⟩ : Gplace_ended)]) Tryd.underlying126 el_132 enc_Gplace_ended_len enc_Gplace_ended_one rfl dc (dl_lookup (m := 4) rfl rfl (hd 4 dc)) (dl_lookup (m := 6) rfl rfl (hd 6 dc)) rfl rfl rfl rfl hg13 (fun v2 => ?_)
         refine TO.nameHd (k := 2) rfl (fun hd12 he2 => ?_)
         subst he2
         exact TX.valG (b9, hd12) 7 (by rfl) (by rfl) rfl (dl_cons_eq (fun _ => rfl) (dl_cons_eq (fun _ => rfl) (dl_cons_eq (fun _ => rfl) (dl_cons_eq (fun _ => rfl) (dl_cons_eq (fun _ => rfl) (dl_cons_eq (fun _ => rfl) (dl_cons_eq (fun _ => rfl) (dl_cons_eq (fun hD => absurd hD hn) rfl)))))))) (cons_eq rfl (cons_eq rfl (cons_eq (eD_hit (Or.inr rfl) rfl) (cons_eq rfl (cons_eq rfl (cons_eq rfl (cons_eq ((eD_skip (by rfl)).trans (eD_hit (hd 6 dc) rfl)) rfl)))))))
        intro D b hall
        obtain ⟨b9, hd12⟩ := b
        refine TO.rewL (L' := [cells b4 [.string s1, hd10.v, hd9.v] 128, vec enc_Gapi_Place 130 5 hd10.v (m10 ++ [(⟨(p21.i : Int), p17, p18, p19, p20⟩ : Gapi_Place)]), vec enc_Gplace_ended 132 4 hd12.v (m11 ++ [(⟨line7, ((p21.i : Int) + 1) - width1, width1, line8⟩ : Gplace_ended)]), cells b5 [.int .i64 (p21.i : Int), .int .i64 (p17 + 1), .int .i64 p22, .int .i64 p19, .int .i64 (p20 + 1)] 130, cells b6 [.int .i64 line7, .int .i64 (((p21.i : Int) + 1) - width1), .int .i64 width1, .int .i64 line8] 132, obj b7 (.stringIter s1 (posAt s1 (m12 + 1))), cells b9 [.int .i64 line7, .int .i64 (((p21.i : Int) + 1) - width1), .int .i64 width1, .int .i64 line8] 132]) (cons_eq rfl (cons_eq rfl (cons_eq (eD_hit (hall 7 dc) rfl) (cons_eq rfl (cons_eq rfl (cons_eq rfl (cons_eq (eD_hit (hall 6 dc) rfl) rfl))))))) (TO.nilCheck rfl dc rfl (TO.fieldAddr fl_128_2 rfl dc rfl (show _ = 2 from rfl) ?_))
        refine TO.store (k := 0) (l' := [.string s1, hd10.v, hd12.v]) sz_126 rfl rfl rfl rfl rfl (fun _ _ => rfl) rfl ?_
        refine TO.nil (TX.next (TC.seq (TC.region (TO.move rfl dc rfl ?_))))
        obtain ⟨hg14, h⟩ := grdE h
        refine TO.bin rfl dc rfl rfl (bin_add (r := (p21.i : Int) + 1) (IntWalk.i64_in _ hg14)) ?_
        refine TO.build (v := .agg #[.int .i64 ((p21.i : Int) + 1), .int .i64 0]) (ps := [(0, .tmp 111)]) rfl dc rfl (fun _ => by kernel_rfl) ?_
        refine TO.move rfl dc rfl (TO.nilCheck rfl dc rfl (TO.fieldAddr fl_128_1 rfl dc rfl (show _ = 1 from rfl) (TO.load (k := 0) sc_125 rfl dc rfl rfl rfl (TO.lenVec (k := 1) rfl dc rfl rfl Tryd.underlying125 ?_))))
        refine TO.build (v := .agg #[.int .i64 ((p21.i : Int) + 1), .int .i64 0, .int .i64 0, .int .i64 ((m10 ++ [(⟨(p21.i : Int), p17, p18, p19, p20⟩ : Gapi_Place)]).length : Int)]) (ps := [(0, .tmp 112), (2, .tmp 117)]) rfl dc rfl (fun _ => by kernel_rfl) ?_
        refine TO.stores (k := 4) (vs := [.int .i64 ((p21.i : Int) + 1), .int .i64 0, .int .i64 0, .int .i64 ((m10 ++ [(⟨(p21.i : Int), p17, p18, p19, p20⟩ : Gapi_Place)]).length : Int)]) (l' := [.int .i64 ((p21.i : Int) + 1), .int .i64 0, .int .i64 0, .int .i64 ((m10 ++ [(⟨(p21.i : Int), p17, p18, p19, p20⟩ : Gapi_Place)]).length : Int)]) sz_132 rfl rfl rfl rfl rfl (show _ ≤ _ by simp) rfl rfl ?_
        show TO _ _ _ _ _ _ _ _ _ _ [cells b4 [.string s1, hd10.v, hd12.v] 128, vec enc_Gapi_Place 130 5 hd10.v (m10 ++ [(⟨(p21.i : Int), p17, p18, p19, p20⟩ : Gapi_Place)]), vec enc_Gplace_ended 132 4 hd12.v (m11 ++ [(⟨line7, ((p21.i : Int) + 1) - width1, width1, line8⟩ : Gplace_ended)]), cells b5 [.int .i64 (p21.i : Int), .int .i64 (p17 + 1), .int .i64 p22, .int .i64 p19, .int .i64 (p20 + 1)] 130, cells b6 [.int .i64 ((p21.i : Int) + 1), .int .i64 0, .int .i64 0, .int .i64 ((m10 ++ [(⟨(p21.i : Int), p17, p18, p19, p20⟩ : Gapi_Place)]).length : Int)] 132, obj b7 (.stringIter s1 (posAt s1 (m12 + 1))), cells b9 [.int .i64 line7, .int .i64 (((p21.i : Int) + 1) - width1), .int .i64 width1, .int .i64 line8] 132]
        refine TO.nil (TX.next (TC.seq (TC.region (TO.fieldAddr fl_130_3 rfl dc rfl (show _ = 3 from rfl) (TO.load (k := 3) sc_3 rfl dc rfl rfl rfl ?_)))))
        obtain ⟨hg15, h⟩ := grdE h
        refine TO.bin rfl dc rfl rfl (bin_add (r := p19 + 1) (IntWalk.i64_in _ hg15)) (TO.fieldAddr fl_130_3 rfl dc rfl (show _ = 3 from rfl) ?_)
        refine TO.store (k := 3) (l' := [.int .i64 (p21.i : Int), .int .i64 (p17 + 1), .int .i64 p22, .int .i64 (p19 + 1), .int .i64 (p20 + 1)]) sz_3 rfl rfl rfl rfl rfl (fun _ _ => rfl) rfl ?_
        refine TO.nil (TX.next (TC.region (TO.fieldAddr fl_130_4 rfl dc rfl (show _ = 4 from rfl) ?_)))
        refine TO.store (k := 3) (l' := [.int .i64 (p21.i : Int), .int .i64 (p17 + 1), .int .i64 p22, .int .i64 (p19 + 1), .int .i64 0]) sz_3 rfl rfl rfl rfl rfl (fun _ _ => rfl) rfl ?_
        show TO _ _ _ _ _ _ _ _ _ _ [cells b4 [.string s1, hd10.v, hd12.v] 128, vec enc_Gapi_Place 130 5 hd10.v (m10 ++ [(⟨(p21.i : Int), p17, p18, p19, p20⟩ : Gapi_Place)]), vec enc_Gplace_ended 132 4 hd12.v (m11 ++ [(⟨line7, ((p21.i : Int) + 1) - width1, width1, line8⟩ : Gplace_ended)]), cells b5 [.int .i64 (p21.i : Int), .int .i64 (p17 + 1), .int .i64 p22, .int .i64 (p19 + 1), .int .i64 0] 130, cells b6 [.int .i64 ((p21.i : Int) + 1), .int .i64 0, .int .i64 0, .int .i64 ((m10 ++ [(⟨(p21.i : Int), p17, p18, p19, p20⟩ : Gapi_Place)]).length : Int)] 132, obj b7 (.stringIter s1 (posAt s1 (m12 + 1))), cells b9 [.int .i64 line7, .int .i64 (((p21.i : Int) + 1) - width1), .int .i64 width1, .int .i64 line8] 132]
        refine TO.nil (TX.blockNormal ?_)
        subst hag1
        exact TX.againD (n1, m10 ++ [(⟨(p21.i : Int), p17, p18, p19, p20⟩ : Gapi_Place)], m11 ++ [(⟨line7, ((p21.i : Int) + 1) - width1, width1, line8⟩ : Gplace_ended)], (p21.i : Int), p17 + 1, p22, p19 + 1, 0, (p21.i : Int) + 1, ((m10 ++ [(⟨(p21.i : Int), p17, p18, p19, p20⟩ : Gapi_Place)]).length : Int), m12 + 1, hd10, hd12) h (Nat.lt_succ_self _) rfl (Sbs.cons rfl (Sbs.cons rfl (Sbs.cons rfl (Sbs.cons rfl (Sbs.cons rfl (Sbs.nil)))))) (Splits.of [0, 1, 2, 3, 4, 5] kr rfl)
     ·
      have h := condF hb2 h
      refine TO.nextEnd (k := 5) (m := m12) rfl dc rfl rfl (Nat.le_of_not_lt (of_decide_eq_false hb2)) (TO.extract rfl dc rfl rfl (TO.nil (TX.next (TC.seq (TC.condF rfl (TC.exit (TX.thenExit (TX.thenExit (TX.blockHere ?_)))))))))
      exact TX.meetD (m10, m11, p16, p17, p18, p19, p20, line7, line8, b4, hd8, hd9, b5, b6) h rfl (Sbs.cons rfl (Sbs.cons rfl (Sbs.cons rfl (Sbs.cons rfl (Sbs.nil))))) (Splits.of [0, 1, 2, 3, 4] kr rfl)
   ·
    rintro ⟨m1, m2, p1, p2, p3, p4, p5, line1, line2, b1, hd1, hd2, b2, b3⟩ h
    rw [hj1] at h
    show TC _ _ _ _ _ ([]) _ _ [(0, .string s1), (4, .pointer (some ⟨b1, 0, none⟩)), (5, .pointer (some ⟨b2, 0, none⟩)), (6, .pointer (some ⟨b3, 0, none⟩))] [cells b1 [.string s1, hd1.v, hd2.v] 128, vec enc_Gapi_Place 130 5 hd1.v m1, vec enc_Gplace_ended 132 4 hd2.v m2, cells b2 [.int .i64 p1, .int .i64 p2, .int .i64 p3, .int .i64 p4, .int .i64 p5] 130, cells b3 [.int .i64 line1, .int .i64 0, .int .i64 0, .int .i64 line2] 132]
    refine TC.seq (TC.region (TO.move rfl dc rfl (TO.lenStr rfl dc rfl Tryd.underlying9 (TO.fieldAddr fl_130_0 rfl dc rfl (show _ = 0 from rfl) ?_))))
    refine TO.store (k := 3) (l' := [.int .i64 (s1.size : Int), .int .i64 p2, .int .i64 p3, .int .i64 p4, .int .i64 p5]) sz_3 rfl rfl rfl rfl rfl (fun _ _ => rfl) rfl ?_
    refine TO.nil (TX.next (TC.seq ?_))
    obtain ⟨hg16, h⟩ := grdE h
    refine TC.pad 1 ?_
    show TC _ _ _ _ _ _ _ _ _ [cells b1 [.string s1, hd1.v, hd2.v] 128, vec enc_Gapi_Place 130 5 hd1.v m1, vec enc_Gplace_ended 132 4 hd2.v m2, cells b2 [.int .i64 (s1.size : Int), .int .i64 p2, .int .i64 p3, .int .i64 p4, .int .i64 p5] 130, cells b3 [.int .i64 line1, .int .i64 0, .int .i64 0, .int .i64 line2] 132, emp]
    refine let vals3 : (Nat × Hd) → List (Nat × Nat × Value) := fun b => [(0, 127, .pointer (some ⟨b1, 0, none⟩)), (1, 128, .pointer (some ⟨b1, 0, none⟩)), (2, 129, .pointer (some ⟨b1, 0, none⟩)), (3, 130, .pointer (some ⟨b1, 1, none⟩)), (4, 131, hd1.v), (5, 132, .agg #[.int .i64 (s1.size : Int), .int .i64 p2, .int .i64 p3, .int .i64 p4, .int .i64 p5]), (6, 133, .slice (some ⟨b.1, 0, none⟩) 1 1), (7, 134, b.2.v)]; let LL3 : (Nat → Prop) → (Nat × Hd) → List Asn := fun D b => [cells b1 [.string s1, hd1.v, hd2.v] 128, eD D (vec enc_Gapi_Place 130 5 hd1.v m1) [(7, vec enc_Gapi_Place 130 5 b.2.v (m1 ++ [(⟨(s1.size : Int), p2, p3, p4, p5⟩ : Gapi_Place)]))], vec enc_Gplace_ended 132 4 hd2.v m2, cells b2 [.int .i64 (s1.size : Int), .int .i64 p2, .int .i64 p3, .int .i64 p4, .int .i64 p5] 130, cells b3 [.int .i64 line1, .int .i64 0, .int .i64 0, .int .i64 line2] 132, eD D emp [(6, cells b.1 [.int .i64 (s1.size : Int), .int .i64 p2, .int .i64 p3, .int .i64 p4, .int .i64 p5] 130)]]; ?_
    refine TC.drawG (β := Nat × Hd) 8 ((0 : Nat), Hd.nil) vals3 LL3 mixed kr kr dc (fun _ => rfl) (cons_eq rfl (cons_eq eD_none (cons_eq rfl (cons_eq rfl (cons_eq rfl (cons_eq eD_none rfl)))))) (DrawG.cons ?_ (DrawG.cons ?_ (DrawG.cons ?_ (DrawG.cons ?_ (DrawG.cons ?_ (DrawG.cons ?_ (DrawG.cons ?_ (DrawG.cons ?_ DrawG.nil)))))))) ?_
    ·
     intro D b hn hd hcl
     obtain ⟨b10, hd13⟩ := b
     refine TO.rewL (L' := [cells b1 [.string s1, hd1.v, hd2.v] 128, eD D (vec enc_Gapi_Place 130 5 hd1.v m1) [(7, vec enc_Gapi_Place 130 5 hd13.v (m1 ++ [(⟨(s1.size : Int), p2, p3, p4, p5⟩ : Gapi_Place)]))], vec enc_Gplace_ended 132 4 hd2.v m2, cells b2 [.int .i64 (s1.size : Int), .int .i64 p2, .int .i64 p3, .int .i64 p4, .int .i64 p5] 130, cells b3 [.int .i64 line1, .int .i64 0, .int .i64 0, .int .i64 line2] 132, eD D emp [(6, cells b10 [.int .i64 (s1.size : Int), .int .i64 p2, .int .i64 p3, .int .i64 p4, .int .i64 p5] 130)]]) (cons_eq rfl (cons_eq rfl (cons_eq rfl (cons_eq rfl (cons_eq rfl (cons_eq rfl rfl)))))) (TO.move rfl dc (dl_old (by rfl) rfl) ?_)
     exact TX.valG (b10, hd13) 0 (by rfl) (by rfl) rfl (dl_cons_eq (fun _ => rfl) (dl_cons_eq (fun _ => rfl) (dl_cons_eq (fun _ => rfl) (dl_cons_eq (fun _ => rfl) (dl_cons_eq (fun _ => rfl) (dl_cons_eq (fun _ => rfl) (dl_cons_eq (fun _ => rfl) (dl_cons_eq (fun _ => rfl) rfl)))))))) (cons_eq rfl (cons_eq ((eD_skip (by rfl)).trans rfl) (cons_eq rfl (cons_eq rfl (cons_eq rfl (cons_eq ((eD_skip (by rfl)).trans rfl) rfl))))))
    ·
     intro D b hn hd hcl
     obtain ⟨b10, hd13⟩ := b
     refine TO.rewL (L' := [cells b1 [.string s1, hd1.v, hd2.v] 128, vec enc_Gapi_Place 130 5 hd1.v m1, vec enc_Gplace_ended 132 4 hd2.v m2, cells b2 [.int .i64 (s1.size : Int), .int .i64 p2, .int .i64 p3, .int .i64 p4, .int .i64 p5] 130, cells b3 [.int .i64 line1, .int .i64 0, .int .i64 0, .int .i64 line2] 132, eD D emp [(6, cells b10 [.int .i64 (s1.size : Int), .int .i64 p2, .int .i64 p3, .int .i64 p4, .int .i64 p5] 130)]]) (cons_eq rfl (cons_eq (eD_miss (fun hD => hn (hcl 2 _ rfl (hcl 3 _ rfl (hcl 4 _ rfl (hcl 7 _ rfl hD 4 dc) 3 dc) 2 dc) 1 dc)) eD_nil) (cons_eq rfl (cons_eq rfl (cons_eq rfl (cons_eq rfl rfl)))))) ?_
     refine TO.move rfl dc (dl_old (by rfl) rfl) ?_
     exact TX.valG (b10, hd13) 1 (by rfl) (by rfl) rfl (dl_cons_eq (fun _ => rfl) (dl_cons_eq (fun _ => rfl) (dl_cons_eq (fun _ => rfl) (dl_cons_eq (fun _ => rfl) (dl_cons_eq (fun _ => rfl) (dl_cons_eq (fun _ => rfl) (dl_cons_eq (fun _ => rfl) (dl_cons_eq (fun _ => rfl) rfl)))))))) (cons_eq rfl (cons_eq ((eD_skip (by rfl)).trans (eD_miss (fun hD => hn (hcl 2 _ rfl (hcl 3 _ rfl (hcl 4 _ rfl (hcl 7 _ rfl hD 4 dc) 3 dc) 2 dc) 1 dc)) eD_nil)) (cons_eq rfl (cons_eq rfl (cons_eq rfl (cons_eq ((eD_skip (by rfl)).trans rfl) rfl))))))
    ·
     intro D b hn hd hcl
     obtain ⟨b10, hd13⟩ := b
     refine TO.rewL (L' := [cells b1 [.string s1, hd1.v, hd2.v] 128, vec enc_Gapi_Place 130 5 hd1.v m1, vec enc_Gplace_ended 132 4 hd2.v m2, cells b2 [.int .i64 (s1.size : Int), .int .i64 p2, .int .i64 p3, .int .i64 p4, .int .i64 p5] 130, cells b3 [.int .i64 line1, .int .i64 0, .int .i64 0, .int .i64 line2] 132, eD D emp [(6, cells b10 [.int .i64 (s1.size : Int), .int .i64 p2, .int .i64 p3, .int .i64 p4, .int .i64 p5] 130)]]) (cons_eq rfl (cons_eq (eD_miss (fun hD => hn (hcl 3 _ rfl (hcl 4 _ rfl (hcl 7 _ rfl hD 4 dc) 3 dc) 2 dc)) eD_nil) (cons_eq rfl (cons_eq rfl (cons_eq rfl (cons_eq rfl rfl)))))) ?_
     refine TO.nilCheck rfl dc (dl_lookup (m := 1) rfl rfl (hd 1 dc)) ?_
     exact TX.valG (b10, hd13) 2 (by rfl) (by rfl) rfl (dl_cons_eq (fun _ => rfl) (dl_cons_eq (fun _ => rfl) (dl_cons_eq (fun _ => rfl) (dl_cons_eq (fun _ => rfl) (dl_cons_eq (fun _ => rfl) (dl_cons_eq (fun _ => rfl) (dl_cons_eq (fun _ => rfl) (dl_cons_eq (fun _ => rfl) rfl)))))))) (cons_eq rfl (cons_eq ((eD_skip (by rfl)).trans (eD_miss (fun hD => hn (hcl 3 _ rfl (hcl 4 _ rfl (hcl 7 _ rfl hD 4 dc) 3 dc) 2 dc)) eD_nil)) (cons_eq rfl (cons_eq rfl (cons_eq rfl (cons_eq ((eD_skip (by rfl)).trans rfl) rfl))))))
    ·
     intro D b hn hd hcl
     obtain ⟨b10, hd13⟩ := b
     refine TO.rewL (L' := [cells b1 [.string s1, hd1.v, hd2.v] 128, vec enc_Gapi_Place 130 5 hd1.v m1, vec enc_Gplace_ended 132 4 hd2.v m2, cells b2 [.int .i64 (s1.size : Int), .int .i64 p2, .int .i64 p3, .int .i64 p4, .int .i64 p5] 130, cells b3 [.int .i64 line1, .int .i64 0, .int .i64 0, .int .i64 line2] 132, eD D emp [(6, cells b10 [.int .i64 (s1.size : Int), .int .i64 p2, .int .i64 p3, .int .i64 p4, .int .i64 p5] 130)]]) (cons_eq rfl (cons_eq (eD_miss (fun hD => hn (hcl 4 _ rfl (hcl 7 _ rfl hD 4 dc) 3 dc)) eD_nil) (cons_eq rfl (cons_eq rfl (cons_eq rfl (cons_eq rfl rfl)))))) ?_
     refine TO.fieldAddr fl_128_1 rfl dc (dl_lookup (m := 2) rfl rfl (hd 2 dc)) (show _ = 1 from rfl) ?_
     exact TX.valG (b10, hd13) 3 (by rfl) (by rfl) rfl (dl_cons_eq (fun _ => rfl) (dl_cons_eq (fun _ => rfl) (dl_cons_eq (fun _ => rfl) (dl_cons_eq (fun _ => rfl) (dl_cons_eq (fun _ => rfl) (dl_cons_eq (fun _ => rfl) (dl_cons_eq (fun _ => rfl) (dl_cons_eq (fun _ => rfl) rfl)))))))) (cons_eq rfl (cons_eq ((eD_skip (by rfl)).trans (eD_miss (fun hD => hn (hcl 4 _ rfl (hcl 7 _ rfl hD 4 dc) 3 dc)) eD_nil)) (cons_eq rfl (cons_eq rfl (cons_eq rfl (cons_eq ((eD_skip (by rfl)).trans rfl) rfl))))))
    ·
     intro D b hn hd hcl
     obtain ⟨b10, hd13⟩ := b
     refine TO.rewL (L' := [cells b1 [.string s1, hd1.v, hd2.v] 128, vec enc_Gapi_Place 130 5 hd1.v m1, vec enc_Gplace_ended 132 4 hd2.v m2, cells b2 [.int .i64 (s1.size : Int), .int .i64 p2, .int .i64 p3, .int .i64 p4, .int .i64 p5] 130, cells b3 [.int .i64 line1, .int .i64 0, .int .i64 0, .int .i64 line2] 132, eD D emp [(6, cells b10 [.int .i64 (s1.size : Int), .int .i64 p2, .int .i64 p3, .int .i64 p4, .int .i64 p5] 130)]]) (cons_eq rfl (cons_eq (eD_miss (fun hD => hn (hcl 7 _ rfl hD 4 dc)) eD_nil) (cons_eq rfl (cons_eq rfl (cons_eq rfl (cons_eq rfl rfl)))))) ?_
     refine TO.load (k := 0) sc_125 rfl dc (dl_lookup (m := 3) rfl rfl (hd 3 dc)) rfl rfl ?_
     exact TX.valG (b10, hd13) 4 (by rfl) (by rfl) rfl (dl_cons_eq (fun _ => rfl) (dl_cons_eq (fun _ => rfl) (dl_cons_eq (fun _ => rfl) (dl_cons_eq (fun _ => rfl) (dl_cons_eq (fun _ => rfl) (dl_cons_eq (fun _ => rfl) (dl_cons_eq (fun _ => rfl) (dl_cons_eq (fun _ => rfl) rfl)))))))) (cons_eq rfl (cons_eq ((eD_skip (by rfl)).trans (eD_miss (fun hD => hn (hcl 7 _ rfl hD 4 dc)) eD_nil)) (cons_eq rfl (cons_eq rfl (cons_eq rfl (cons_eq ((eD_skip (by rfl)).trans rfl) rfl))))))
    ·
     intro D b hn hd hcl
     obtain ⟨b10, hd13⟩ := b
     refine TO.rewL (L' := [cells b1 [.string s1, hd1.v, hd2.v] 128, vec enc_Gapi_Place 130 5 hd1.v m1, vec enc_Gplace_ended 132 4 hd2.v m2, cells b2 [.int .i64 (s1.size : Int), .int .i64 p2, .int .i64 p3, .int .i64 p4, .int .i64 p5] 130, cells b3 [.int .i64 line1, .int .i64 0, .int .i64 0, .int .i64 line2] 132, emp]) (cons_eq rfl (cons_eq (eD_miss (fun hD => hn (hcl 6 _ rfl (hcl 7 _ rfl hD 6 dc) 5 dc)) eD_nil) (cons_eq rfl (cons_eq rfl (cons_eq rfl (cons_eq (eD_miss (fun hD => hn (hcl 6 _ rfl hD 5 dc)) eD_nil) rfl)))))) ?_
     refine TO.loads (k := 3) (cs := [.int .i64 (s1.size : Int), .int .i64 p2, .int .i64 p3, .int .i64 p4, .int .i64 p5]) rw_130 rfl dc (dl_old (by rfl) rfl) rfl rfl rfl ?_
     exact TX.valG (b10, hd13) 5 (by rfl) (by rfl) rfl (dl_cons_eq (fun _ => rfl) (dl_cons_eq (fun _ => rfl) (dl_cons_eq (fun _ => rfl) (dl_cons_eq (fun _ => rfl) (dl_cons_eq (fun _ => rfl) (dl_cons_eq (fun _ => rfl) (dl_cons_eq (fun _ => rfl) (dl_cons_eq (fun _ => rfl) rfl)))))))) (cons_eq rfl (cons_eq ((eD_skip (by rfl)).trans (eD_miss (fun hD => hn (hcl 6 _ rfl (hcl 7 _ rfl hD 6 dc) 5 dc)) eD_nil)) (cons_eq rfl (cons_eq rfl (cons_eq rfl (cons_eq ((eD_skip (by rfl)).trans (eD_miss (fun hD => hn (hcl 6 _ rfl hD 5 dc)) eD_nil)) rfl))))))
    ·
     intro D b hn hd hcl
     obtain ⟨_, hd13⟩ := b
     refine TO.rewL (L' := [cells b1 [.string s1, hd1.v, hd2.v] 128, vec enc_Gapi_Place 130 5 hd1.v m1, vec enc_Gplace_ended 132 4 hd2.v m2, cells b2 [.int .i64 (s1.size : Int), .int .i64 p2, .int .i64 p3, .int .i64 p4, .int .i64 p5] 130, cells b3 [.int .i64 line1, .int .i64 0, .int .i64 0, .int .i64 line2] 132, emp]) (cons_eq rfl (cons_eq (eD_miss (fun hD => hn (hcl 7 _ rfl hD 6 dc)) eD_nil) (cons_eq rfl (cons_eq rfl (cons_eq rfl (cons_eq (eD_miss hn eD_nil) rfl)))))) ?_
     refine TO.buildSlice (cs := [.int .i64 (s1.size : Int), .int .i64 p2, .int .i64 p3, .int .i64 p4, .int .i64 p5]) (te := 130) (ps := [(0, .tmp 132)]) rfl dc (evP.cons (dl_lookup (m := 5) rfl rfl (hd 5 dc)) evP.nil) (fun _ => by kernel_rfl) (fun b10 => ?_)
     show TO _ _ _ _ _ _ _ _ _ _ [cells b1 [.string s1, hd1.v, hd2.v] 128, vec enc_Gapi_Place 130 5 hd1.v m1, vec enc_Gplace_ended 132 4 hd2.v m2, cells b2 [.int .i64 (s1.size : Int), .int .i64 p2, .int .i64 p3, .int .i64 p4, .int .i64 p5] 130, cells b3 [.int .i64 line1, .int .i64 0, .int .i64 0, .int .i64 line2] 132, emp, cells b10 [.int .i64 (s1.size : Int), .int .i64 p2, .int .i64 p3, .int .i64 p4, .int .i64 p5] 130]
     refine TO.place 5 rfl rfl ?_
     show TO _ _ _ _ _ _ _ _ _ _ [cells b1 [.string s1, hd1.v, hd2.v] 128, vec enc_Gapi_Place 130 5 hd1.v m1, vec enc_Gplace_ended 132 4 hd2.v m2, cells b2 [.int .i64 (s1.size : Int), .int .i64 p2, .int .i64 p3, .int .i64 p4, .int .i64 p5] 130, cells b3 [.int .i64 line1, .int .i64 0, .int .i64 0, .int .i64 line2] 132, cells b10 [.int .i64 (s1.size : Int), .int .i64 p2, .int .i64 p3, .int .i64 p4, .int .i64 p5] 130]
     exact TX.valG (b10, hd13) 6 (by rfl) (by rfl) rfl (dl_cons_eq (fun _ => rfl) (dl_cons_eq (fun _ => rfl) (dl_cons_eq (fun _ => rfl) (dl_cons_eq (fun _ => rfl) (dl_cons_eq (fun _ => rfl) (dl_cons_eq (fun _ => rfl) (dl_cons_eq (fun hD => absurd hD hn) (dl_cons_eq (fun _ => rfl) rfl)))))))) (cons_eq rfl (cons_eq ((eD_skip (by rfl)).trans (eD_miss (fun hD => hn (hcl 7 _ rfl hD 6 dc)) eD_nil)) (cons_eq rfl (cons_eq rfl (cons_eq rfl (cons_eq (eD_hit (Or.inr rfl) rfl) rfl))))))
    ·
     intro D b hn hd hcl
     obtain ⟨b10, _⟩ := b
     refine TO.rewL (L' := [cells b1 [.string s1, hd1.v, hd2.v] 128, vec enc_Gapi_Place 130 5 hd1.v m1, vec enc_Gplace_ended 132 4 hd2.v m2, cells b2 [.int .i64 (s1.size : Int), .int .i64 p2, .int .i64 p3, .int .i64 p4, .int .i64 p5] 130, cells b3 [.int .i64 line1, .int .i64 0, .int .i64 0, .int .i64 line2] 132, cells b10 [.int .i64 (s1.size : Int), .int .i64 p2, .int .i64 p3, .int .i64 p4, .int .i64 p5] 130]) (cons_eq rfl (cons_eq (eD_miss hn eD_nil) (cons_eq rfl (cons_eq rfl (cons_eq rfl (cons_eq (eD_hit (hd 6 dc) rfl) rfl)))))) ?_
     refine TO.appendVec (k := 1) (k2 := 5) (ys := [(⟨(s1.size : Int), p2, p3, p4, p5⟩ : Gapi_Place)]) Tryd.underlying125 el_130 enc_Gapi_Place_len enc_Gapi_Place_one rfl dc (dl_lookup (m := 4) rfl rfl (hd 4 dc)) (dl_lookup (m := 6) rfl rfl (hd 6 dc)) rfl rfl rfl rfl hg16 (fun v3 => ?_)
     refine TO.nameHd (k := 1) rfl (fun hd13 he3 => ?_)
     subst he3
     show TO _ _ _ _ _ _ _ _ _ _ [cells b1 [.string s1, hd1.v, hd2.v] 128, vec enc_Gapi_Place 130 5 hd13.v (m1 ++ [(⟨(s1.size : Int), p2, p3, p4, p5⟩ : Gapi_Place)]), vec enc_Gplace_ended 132 4 hd2.v m2, cells b2 [.int .i64 (s1.size : Int), .int .i64 p2, .int .i64 p3, .int .i64 p4, .int .i64 p5] 130, cells b3 [.int .i64 line1, .int .i64 0, .int .i64 0, .int .i64 line2] 132, cells b10 [.int .i64 (s1.size : Int), .int .i64 p2, .int .i64 p3, .int .i64 p4, .int .i64 p5] 130]
     exact TX.valG (b10, hd13) 7 (by rfl) (by rfl) rfl (dl_cons_eq (fun _ => rfl) (dl_cons_eq (fun _ => rfl) (dl_cons_eq (fun _ => rfl) (dl_cons_eq (fun _ => rfl) (dl_cons_eq (fun _ => rfl) (dl_cons_eq (fun _ => rfl) (dl_cons_eq (fun _ => rfl) (dl_cons_eq (fun hD => absurd hD hn) rfl)))))))) (cons_eq rfl (cons_eq (eD_hit (Or.inr rfl) rfl) (cons_eq rfl (cons_eq rfl (cons_eq rfl (cons_eq ((eD_skip (by rfl)).trans (eD_hit (hd 6 dc) rfl)) rfl))))))
    intro D b hall
    obtain ⟨b10, hd13⟩ := b
    refine TO.rewL (L' := [cells b1 [.string s1, hd1.v, hd2.v] 128, vec enc_Gapi_Place 130 5 hd13.v (m1 ++ [(⟨(s1.size : Int), p2, p3, p4, p5⟩ : Gapi_Place)]), vec enc_Gplace_ended 132 4 hd2.v m2, cells b2 [.int .i64 (s1.size : Int), .int .i64 p2, .int .i64 p3, .int .i64 p4, .int .i64 p5] 130, cells b3 [.int .i64 line1, .int .i64 0, .int .i64 0, .int .i64 line2] 132, cells b10 [.int .i64 (s1.size : Int), .int .i64 p2, .int .i64 p3, .int .i64 p4, .int .i64 p5] 130]) (cons_eq rfl (cons_eq (eD_hit (hall 7 dc) rfl) (cons_eq rfl (cons_eq rfl (cons_eq rfl (cons_eq (eD_hit (hall 6 dc) rfl) rfl)))))) (TO.nilCheck rfl dc rfl (TO.fieldAddr fl_128_1 rfl dc rfl (show _ = 1 from rfl) ?_))
    refine TO.store (k := 0) (l' := [.string s1, hd13.v, hd2.v]) sz_125 rfl rfl rfl rfl rfl (fun _ _ => rfl) rfl ?_
    show TO _ _ _ _ _ _ _ _ _ _ [cells b1 [.string s1, hd13.v, hd2.v] 128, vec enc_Gapi_Place 130 5 hd13.v (m1 ++ [(⟨(s1.size : Int), p2, p3, p4, p5⟩ : Gapi_Place)]), vec enc_Gplace_ended 132 4 hd2.v m2, cells b2 [.int .i64 (s1.size : Int), .int .i64 p2, .int .i64 p3, .int .i64 p4, .int .i64 p5] 130, cells b3 [.int .i64 line1, .int .i64 0, .int .i64 0, .int .i64 line2] 132, cells b10 [.int .i64 (s1.size : Int), .int .i64 p2, .int .i64 p3, .int .i64 p4, .int .i64 p5] 130]
    refine TO.nil (TX.next (TC.seq (TC.region (TO.move rfl dc rfl (TO.lenStr rfl dc rfl Tryd.underlying9 (TO.fieldAddr fl_132_0 rfl dc rfl (show _ = 0 from rfl) (TO.fieldAddr fl_34_1 rfl dc rfl (show _ = 1 from rfl) ?_)))))))
    refine TO.store (k := 4) (l' := [.int .i64 line1, .int .i64 (s1.size : Int), .int .i64 0, .int .i64 line2]) sz_3 rfl rfl rfl rfl rfl (fun _ _ => rfl) rfl ?_
    refine TO.nil (TX.next (TC.seq ?_))
    obtain ⟨hg17, h⟩ := grdE h
    refine TC.pad 1 ?_
    show TC _ _ _ _ _ _ _ _ _ [cells b1 [.string s1, hd13.v, hd2.v] 128, vec enc_Gapi_Place 130 5 hd13.v (m1 ++ [(⟨(s1.size : Int), p2, p3, p4, p5⟩ : Gapi_Place)]), vec enc_Gplace_ended 132 4 hd2.v m2, cells b2 [.int .i64 (s1.size : Int), .int .i64 p2, .int .i64 p3, .int .i64 p4, .int .i64 p5] 130, cells b3 [.int .i64 line1, .int .i64 (s1.size : Int), .int .i64 0, .int .i64 line2] 132, cells b10 [.int .i64 (s1.size : Int), .int .i64 p2, .int .i64 p3, .int .i64 p4, .int .i64 p5] 130, emp]
    refine let vals4 : (Nat × Hd) → List (Nat × Nat × Value) := fun b => [(0, 141, .pointer (some ⟨b1, 0, none⟩)), (1, 142, .pointer (some ⟨b1, 0, none⟩)), (2, 143, .pointer (some ⟨b1, 0, none⟩)), (3, 144, .pointer (some ⟨b1, 2, none⟩)), (4, 145, hd2.v), (5, 146, .agg #[.int .i64 line1, .int .i64 (s1.size : Int), .int .i64 0, .int .i64 line2]), (6, 147, .slice (some ⟨b.1, 0, none⟩) 1 1), (7, 148, b.2.v)]; let LL4 : (Nat → Prop) → (Nat × Hd) → List Asn := fun D b => [cells b1 [.string s1, hd13.v, hd2.v] 128, vec enc_Gapi_Place 130 5 hd13.v (m1 ++ [(⟨(s1.size : Int), p2, p3, p4, p5⟩ : Gapi_Place)]), eD D (vec enc_Gplace_ended 132 4 hd2.v m2) [(7, vec enc_Gplace_ended 132 4 b.2.v (m2 ++ [(⟨line1, (s1.size : Int), 0, line2⟩ : Gplace_ended)]))], cells b2 [.int .i64 (s1.size : Int), .int .i64 p2, .int .i64 p3, .int .i64 p4, .int .i64 p5] 130, cells b3 [.int .i64 line1, .int .i64 (s1.size : Int), .int .i64 0, .int .i64 line2] 132, cells b10 [.int .i64 (s1.size : Int), .int .i64 p2, .int .i64 p3, .int .i64 p4, .int .i64 p5] 130, eD D emp [(6, cells b.1 [.int .i64 line1, .int .i64 (s1.size : Int), .int .i64 0, .int .i64 line2] 132)]]; ?_
    refine TC.drawG (β := Nat × Hd) 8 ((0 : Nat), Hd.nil) vals4 LL4 mixed kr kr dc (fun _ => rfl) (cons_eq rfl (cons_eq rfl (cons_eq eD_none (cons_eq rfl (cons_eq rfl (cons_eq rfl (cons_eq eD_none rfl))))))) (DrawG.cons ?_ (DrawG.cons ?_ (DrawG.cons ?_ (DrawG.cons ?_ (DrawG.cons ?_ (DrawG.cons ?_ (DrawG.cons ?_ (DrawG.cons ?_ DrawG.nil)))))))) ?_
    ·
     intro D b hn hd hcl
     obtain ⟨b11, hd14⟩ := b
     refine TO.rewL (L' := [cells b1 [.string s1, hd13.v, hd2.v] 128, vec enc_Gapi_Place 130 5 hd13.v (m1 ++ [(⟨(s1.size : Int), p2, p3, p4, p5⟩ : Gapi_Place)]), eD D (vec enc_Gplace_ended 132 4 hd2.v m2) [(7, vec enc_Gplace_ended 132 4 hd14.v (m2 ++ [(⟨line1, (s1.size : Int), 0, line2⟩ : Gplace_ended)]))], cells b2 [.int .i64 (s1.size : Int), .int .i64 p2, .int .i64 p3, .int .i64 p4, .int .i64 p5] 130, cells b3 [.int .i64 line1, .int .i64 (s1.size : Int), .int .i64 0, .int .i64 line2] 132, cells b10 [.int .i64 (s1.size : Int), .int .i64 p2, .int .i64 p3, .int .i64 p4, .int .i64 p5] 130, eD D emp [(6, cells b11 [.int .i64 line1, .int .i64 (s1.size : Int), .int .i64 0, .int .i64 line2] 132)]]) (cons_eq rfl (cons_eq rfl (cons_eq rfl (cons_eq rfl (cons_eq rfl (cons_eq rfl (cons_eq rfl rfl))))))) (TO.move rfl dc (dl_old (by rfl) rfl) ?_)
     exact TX.valG (b11, hd14) 0 (by rfl) (by rfl) rfl (dl_cons_eq (fun _ => rfl) (dl_cons_eq (fun _ => rfl) (dl_cons_eq (fun _ => rfl) (dl_cons_eq (fun _ => rfl) (dl_cons_eq (fun _ => rfl) (dl_cons_eq (fun _ => rfl) (dl_cons_eq (fun _ => rfl) (dl_cons_eq (fun _ => rfl) rfl)))))))) (cons_eq rfl (cons_eq rfl (cons_eq ((eD_skip (by rfl)).trans rfl) (cons_eq rfl (cons_eq rfl (cons_eq rfl (cons_eq ((eD_skip (by rfl)).trans rfl) rfl)))))))
    ·
     intro D b hn hd hcl
     obtain ⟨b11, hd14⟩ := b
     refine TO.rewL (L' := [cells b1 [.string s1, hd13.v, hd2.v] 128, vec enc_Gapi_Place 130 5 hd13.v (m1 ++ [(⟨(s1.size : Int), p2, p3, p4, p5⟩ : Gapi_Place)]), vec enc_Gplace_ended 132 4 hd2.v m2, cells b2 [.int .i64 (s1.size : Int), .int .i64 p2, .int .i64 p3, .int .i64 p4, .int .i64 p5] 130, cells b3 [.int .i64 line1, .int .i64 (s1.size : Int), .int .i64 0, .int .i64 line2] 132, cells b10 [.int .i64 (s1.size : Int), .int .i64 p2, .int .i64 p3, .int .i64 p4, .int .i64 p5] 130, eD D emp [(6, cells b11 [.int .i64 line1, .int .i64 (s1.size : Int), .int .i64 0, .int .i64 line2] 132)]]) (cons_eq rfl (cons_eq rfl (cons_eq (eD_miss (fun hD => hn (hcl 2 _ rfl (hcl 3 _ rfl (hcl 4 _ rfl (hcl 7 _ rfl hD 4 dc) 3 dc) 2 dc) 1 dc)) eD_nil) (cons_eq rfl (cons_eq rfl (cons_eq rfl (cons_eq rfl rfl))))))) ?_
     refine TO.move rfl dc (dl_old (by rfl) rfl) ?_
     exact TX.valG (b11, hd14) 1 (by rfl) (by rfl) rfl (dl_cons_eq (fun _ => rfl) (dl_cons_eq (fun _ => rfl) (dl_cons_eq (fun _ => rfl) (dl_cons_eq (fun _ => rfl) (dl_cons_eq (fun _ => rfl) (dl_cons_eq (fun _ => rfl) (dl_cons_eq (fun _ => rfl) (dl_cons_eq (fun _ => rfl) rfl)))))))) (cons_eq rfl (cons_eq rfl (cons_eq ((eD_skip (by rfl)).trans (eD_miss (fun hD => hn (hcl 2 _ rfl (hcl 3 _ rfl (hcl 4 _ rfl (hcl 7 _ rfl hD 4 dc) 3 dc) 2 dc) 1 dc)) eD_nil)) (cons_eq rfl (cons_eq rfl (cons_eq rfl (cons_eq ((eD_skip (by rfl)).trans rfl) rfl)))))))
    ·
     intro D b hn hd hcl
     obtain ⟨b11, hd14⟩ := b
     refine TO.rewL (L' := [cells b1 [.string s1, hd13.v, hd2.v] 128, vec enc_Gapi_Place 130 5 hd13.v (m1 ++ [(⟨(s1.size : Int), p2, p3, p4, p5⟩ : Gapi_Place)]), vec enc_Gplace_ended 132 4 hd2.v m2, cells b2 [.int .i64 (s1.size : Int), .int .i64 p2, .int .i64 p3, .int .i64 p4, .int .i64 p5] 130, cells b3 [.int .i64 line1, .int .i64 (s1.size : Int), .int .i64 0, .int .i64 line2] 132, cells b10 [.int .i64 (s1.size : Int), .int .i64 p2, .int .i64 p3, .int .i64 p4, .int .i64 p5] 130, eD D emp [(6, cells b11 [.int .i64 line1, .int .i64 (s1.size : Int), .int .i64 0, .int .i64 line2] 132)]]) (cons_eq rfl (cons_eq rfl (cons_eq (eD_miss (fun hD => hn (hcl 3 _ rfl (hcl 4 _ rfl (hcl 7 _ rfl hD 4 dc) 3 dc) 2 dc)) eD_nil) (cons_eq rfl (cons_eq rfl (cons_eq rfl (cons_eq rfl rfl))))))) ?_
     refine TO.nilCheck rfl dc (dl_lookup (m := 1) rfl rfl (hd 1 dc)) ?_
     exact TX.valG (b11, hd14) 2 (by rfl) (by rfl) rfl (dl_cons_eq (fun _ => rfl) (dl_cons_eq (fun _ => rfl) (dl_cons_eq (fun _ => rfl) (dl_cons_eq (fun _ => rfl) (dl_cons_eq (fun _ => rfl) (dl_cons_eq (fun _ => rfl) (dl_cons_eq (fun _ => rfl) (dl_cons_eq (fun _ => rfl) rfl)))))))) (cons_eq rfl (cons_eq rfl (cons_eq ((eD_skip (by rfl)).trans (eD_miss (fun hD => hn (hcl 3 _ rfl (hcl 4 _ rfl (hcl 7 _ rfl hD 4 dc) 3 dc) 2 dc)) eD_nil)) (cons_eq rfl (cons_eq rfl (cons_eq rfl (cons_eq ((eD_skip (by rfl)).trans rfl) rfl)))))))
    ·
     intro D b hn hd hcl
     obtain ⟨b11, hd14⟩ := b
     refine TO.rewL (L' := [cells b1 [.string s1, hd13.v, hd2.v] 128, vec enc_Gapi_Place 130 5 hd13.v (m1 ++ [(⟨(s1.size : Int), p2, p3, p4, p5⟩ : Gapi_Place)]), vec enc_Gplace_ended 132 4 hd2.v m2, cells b2 [.int .i64 (s1.size : Int), .int .i64 p2, .int .i64 p3, .int .i64 p4, .int .i64 p5] 130, cells b3 [.int .i64 line1, .int .i64 (s1.size : Int), .int .i64 0, .int .i64 line2] 132, cells b10 [.int .i64 (s1.size : Int), .int .i64 p2, .int .i64 p3, .int .i64 p4, .int .i64 p5] 130, eD D emp [(6, cells b11 [.int .i64 line1, .int .i64 (s1.size : Int), .int .i64 0, .int .i64 line2] 132)]]) (cons_eq rfl (cons_eq rfl (cons_eq (eD_miss (fun hD => hn (hcl 4 _ rfl (hcl 7 _ rfl hD 4 dc) 3 dc)) eD_nil) (cons_eq rfl (cons_eq rfl (cons_eq rfl (cons_eq rfl rfl))))))) ?_
     refine TO.fieldAddr fl_128_2 rfl dc (dl_lookup (m := 2) rfl rfl (hd 2 dc)) (show _ = 2 from rfl) ?_
     exact TX.valG (b11, hd14) 3 (by rfl) (by rfl) rfl (dl_cons_eq (fun _ => rfl) (dl_cons_eq (fun _ => rfl) (dl_cons_eq (fun _ => rfl) (dl_cons_eq (fun _ => rfl) (dl_cons_eq (fun _ => rfl) (dl_cons_eq (fun _ => rfl) (dl_cons_eq (fun _ => rfl) (dl_cons_eq (fun _ => rfl) rfl)))))))) (cons_eq rfl (cons_eq rfl (cons_eq ((eD_skip (by rfl)).trans (eD_miss (fun hD => hn (hcl 4 _ rfl (hcl 7 _ rfl hD 4 dc) 3 dc)) eD_nil)) (cons_eq rfl (cons_eq rfl (cons_eq rfl (cons_eq ((eD_skip (by rfl)).trans rfl) rfl)))))))
    ·
     intro D b hn hd hcl
     obtain ⟨b11, hd14⟩ := b
     refine TO.rewL (L' := [cells b1 [.string s1, hd13.v, hd2.v] 128, vec enc_Gapi_Place 130 5 hd13.v (m1 ++ [(⟨(s1.size : Int), p2, p3, p4, p5⟩ : Gapi_Place)]), vec enc_Gplace_ended 132 4 hd2.v m2, cells b2 [.int .i64 (s1.size : Int), .int .i64 p2, .int .i64 p3, .int .i64 p4, .int .i64 p5] 130, cells b3 [.int .i64 line1, .int .i64 (s1.size : Int), .int .i64 0, .int .i64 line2] 132, cells b10 [.int .i64 (s1.size : Int), .int .i64 p2, .int .i64 p3, .int .i64 p4, .int .i64 p5] 130, eD D emp [(6, cells b11 [.int .i64 line1, .int .i64 (s1.size : Int), .int .i64 0, .int .i64 line2] 132)]]) (cons_eq rfl (cons_eq rfl (cons_eq (eD_miss (fun hD => hn (hcl 7 _ rfl hD 4 dc)) eD_nil) (cons_eq rfl (cons_eq rfl (cons_eq rfl (cons_eq rfl rfl))))))) ?_
     refine TO.load (k := 0) sc_126 rfl dc (dl_lookup (m := 3) rfl rfl (hd 3 dc)) rfl rfl ?_
     exact TX.valG (b11, hd14) 4 (by rfl) (by rfl) rfl (dl_cons_eq (fun _ => rfl) (dl_cons_eq (fun _ => rfl) (dl_cons_eq (fun _ => rfl) (dl_cons_eq (fun _ => rfl) (dl_cons_eq (fun _ => rfl) (dl_cons_eq (fun _ => rfl) (dl_cons_eq (fun _ => rfl) (dl_cons_eq (fun _ => rfl) rfl)))))))) (cons_eq rfl (cons_eq rfl (cons_eq ((eD_skip (by rfl)).trans (eD_miss (fun hD => hn (hcl 7 _ rfl hD 4 dc)) eD_nil)) (cons_eq rfl (cons_eq rfl (cons_eq rfl (cons_eq ((eD_skip (by rfl)).trans rfl) rfl)))))))
    ·
     intro D b hn hd hcl
     obtain ⟨b11, hd14⟩ := b
     refine TO.rewL (L' := [cells b1 [.string s1, hd13.v, hd2.v] 128, vec enc_Gapi_Place 130 5 hd13.v (m1 ++ [(⟨(s1.size : Int), p2, p3, p4, p5⟩ : Gapi_Place)]), vec enc_Gplace_ended 132 4 hd2.v m2, cells b2 [.int .i64 (s1.size : Int), .int .i64 p2, .int .i64 p3, .int .i64 p4, .int .i64 p5] 130, cells b3 [.int .i64 line1, .int .i64 (s1.size : Int), .int .i64 0, .int .i64 line2] 132, cells b10 [.int .i64 (s1.size : Int), .int .i64 p2, .int .i64 p3, .int .i64 p4, .int .i64 p5] 130, emp]) (cons_eq rfl (cons_eq rfl (cons_eq (eD_miss (fun hD => hn (hcl 6 _ rfl (hcl 7 _ rfl hD 6 dc) 5 dc)) eD_nil) (cons_eq rfl (cons_eq rfl (cons_eq rfl (cons_eq (eD_miss (fun hD => hn (hcl 6 _ rfl hD 5 dc)) eD_nil) rfl))))))) ?_
     refine TO.loads (k := 4) (cs := [.int .i64 line1, .int .i64 (s1.size : Int), .int .i64 0, .int .i64 line2]) rw_132 rfl dc (dl_old (by rfl) rfl) rfl rfl rfl ?_
     exact TX.valG (b11, hd14) 5 (by rfl) (by rfl) rfl (dl_cons_eq (fun _ => rfl) (dl_cons_eq (fun _ => rfl) (dl_cons_eq (fun _ => rfl) (dl_cons_eq (fun _ => rfl) (dl_cons_eq (fun _ => rfl) (dl_cons_eq (fun _ => rfl) (dl_cons_eq (fun _ => rfl) (dl_cons_eq (fun _ => rfl) rfl)))))))) (cons_eq rfl (cons_eq rfl (cons_eq ((eD_skip (by rfl)).trans (eD_miss (fun hD => hn (hcl 6 _ rfl (hcl 7 _ rfl hD 6 dc) 5 dc)) eD_nil)) (cons_eq rfl (cons_eq rfl (cons_eq rfl (cons_eq ((eD_skip (by rfl)).trans (eD_miss (fun hD => hn (hcl 6 _ rfl hD 5 dc)) eD_nil)) rfl)))))))
    ·
     intro D b hn hd hcl
     obtain ⟨_, hd14⟩ := b
     refine TO.rewL (L' := [cells b1 [.string s1, hd13.v, hd2.v] 128, vec enc_Gapi_Place 130 5 hd13.v (m1 ++ [(⟨(s1.size : Int), p2, p3, p4, p5⟩ : Gapi_Place)]), vec enc_Gplace_ended 132 4 hd2.v m2, cells b2 [.int .i64 (s1.size : Int), .int .i64 p2, .int .i64 p3, .int .i64 p4, .int .i64 p5] 130, cells b3 [.int .i64 line1, .int .i64 (s1.size : Int), .int .i64 0, .int .i64 line2] 132, cells b10 [.int .i64 (s1.size : Int), .int .i64 p2, .int .i64 p3, .int .i64 p4, .int .i64 p5] 130, emp]) (cons_eq rfl (cons_eq rfl (cons_eq (eD_miss (fun hD => hn (hcl 7 _ rfl hD 6 dc)) eD_nil) (cons_eq rfl (cons_eq rfl (cons_eq rfl (cons_eq (eD_miss hn eD_nil) rfl))))))) ?_
     refine TO.buildSlice (cs := [.int .i64 line1, .int .i64 (s1.size : Int), .int .i64 0, .int .i64 line2]) (te := 132) (ps := [(0, .tmp 146)]) rfl dc (evP.cons (dl_lookup (m := 5) rfl rfl (hd 5 dc)) evP.nil) (fun _ => by kernel_rfl) (fun b11 => ?_)
     show TO _ _ _ _ _ _ _ _ _ _ [cells b1 [.string s1, hd13.v, hd2.v] 128, vec enc_Gapi_Place 130 5 hd13.v (m1 ++ [(⟨(s1.size : Int), p2, p3, p4, p5⟩ : Gapi_Place)]), vec enc_Gplace_ended 132 4 hd2.v m2, cells b2 [.int .i64 (s1.size : Int), .int .i64 p2, .int .i64 p3, .int .i64 p4, .int .i64 p5] 130, cells b3 [.int .i64 line1, .int .i64 (s1.size : Int), .int .i64 0, .int .i64 line2] 132, cells b10 [.int .i64 (s1.size : Int), .int .i64 p2, .int .i64 p3, .int .i64 p4, .int .i64 p5] 130, emp, cells b11 [.int .i64 line1, .int .i64 (s1.size : Int), .int .i64 0, .int .i64 line2] 132]
     refine TO.place 6 rfl rfl ?_
     show TO _ _ _ _ _ _ _ _ _ _ [cells b1 [.string s1, hd13.v, hd2.v] 128, vec enc_Gapi_Place 130 5 hd13.v (m1 ++ [(⟨(s1.size : Int), p2, p3, p4, p5⟩ : Gapi_Place)]), vec enc_Gplace_ended 132 4 hd2.v m2, cells b2 [.int .i64 (s1.size : Int), .int .i64 p2, .int .i64 p3, .int .i64 p4, .int .i64 p5] 130, cells b3 [.int .i64 line1, .int .i64 (s1.size : Int), .int .i64 0, .int .i64 line2] 132, cells b10 [.int .i64 (s1.size : Int), .int .i64 p2, .int .i64 p3, .int .i64 p4, .int .i64 p5] 130, cells b11 [.int .i64 line1, .int .i64 (s1.size : Int), .int .i64 0, .int .i64 line2] 132]
     exact TX.valG (b11, hd14) 6 (by rfl) (by rfl) rfl (dl_cons_eq (fun _ => rfl) (dl_cons_eq (fun _ => rfl) (dl_cons_eq (fun _ => rfl) (dl_cons_eq (fun _ => rfl) (dl_cons_eq (fun _ => rfl) (dl_cons_eq (fun _ => rfl) (dl_cons_eq (fun hD => absurd hD hn) (dl_cons_eq (fun _ => rfl) rfl)))))))) (cons_eq rfl (cons_eq rfl (cons_eq ((eD_skip (by rfl)).trans (eD_miss (fun hD => hn (hcl 7 _ rfl hD 6 dc)) eD_nil)) (cons_eq rfl (cons_eq rfl (cons_eq rfl (cons_eq (eD_hit (Or.inr rfl) rfl) rfl)))))))
    ·
     intro D b hn hd hcl
     obtain ⟨b11, _⟩ := b
     refine TO.rewL (L' := [cells b1 [.string s1, hd13.v, hd2.v] 128, vec enc_Gapi_Place 130 5 hd13.v (m1 ++ [(⟨(s1.size : Int), p2, p3, p4, p5⟩ : Gapi_Place)]), vec enc_Gplace_ended 132 4 hd2.v m2, cells b2 [.int .i64 (s1.size : Int), .int .i64 p2, .int .i64 p3, .int .i64 p4, .int .i64 p5] 130, cells b3 [.int .i64 line1, .int .i64 (s1.size : Int), .int .i64 0, .int .i64 line2] 132, cells b10 [.int .i64 (s1.size : Int), .int .i64 p2, .int .i64 p3, .int .i64 p4, .int .i64 p5] 130, cells b11 [.int .i64 line1, .int .i64 (s1.size : Int), .int .i64 0, .int .i64 line2] 132]) (cons_eq rfl (cons_eq rfl (cons_eq (eD_miss hn eD_nil) (cons_eq rfl (cons_eq rfl (cons_eq rfl (cons_eq (eD_hit (hd 6 dc) rfl) rfl))))))) ?_
     refine TO.appendVec (k := 2) (k2 := 6) (ys := [(⟨line1, (s1.size : Int), 0, line2⟩ : Gplace_ended)]) Tryd.underlying126 el_132 enc_Gplace_ended_len enc_Gplace_ended_one rfl dc (dl_lookup (m := 4) rfl rfl (hd 4 dc)) (dl_lookup (m := 6) rfl rfl (hd 6 dc)) rfl rfl rfl rfl hg17 (fun v4 => ?_)
     refine TO.nameHd (k := 2) rfl (fun hd14 he4 => ?_)
     subst he4
     show TO _ _ _ _ _ _ _ _ _ _ [cells b1 [.string s1, hd13.v, hd2.v] 128, vec enc_Gapi_Place 130 5 hd13.v (m1 ++ [(⟨(s1.size : Int), p2, p3, p4, p5⟩ : Gapi_Place)]), vec enc_Gplace_ended 132 4 hd14.v (m2 ++ [(⟨line1, (s1.size : Int), 0, line2⟩ : Gplace_ended)]), cells b2 [.int .i64 (s1.size : Int), .int .i64 p2, .int .i64 p3, .int .i64 p4, .int .i64 p5] 130, cells b3 [.int .i64 line1, .int .i64 (s1.size : Int), .int .i64 0, .int .i64 line2] 132, cells b10 [.int .i64 (s1.size : Int), .int .i64 p2, .int .i64 p3, .int .i64 p4, .int .i64 p5] 130, cells b11 [.int .i64 line1, .int .i64 (s1.size : Int), .int .i64 0, .int .i64 line2] 132]
     exact TX.valG (b11, hd14) 7 (by rfl) (by rfl) rfl (dl_cons_eq (fun _ => rfl) (dl_cons_eq (fun _ => rfl) (dl_cons_eq (fun _ => rfl) (dl_cons_eq (fun _ => rfl) (dl_cons_eq (fun _ => rfl) (dl_cons_eq (fun _ => rfl) (dl_cons_eq (fun _ => rfl) (dl_cons_eq (fun hD => absurd hD hn) rfl)))))))) (cons_eq rfl (cons_eq rfl (cons_eq (eD_hit (Or.inr rfl) rfl) (cons_eq rfl (cons_eq rfl (cons_eq rfl (cons_eq ((eD_skip (by rfl)).trans (eD_hit (hd 6 dc) rfl)) rfl)))))))
    intro D b hall
    obtain ⟨b11, hd14⟩ := b
    refine TO.rewL (L' := [cells b1 [.string s1, hd13.v, hd2.v] 128, vec enc_Gapi_Place 130 5 hd13.v (m1 ++ [(⟨(s1.size : Int), p2, p3, p4, p5⟩ : Gapi_Place)]), vec enc_Gplace_ended 132 4 hd14.v (m2 ++ [(⟨line1, (s1.size : Int), 0, line2⟩ : Gplace_ended)]), cells b2 [.int .i64 (s1.size : Int), .int .i64 p2, .int .i64 p3, .int .i64 p4, .int .i64 p5] 130, cells b3 [.int .i64 line1, .int .i64 (s1.size : Int), .int .i64 0, .int .i64 line2] 132, cells b10 [.int .i64 (s1.size : Int), .int .i64 p2, .int .i64 p3, .int .i64 p4, .int .i64 p5] 130, cells b11 [.int .i64 line1, .int .i64 (s1.size : Int), .int .i64 0, .int .i64 line2] 132]) (cons_eq rfl (cons_eq rfl (cons_eq (eD_hit (hall 7 dc) rfl) (cons_eq rfl (cons_eq rfl (cons_eq rfl (cons_eq (eD_hit (hall 6 dc) rfl) rfl))))))) (TO.nilCheck rfl dc rfl (TO.fieldAddr fl_128_2 rfl dc rfl (show _ = 2 from rfl) ?_))
    refine TO.store (k := 0) (l' := [.string s1, hd13.v, hd14.v]) sz_126 rfl rfl rfl rfl rfl (fun _ _ => rfl) rfl ?_
    show TO _ _ _ _ _ _ _ _ _ _ [cells b1 [.string s1, hd13.v, hd14.v] 128, vec enc_Gapi_Place 130 5 hd13.v (m1 ++ [(⟨(s1.size : Int), p2, p3, p4, p5⟩ : Gapi_Place)]), vec enc_Gplace_ended 132 4 hd14.v (m2 ++ [(⟨line1, (s1.size : Int), 0, line2⟩ : Gplace_ended)]), cells b2 [.int .i64 (s1.size : Int), .int .i64 p2, .int .i64 p3, .int .i64 p4, .int .i64 p5] 130, cells b3 [.int .i64 line1, .int .i64 (s1.size : Int), .int .i64 0, .int .i64 line2] 132, cells b10 [.int .i64 (s1.size : Int), .int .i64 p2, .int .i64 p3, .int .i64 p4, .int .i64 p5] 130, cells b11 [.int .i64 line1, .int .i64 (s1.size : Int), .int .i64 0, .int .i64 line2] 132]
    refine TO.nil (TX.next (TC.seq (TC.region (TO.move rfl dc rfl (TO.assign rfl dc rfl (TO.assign rfl dc rfl (TO.nil (TX.next (TC.ret (TX.jumpOn (by simp) ?_))))))))))
    refine TX.entl (As := [cells b1 [.string s1, hd13.v, hd14.v] 128, vec enc_Gapi_Place 130 5 hd13.v (m1 ++ [(⟨(s1.size : Int), p2, p3, p4, p5⟩ : Gapi_Place)]), vec enc_Gplace_ended 132 4 hd14.v (m2 ++ [(⟨line1, (s1.size : Int), 0, line2⟩ : Gplace_ended)])]) (Splits.of [0, 1, 2] kr rfl) (Entl.objMk (enc := encN_Gplace_Map) (nest := nest_Gplace_Map) (t := 128) (x := (⟨s1, m1 ++ [(⟨(s1.size : Int), p2, p3, p4, p5⟩ : Gapi_Place)], m2 ++ [(⟨line1, (s1.size : Int), 0, line2⟩ : Gplace_ended)]⟩ : Gplace_Map)) (b := b1) (hd := (hd13, hd14))) (fun _ _ => ?_)
    show TX _ _ _ _ _ _ _ [emp, emp, emp, cells b2 [.int .i64 (s1.size : Int), .int .i64 p2, .int .i64 p3, .int .i64 p4, .int .i64 p5] 130, cells b3 [.int .i64 line1, .int .i64 (s1.size : Int), .int .i64 0, .int .i64 line2] 132, cells b10 [.int .i64 (s1.size : Int), .int .i64 p2, .int .i64 p3, .int .i64 p4, .int .i64 p5] 130, cells b11 [.int .i64 line1, .int .i64 (s1.size : Int), .int .i64 0, .int .i64 line2] 132, pobj encN_Gplace_Map nest_Gplace_Map 128 (.pointer (some ⟨b1, 0, none⟩)) (some (⟨s1, m1 ++ [(⟨(s1.size : Int), p2, p3, p4, p5⟩ : Gapi_Place)], m2 ++ [(⟨line1, (s1.size : Int), 0, line2⟩ : Gplace_ended)]⟩ : Gplace_Map))]
    cases h
    exact TX.fin (rs := [.tmp 2, .tmp 3]) (.pointer (some ⟨b1, 0, none⟩)) (.inl rfl) Tryd.results45 (.cons (.tmp rfl) (.cons (.tmp rfl) .nil)) rfl (Splits.of [7] kr rfl)
 ·
  exact fun b hb => hb.elim
def place_Map_Lines_v (m1 : Gplace_Map) : Option Int := some (m1.lines.length : Int)
set_option maxRecDepth 100000 in
set_option maxHeartbeats 4000000 in
theorem place_Map_Lines_fn {bm1 : Nat} {m1 : Gplace_Map} {m1_h0 m1_h1 : Hd} {r : Int} (h : place_Map_Lines_v m1 = some r) : FnR Tryd.prog 46 [.pointer (some ⟨bm1, 0, none⟩)] [cells bm1 [.string m1.text, m1_h0.v, m1_h1.v] 128, vec enc_Gapi_Place 130 5 m1_h0.v m1.places, vec enc_Gplace_ended 132 4 m1_h1.v m1.lines] [] (fun _ : Unit => (.int .i64 r)) (fun _ => []) := by
 unfold place_Map_Lines_v at h
 refine FnR.intro Tryd.func46 rfl Tryd.ntmps46 (by simp) ?_
 intro w0 K hrd
 refine TC.seq (TC.region (TO.assign rfl dc rfl (TO.nil (TX.next (TC.seq (TC.seq (TC.region (TO.move rfl dc rfl (TO.bin rfl dc rfl rfl (bin_ptrnileqlR Tryd.underlying86) (TO.nil (TX.next (TC.condF rfl (TC.skip ?_)))))))))))))
 refine TX.next (TC.seq (TC.region (TO.move rfl dc rfl (TO.nilCheck rfl dc rfl (TO.fieldAddr fl_128_2 rfl dc rfl (show _ = 2 from rfl) (TO.loadRd (i := 0) hrd rfl sc_126 rfl dc rfl rfl (TO.lenVw (hrd.vw (i := 2) rfl) rfl dc rfl Tryd.underlying126 (TO.assign rfl dc rfl (TO.nil (TX.next (TC.ret ?_)))))))))))
 cases h
 exact TX.fin (rs := [.tmp 2]) () (.inl rfl) Tryd.results46 (.cons (.tmp rfl) .nil) rfl Splits.nil
def place_Map_Span_v (m1 : Gplace_Map) (line1 : Int) : Option (Gapi_Span × Int × Int) := bcond (decide ((line1 : Int) < 0)) ( some ((⟨0, 0⟩ : Gapi_Span), 0, 5)
) ( bcond (decide (((m1.lines.length : Int) : Int) ≤ line1)) ( some ((⟨0, 0⟩ : Gapi_Span), 0, 5)
) ( andThen (getO m1.lines line1) fun (q1 : Gplace_ended) => some ((⟨q1.span_From, q1.span_To⟩ : Gapi_Span), q1.end_, 0)
)
)
set_option maxRecDepth 100000 in
set_option maxHeartbeats 4000000 in
theorem place_Map_Span_fn {bm1 : Nat} {m1 : Gplace_Map} {m1_h0 m1_h1 : Hd} {line1 : Int} {r : (Gapi_Span × Int × Int)} (h : place_Map_Span_v m1 line1 = some r) : FnR Tryd.prog 47 [.pointer (some ⟨bm1, 0, none⟩), .int .i64 line1] [cells bm1 [.string m1.text, m1_h0.v, m1_h1.v] 128, vec enc_Gapi_Place 130 5 m1_h0.v m1.places, vec enc_Gplace_ended 132 4 m1_h1.v m1.lines] [] (fun _ : Unit => (.tuple #[.agg #[.int .i64 r.1.From, .int .i64 r.1.To], .int .i64 r.2.1, .int .i64 r.2.2])) (fun _ => []) := by
 unfold place_Map_Span_v at h
 refine FnR.intro Tryd.func47 rfl Tryd.ntmps47 (by simp) ?_
 intro w0 K hrd
 refine TC.seq (TC.region ?_)
 refine TO.alloc zr_34 rfl dc (fun b1 => ?_)
 refine TO.assign rfl dc rfl (TO.assign rfl dc rfl (TO.nil (TX.next (TC.seq (TC.seq (TC.region (TO.move rfl dc rfl (TO.bin rfl dc rfl rfl (bin_ptrnileqlR Tryd.underlying86) (TO.nil (TX.next (TC.condF rfl (TC.skip (TX.next ?_)))))))))))))
 refine TC.seq (TC.seq (TC.region (TO.move rfl dc rfl (TO.bin rfl dc rfl rfl bin_lss (TO.move rfl dc rfl ?_)))))
 refine TO.split (s := 12) rfl (fun hb1 => ?_) (fun hb1 => ?_)
 ·
  have h := condT hb1 h
  refine TO.skip rfl dc (TO.skip rfl dc (TO.skip rfl dc (TO.skip rfl dc (TO.skip rfl dc (TO.skip rfl dc (TO.skip rfl dc (TO.pick (b := true) rfl dc rfl rfl (TO.nil (TX.next (TC.condT rfl (TC.seq (TC.region ?_))))))))))))
  refine TO.build (v := .agg #[.int .i64 0, .int .i64 0]) (ps := []) rfl dc rfl (fun _ => by kernel_rfl) ?_
  refine TO.stores (k := 0) (vs := [.int .i64 0, .int .i64 0]) (l' := [.int .i64 0, .int .i64 0]) sz_34 rfl rfl rfl rfl rfl (show _ ≤ _ by simp) rfl rfl ?_
  show TO _ _ _ _ _ _ _ _ _ _ [cells b1 [.int .i64 0, .int .i64 0] 34]
  refine TO.assign rfl dc rfl (TO.assign rfl dc rfl (TO.nil (TX.next (TC.ret (TX.thenRet ?_)))))
  cases h
  exact TX.fin (rs := [.cell 4 34, .tmp 5, .tmp 6]) () (.inl rfl) Tryd.results47 (.cons (.cells rw_34 (k := 0) rfl rfl rfl) (.cons (.tmp rfl) (.cons (.tmp rfl) .nil))) rfl Splits.nil
 ·
  have h := condF hb1 h
  refine TO.move rfl dc rfl (TO.move rfl dc rfl (TO.nilCheck rfl dc rfl (TO.fieldAddr fl_128_2 rfl dc rfl (show _ = 2 from rfl) (TO.loadRd (i := 0) hrd rfl sc_126 rfl dc rfl rfl (TO.lenVw (hrd.vw (i := 2) rfl) rfl dc rfl Tryd.underlying126 (TO.bin rfl dc rfl rfl bin_geq (TO.pick (b := false) rfl dc rfl rfl (TO.nil (TX.next ?_)))))))))
  refine TC.condB rfl (fun hb2 => ?_) (fun hb2 => ?_)
  ·
   have h := condT hb2 h
   refine TC.seq (TC.region ?_)
   refine TO.build (v := .agg #[.int .i64 0, .int .i64 0]) (ps := []) rfl dc rfl (fun _ => by kernel_rfl) ?_
   refine TO.stores (k := 0) (vs := [.int .i64 0, .int .i64 0]) (l' := [.int .i64 0, .int .i64 0]) sz_34 rfl rfl rfl rfl rfl (show _ ≤ _ by simp) rfl rfl ?_
   show TO _ _ _ _ _ _ _ _ _ _ [cells b1 [.int .i64 0, .int .i64 0] 34]
   refine TO.assign rfl dc rfl (TO.assign rfl dc rfl (TO.nil (TX.next (TC.ret (TX.thenRet ?_)))))
   cases h
   exact TX.fin (rs := [.cell 4 34, .tmp 5, .tmp 6]) () (.inl rfl) Tryd.results47 (.cons (.cells rw_34 (k := 0) rfl rfl rfl) (.cons (.tmp rfl) (.cons (.tmp rfl) .nil))) rfl Splits.nil
  ·
   have h := condF hb2 h
   refine TC.skip (TX.next (TC.seq ?_))
   obtain ⟨q1, hq1, h⟩ := andE h
   refine TC.drawB (β := Unit) 17 16 _ [(0, 22, .pointer (some ⟨bm1, 0, none⟩)), (1, 23, .pointer (some ⟨bm1, 0, none⟩)), (2, 24, .pointer (some ⟨bm1, 2, none⟩)), (3, 25, m1_h1.v), (4, 26, .int .i64 line1), (5, 27, .pointer (some ⟨vblk m1_h1.v, (0 + (line1 : Int).toNat) * 4, none⟩)), (6, 28, .pointer (some ⟨vblk m1_h1.v, (0 + (line1 : Int).toNat) * 4, none⟩)), (7, 29, .agg #[.int .i64 q1.span_From, .int .i64 q1.span_To]), (8, 30, .pointer (some ⟨bm1, 0, none⟩)), (9, 31, .pointer (some ⟨bm1, 0, none⟩)), (10, 32, .pointer (some ⟨bm1, 2, none⟩)), (11, 33, m1_h1.v), (12, 34, .int .i64 line1), (13, 35, .pointer (some ⟨vblk m1_h1.v, (0 + (line1 : Int).toNat) * 4, none⟩)), (14, 36, .pointer (some ⟨vblk m1_h1.v, (0 + (line1 : Int).toNat) * 4 + 2, none⟩)), (15, 37, .int .i64 q1.end_)] (fun _b => []) (fun _b => [cells b1 [.int .i64 q1.span_From, .int .i64 q1.span_To] 34]) mixed kr kr rfl dc dc (by rfl) kr kr (DrawPreX.cons ?_ (DrawPreX.cons ?_ (DrawPreX.cons ?_ (DrawPreX.cons ?_ (DrawPreX.cons ?_ (DrawPreX.cons ?_ (DrawPreX.cons ?_ (DrawPreX.cons ?_ (DrawPreX.cons ?_ (DrawPreX.cons ?_ (DrawPreX.cons ?_ (DrawPreX.cons ?_ (DrawPreX.cons ?_ (DrawPreX.cons ?_ (DrawPreX.cons ?_ (DrawPreX.cons ?_ (DrawPreX.here DrawPreX.nil))))))))))))))))) (fun _b => (DrawPreX.cons ?_ (DrawPreX.cons ?_ (DrawPreX.cons ?_ (DrawPreX.cons ?_ (DrawPreX.cons ?_ (DrawPreX.cons ?_ (DrawPreX.cons ?_ (DrawPreX.cons ?_ (DrawPreX.cons ?_ (DrawPreX.cons ?_ (DrawPreX.cons ?_ (DrawPreX.cons ?_ (DrawPreX.cons ?_ (DrawPreX.cons ?_ (DrawPreX.cons ?_ (DrawPreX.cons ?_ (DrawPreX.here DrawPreX.nil)))))))))))))))))) ?_ ?_
   ·
    intro D hn hd hcl hu hi
    refine TO.move rfl dc (dl_old (by rfl) rfl) ?_
    exact TX.quiet 0 hu hi rfl
   ·
    intro D hn hd hcl hu hi
    refine TO.nilCheck rfl dc (dl_lookup (m := 0) hu rfl (hd 0 dc)) ?_
    exact TX.quiet 1 hu hi rfl
   ·
    intro D hn hd hcl hu hi
    refine TO.fieldAddr fl_128_2 rfl dc (dl_lookup (m := 1) hu rfl (hd 1 dc)) (show _ = 2 from rfl) ?_
    exact TX.quiet 2 hu hi rfl
   ·
    intro D hn hd hcl hu hi
    refine TO.loadRd (i := 0) hrd rfl sc_126 rfl dc (dl_lookup (m := 2) hu rfl (hd 2 dc)) rfl ?_
    exact TX.quiet 3 hu hi rfl
   ·
    intro D hn hd hcl hu hi
    refine TO.move rfl dc (dl_old (by rfl) rfl) ?_
    exact TX.quiet 4 hu hi rfl
   ·
    intro D hn hd hcl hu hi
    refine TO.indexVw (hrd.vw (i := 2) rfl) hq1 Tryd.underlying126 sz_132 rfl dc (dl_lookup (m := 3) hu rfl (hd 3 dc)) (dl_lookup (m := 4) hu rfl (hd 4 dc)) rfl ?_
    exact TX.quiet 5 hu hi rfl
   ·
    intro D hn hd hcl hu hi
    refine TO.fieldAddr fl_132_0 rfl dc (dl_lookup (m := 5) hu rfl (hd 5 dc)) (show _ = (0 + (line1 : Int).toNat) * 4 from rfl) ?_
    exact TX.quiet 6 hu hi rfl
   ·
    intro D hn hd hcl hu hi
    refine TO.loadsVecRd (m := 0 + (line1 : Int).toNat) (j := 0) (i := 2) (q := q1) (cs := [.int .i64 q1.span_From, .int .i64 q1.span_To]) hrd rfl rw_34 enc_Gplace_ended_len rfl dc (dl_lookup (m := 6) hu rfl (hd 6 dc)) (Vw.get (hrd.vw (i := 2) rfl) hq1) rfl rfl rfl ?_
    exact TX.quiet 7 hu hi rfl
   ·
    intro D hn hd hcl hu hi
    refine TO.move rfl dc (dl_old (by rfl) rfl) ?_
    exact TX.quiet 8 hu hi rfl
   ·
    intro D hn hd hcl hu hi
    refine TO.nilCheck rfl dc (dl_lookup (m := 8) hu rfl (hd 8 dc)) ?_
    exact TX.quiet 9 hu hi rfl
   ·
    intro D hn hd hcl hu hi
    refine TO.fieldAddr fl_128_2 rfl dc (dl_lookup (m := 9) hu rfl (hd 9 dc)) (show _ = 2 from rfl) ?_
    exact TX.quiet 10 hu hi rfl
   ·
    intro D hn hd hcl hu hi
    refine TO.loadRd (i := 0) hrd rfl sc_126 rfl dc (dl_lookup (m := 10) hu rfl (hd 10 dc)) rfl ?_
    exact TX.quiet 11 hu hi rfl
   ·
    intro D hn hd hcl hu hi
    refine TO.move rfl dc (dl_old (by rfl) rfl) ?_
    exact TX.quiet 12 hu hi rfl
   ·
    intro D hn hd hcl hu hi
    refine TO.indexVw (hrd.vw (i := 2) rfl) hq1 Tryd.underlying126 sz_132 rfl dc (dl_lookup (m := 11) hu rfl (hd 11 dc)) (dl_lookup (m := 12) hu rfl (hd 12 dc)) rfl ?_
    exact TX.quiet 13 hu hi rfl
   ·
    intro D hn hd hcl hu hi
    refine TO.fieldAddr fl_132_1 rfl dc (dl_lookup (m := 13) hu rfl (hd 13 dc)) (show _ = (0 + (line1 : Int).toNat) * 4 + 2 from rfl) ?_
    exact TX.quiet 14 hu hi rfl
   ·
    intro D hn hd hcl hu hi
    refine TO.loadVecRd (n := 0 + (line1 : Int).toNat) (j := 2) (i := 2) (q := q1) hrd rfl sc_3 enc_Gplace_ended_len rfl dc (dl_lookup (m := 14) hu rfl (hd 14 dc)) (Vw.get (hrd.vw (i := 2) rfl) hq1) rfl dc rfl ?_
    exact TX.quiet 15 hu hi rfl
   ·
    intro D hn hd hcl hu hi
    refine TO.move rfl dc (dl_old (by rfl) rfl) ?_
    exact TX.quiet 0 hu hi rfl
   ·
    intro D hn hd hcl hu hi
    refine TO.nilCheck rfl dc (dl_lookup (m := 0) hu rfl (hd 0 dc)) ?_
    exact TX.quiet 1 hu hi rfl
   ·
    intro D hn hd hcl hu hi
    refine TO.fieldAddr fl_128_2 rfl dc (dl_lookup (m := 1) hu rfl (hd 1 dc)) (show _ = 2 from rfl) ?_
    exact TX.quiet 2 hu hi rfl
   ·
    intro D hn hd hcl hu hi
    refine TO.loadRd (i := 0) hrd rfl sc_126 rfl dc (dl_lookup (m := 2) hu rfl (hd 2 dc)) rfl ?_
    exact TX.quiet 3 hu hi rfl
   ·
    intro D hn hd hcl hu hi
    refine TO.move rfl dc (dl_old (by rfl) rfl) ?_
    exact TX.quiet 4 hu hi rfl
   ·
    intro D hn hd hcl hu hi
    refine TO.indexVw (hrd.vw (i := 2) rfl) hq1 Tryd.underlying126 sz_132 rfl dc (dl_lookup (m := 3) hu rfl (hd 3 dc)) (dl_lookup (m := 4) hu rfl (hd 4 dc)) rfl ?_
    exact TX.quiet 5 hu hi rfl
   ·
    intro D hn hd hcl hu hi
    refine TO.fieldAddr fl_132_0 rfl dc (dl_lookup (m := 5) hu rfl (hd 5 dc)) (show _ = (0 + (line1 : Int).toNat) * 4 from rfl) ?_
    exact TX.quiet 6 hu hi rfl
   ·
    intro D hn hd hcl hu hi
    refine TO.loadsVecRd (m := 0 + (line1 : Int).toNat) (j := 0) (i := 2) (q := q1) (cs := [.int .i64 q1.span_From, .int .i64 q1.span_To]) hrd rfl rw_34 enc_Gplace_ended_len rfl dc (dl_lookup (m := 6) hu rfl (hd 6 dc)) (Vw.get (hrd.vw (i := 2) rfl) hq1) rfl rfl rfl ?_
    exact TX.quiet 7 hu hi rfl
   ·
    intro D hn hd hcl hu hi
    refine TO.move rfl dc (dl_old (by rfl) rfl) ?_
    exact TX.quiet 8 hu hi rfl
   ·
    intro D hn hd hcl hu hi
    refine TO.nilCheck rfl dc (dl_lookup (m := 8) hu rfl (hd 8 dc)) ?_
    exact TX.quiet 9 hu hi rfl
   ·
    intro D hn hd hcl hu hi
    refine TO.fieldAddr fl_128_2 rfl dc (dl_lookup (m := 9) hu rfl (hd 9 dc)) (show _ = 2 from rfl) ?_
    exact TX.quiet 10 hu hi rfl
   ·
    intro D hn hd hcl hu hi
    refine TO.loadRd (i := 0) hrd rfl sc_126 rfl dc (dl_lookup (m := 10) hu rfl (hd 10 dc)) rfl ?_
    exact TX.quiet 11 hu hi rfl
   ·
    intro D hn hd hcl hu hi
    refine TO.move rfl dc (dl_old (by rfl) rfl) ?_
    exact TX.quiet 12 hu hi rfl
   ·
    intro D hn hd hcl hu hi
    refine TO.indexVw (hrd.vw (i := 2) rfl) hq1 Tryd.underlying126 sz_132 rfl dc (dl_lookup (m := 11) hu rfl (hd 11 dc)) (dl_lookup (m := 12) hu rfl (hd 12 dc)) rfl ?_
    exact TX.quiet 13 hu hi rfl
   ·
    intro D hn hd hcl hu hi
    refine TO.fieldAddr fl_132_1 rfl dc (dl_lookup (m := 13) hu rfl (hd 13 dc)) (show _ = (0 + (line1 : Int).toNat) * 4 + 2 from rfl) ?_
    exact TX.quiet 14 hu hi rfl
   ·
    intro D hn hd hcl hu hi
    refine TO.loadVecRd (n := 0 + (line1 : Int).toNat) (j := 2) (i := 2) (q := q1) hrd rfl sc_3 enc_Gplace_ended_len rfl dc (dl_lookup (m := 14) hu rfl (hd 14 dc)) (Vw.get (hrd.vw (i := 2) rfl) hq1) rfl dc rfl ?_
    exact TX.quiet 15 hu hi rfl
   ·
    intro D hn hd hcl
    refine TO.stores (k := 0) (vs := [.int .i64 q1.span_From, .int .i64 q1.span_To]) (l' := [.int .i64 q1.span_From, .int .i64 q1.span_To]) sz_34 rfl (dl_old (by rfl) rfl) (dl_lookup (m := 7) kr rfl (hd 7 dc)) rfl rfl (show _ ≤ _ by simp) rfl rfl ?_
    show TO _ _ _ _ _ _ _ _ _ _ [cells b1 [.int .i64 q1.span_From, .int .i64 q1.span_To] 34]
    exact fun a w ha hw => ⟨(), ha, hw⟩
   intro _b
   show TO _ _ _ _ _ _ _ _ _ _ [cells b1 [.int .i64 q1.span_From, .int .i64 q1.span_To] 34]
   refine TO.assign rfl dc rfl (TO.assign rfl dc rfl (TO.nil (TX.next (TC.ret ?_))))
   cases h
   exact TX.fin (rs := [.cell 4 34, .tmp 5, .tmp 6]) () (.inl rfl) Tryd.results47 (.cons (.cells rw_34 (k := 0) rfl rfl rfl) (.cons (.tmp rfl) (.cons (.tmp rfl) .nil))) rfl Splits.nil
end Go.Proofs.YtgfkogafkhbgnaaDoor
namespace Go.Proofs.YtgfkogafkhbgnaaDoor
open Go.RowKit Go.Lib
set_option linter.unusedVariables false
set_option linter.unusedSimpArgs false
def ref17_Empty_s1 (s1 : ByteArray) (j1 : Option Bool) (ag1 : Int → Option Bool) (i3 : Int) : Option Bool := bcond (decide ((i3 : Int) < (s1.size : Int))) ( joinK (fun (j2 : Option Bool) => andThen (getB s1 i3) fun (c1 : Int) => bcond ((c1 : Int) != 32) ( bcond ((c1 : Int) != 9) ( some false
) ( j2
)
) ( j2
)
) ( grd (I64 (i3 + 1)) <| ag1 (i3 + 1)
)
) ( j1
)
def ref17_Empty_v (s1 : ByteArray) : Option Bool := joinK (fun (j1 : Option Bool) => loopG (fun _ => none) (ref17_Empty_s1 s1 j1) fuel 0
) ( some true
)
def ref17_Titled_v (s1 : ByteArray) : Option Bool := bcond (decide (s1 = (⟨#[35]⟩ : ByteArray))) ( some true
) ( bcond (decide ((1 : Int) < (s1.size : Int))) ( andThen (getB s1 0) fun (c1 : Int) => bcond ((c1 : Int) == 35) ( andThen (getB s1 1) fun (c2 : Int) => some ((c2 : Int) == 32)
) ( some false
)
) ( some false
)
)
def ref17_Indent_s1 (s1 : ByteArray) (j1 : Int → Option Int) (ag1 : Int → Option Int) (n4 : Int) : Option Int := bcond (decide ((n4 : Int) < (s1.size : Int))) ( andThen (getB s1 n4) fun (c1 : Int) => bcond ((c1 : Int) == 32) ( grd (I64 (n4 + 1)) <| ag1 (n4 + 1)
) ( j1 n4
)
) ( j1 n4
)
def ref17_Indent_v (s1 : ByteArray) : Option Int := joinK (fun (j1 : Int → Option Int) => loopG (fun _ => none) (ref17_Indent_s1 s1 j1) fuel 0
) (fun (n1 : Int) => some n1
)
def ref02_Ends_s1 (s1 : ByteArray) (j1 : (List Gapi_Span) → Option (List Gapi_Span)) (ag1 : (List Gapi_Span) → Int → Option (List Gapi_Span)) (l4 : List Gapi_Span) (i3 : Int) : Option (List Gapi_Span) := bcond (decide ((i3 : Int) < (s1.size : Int))) ( joinK (fun (j2 : (List Gapi_Span) → Int → Option (List Gapi_Span)) => andThen (getB s1 i3) fun (c1 : Int) => bcond ((c1 : Int) == 13) ( grd (I64 (i3 + 1)) <| bcond (decide (((i3 + 1) : Int) < (s1.size : Int))) ( grd (I64 (i3 + 1)) <| andThen (getB s1 (i3 + 1)) fun (c2 : Int) => bcond ((c2 : Int) == 10) ( grd (I64 (i3 + 2)) <| grd (l4.length + 1 ≤ 2147483648) <| grd (I64 (i3 + 1)) <| j2 (l4 ++ [(⟨i3, i3 + 2⟩ : Gapi_Span)]) (i3 + 1)
) ( andThen (getB s1 i3) fun (c3 : Int) => bcond ((c3 : Int) == 13) ( grd (I64 (i3 + 1)) <| grd (l4.length + 1 ≤ 2147483648) <| j2 (l4 ++ [(⟨i3, i3 + 1⟩ : Gapi_Span)]) i3
) ( bcond ((c3 : Int) == 10) ( grd (I64 (i3 + 1)) <| grd (l4.length + 1 ≤ 2147483648) <| j2 (l4 ++ [(⟨i3, i3 + 1⟩ : Gapi_Span)]) i3
) ( j2 l4 i3
)
)
)
) ( andThen (getB s1 i3) fun (c4 : Int) => bcond ((c4 : Int) == 13) ( grd (I64 (i3 + 1)) <| grd (l4.length + 1 ≤ 2147483648) <| j2 (l4 ++ [(⟨i3, i3 + 1⟩ : Gapi_Span)]) i3
) ( bcond ((c4 : Int) == 10) ( grd (I64 (i3 + 1)) <| grd (l4.length + 1 ≤ 2147483648) <| j2 (l4 ++ [(⟨i3, i3 + 1⟩ : Gapi_Span)]) i3
) ( j2 l4 i3
)
)
)
) ( andThen (getB s1 i3) fun (c5 : Int) => bcond ((c5 : Int) == 13) ( grd (I64 (i3 + 1)) <| grd (l4.length + 1 ≤ 2147483648) <| j2 (l4 ++ [(⟨i3, i3 + 1⟩ : Gapi_Span)]) i3
) ( bcond ((c5 : Int) == 10) ( grd (I64 (i3 + 1)) <| grd (l4.length + 1 ≤ 2147483648) <| j2 (l4 ++ [(⟨i3, i3 + 1⟩ : Gapi_Span)]) i3
) ( j2 l4 i3
)
)
)
) (fun (l5 : List Gapi_Span) (i4 : Int) => grd (I64 (i4 + 1)) <| ag1 l5 (i4 + 1)
)
) ( j1 l4
)
def ref02_Ends_v (s1 : ByteArray) : Option (List Gapi_Span) := joinK (fun (j1 : (List Gapi_Span) → Option (List Gapi_Span)) => loopG (fun _ _ => none) (ref02_Ends_s1 s1 j1) fuel ([] : List Gapi_Span) 0
) (fun (l1 : List Gapi_Span) => some l1
)
def ref17_Lines_s1 (s1 : ByteArray) (j1 : (List Gapi_Span) → Option (List Gapi_Span)) (r1 : (List Gapi_Span)) (r2 : (List Gapi_Span)) (ag1 : (List Gapi_Span) → Int → Int → Option (List Gapi_Span)) (l4 : List Gapi_Span) (from3 : Int) (i3 : Int) : Option (List Gapi_Span) := bcond (decide ((i3 : Int) < ((r1.length : Int) + 1))) ( joinK (fun (j2 : Int → Int → Option (List Gapi_Span)) => bcond (decide ((i3 : Int) < (r2.length : Int))) ( andThen (getO r2 i3) fun (q1 : Gapi_Span) => andThen (getO r2 i3) fun (q2 : Gapi_Span) => j2 q2.To q1.From
) ( j2 from3 (s1.size : Int)
)
) (fun (from4 : Int) (x1 : Int) => grd (l4.length + 1 ≤ 2147483648) <| grd (I64 (i3 + 1)) <| ag1 (l4 ++ [(⟨from3, x1⟩ : Gapi_Span)]) from4 (i3 + 1)
)
) ( j1 l4
)
def ref17_Lines_v (s1 : ByteArray) : Option (List Gapi_Span) := joinK (fun (j1 : (List Gapi_Span) → Option (List Gapi_Span)) => andThen (ref02_Ends_v s1) fun (r1 : (List Gapi_Span)) => grd (I64 ((r1.length : Int) + 1)) <| andThen (ref02_Ends_v s1) fun (r2 : (List Gapi_Span)) => loopG (fun _ _ _ => none) (ref17_Lines_s1 s1 j1 r1 r2) fuel ([] : List Gapi_Span) 0 0
) (fun (l1 : List Gapi_Span) => some l1
)
end Go.Proofs.YtgfkogafkhbgnaaDoor
namespace Go.Proofs.YtgfkogafkhbgnaaDoor
open Go.RowKit Go.Lib
set_option linter.unusedVariables false
set_option linter.unusedSimpArgs false
/-! ### Bytes -/
theorem bs_len (s : ByteArray) : s.data.toList.length = s.size := by rw [Array.length_toList]; rfl
theorem getB_at {s : ByteArray} {i : Nat} {b : UInt8} {t : List UInt8} (h : s.data.toList.drop i = b :: t) : getB s (i : Int) = some (b.toNat : Int) ∧ i < s.size := by
  have hl : i < s.data.toList.length := by
    rcases Nat.lt_or_ge i s.data.toList.length with h1 | h1
    · exact h1
    · rw [List.drop_eq_nil_of_le h1] at h; cases h
  have hs : i < s.size := by rw [← bs_len]; exact hl
  refine ⟨?_, hs⟩
  rw [getB_of rfl hs]
  rw [List.drop_eq_getElem_cons hl] at h
  have h2 := (List.cons.inj h).1
  rw [Array.getElem_toList] at h2
  rw [← h2]; rfl
theorem drop_nil_size {s : ByteArray} {i : Nat} (h : s.data.toList.drop i = []) (hi : i ≤ s.size) : i = s.size := by
  rw [List.drop_eq_nil_iff, bs_len] at h; omega
theorem drop_next {l : List UInt8} {i : Nat} {b : UInt8} {t : List UInt8} (h : l.drop i = b :: t) : l.drop (i + 1) = t := by
  rw [← List.drop_drop, h]; rfl
theorem n13 (b : UInt8) : ((b.toNat : Int) == 13) = decide (b = 13) := by
  by_cases h : b = 13
  · subst h; rfl
  · rw [decide_eq_false h]; exact beq_eq_false_iff_ne.2 (fun e => h (UInt8.toNat.inj (by show b.toNat = 13; omega)))
theorem n10 (b : UInt8) : ((b.toNat : Int) == 10) = decide (b = 10) := by
  by_cases h : b = 10
  · subst h; rfl
  · rw [decide_eq_false h]; exact beq_eq_false_iff_ne.2 (fun e => h (UInt8.toNat.inj (by show b.toNat = 10; omega)))
theorem n32 (b : UInt8) : ((b.toNat : Int) == 32) = decide (b = 32) := by
  by_cases h : b = 32
  · subst h; rfl
  · rw [decide_eq_false h]; exact beq_eq_false_iff_ne.2 (fun e => h (UInt8.toNat.inj (by show b.toNat = 32; omega)))
theorem n9 (b : UInt8) : ((b.toNat : Int) == 9) = decide (b = 9) := by
  by_cases h : b = 9
  · subst h; rfl
  · rw [decide_eq_false h]; exact beq_eq_false_iff_ne.2 (fun e => h (UInt8.toNat.inj (by show b.toNat = 9; omega)))
theorem n35 (b : UInt8) : ((b.toNat : Int) == 35) = decide (b = 35) := by
  by_cases h : b = 35
  · subst h; rfl
  · rw [decide_eq_false h]; exact beq_eq_false_iff_ne.2 (fun e => h (UInt8.toNat.inj (by show b.toNat = 35; omega)))

/-! ### The lines' spans -/
/-- The spans of lines: p: the byte ahead is 13; f: where the line begins; a: where we are. -/
def spP : Bool → Nat → Nat → List UInt8 → List (Nat × Nat)
  | _, f, a, [] => [(f, a)]
  | p, f, a, b :: t =>
    if b = 13 then (if t.head? = some 10 then spP true f (a + 1) t else (f, a) :: spP true (a + 1) (a + 1) t)
    else if b = 10 then (f, if p then a - 1 else a) :: spP false (a + 1) (a + 1) t
    else spP false f (a + 1) t
def spansOf (l : List UInt8) : List (Nat × Nat) := spP false 0 0 l
def mkS (x : Nat × Nat) : Gapi_Span := ⟨x.1, x.2⟩
/-- The ends of lines. -/
def enP : Bool → Nat → List UInt8 → List (Nat × Nat)
  | _, _, [] => []
  | p, a, b :: t =>
    if b = 13 then (if t.head? = some 10 then enP true (a + 1) t else (a, a + 1) :: enP true (a + 1) t)
    else if b = 10 then ((if p then a - 1 else a), a + 1) :: enP false (a + 1) t
    else enP false (a + 1) t
def liE (n : Nat) : Nat → List (Nat × Nat) → List (Nat × Nat)
  | f, [] => [(f, n)]
  | f, (x, y) :: es => (f, x) :: liE n y es
theorem liE_enP : ∀ (l : List UInt8) (p : Bool) (f a : Nat), liE (a + l.length) f (enP p a l) = spP p f a l
  | [], p, f, a => rfl
  | b :: t, p, f, a => by
    have e : a + (b :: t).length = a + 1 + t.length := by rw [List.length_cons]; omega
    rw [e]
    unfold enP spP
    split
    · split
      · exact liE_enP t _ _ _
      · show (f, a) :: liE _ _ _ = _
        rw [liE_enP t]
    · split
      · show (f, _) :: liE _ _ _ = _
        rw [liE_enP t]
      · exact liE_enP t _ _ _
theorem enP_any {t : List UInt8} (h : t.head? ≠ some 10) (a : Nat) : enP true a t = enP false a t := by
  cases t with
  | nil => rfl
  | cons b t =>
    have hb : b ≠ 10 := fun e => h (by rw [e]; rfl)
    unfold enP
    rw [if_neg hb, if_neg hb]
theorem enP_len : ∀ (l : List UInt8) (p : Bool) (a : Nat), (enP p a l).length ≤ l.length
  | [], p, a => Nat.le_refl _
  | b :: t, p, a => by
    unfold enP
    rw [List.length_cons]
    split
    · split
      · have := enP_len t true (a + 1); omega
      · rw [List.length_cons]; have := enP_len t true (a + 1); omega
    · split
      · rw [List.length_cons]; have := enP_len t false (a + 1); omega
      · have := enP_len t false (a + 1); omega
theorem ends_loop (s : ByteArray) (J : List Gapi_Span → Option (List Gapi_Span)) (hs : s.size ≤ 1073741824) : ∀ (n i : Nat) (acc : List Gapi_Span), i ≤ s.size → s.size - i < n → acc.length ≤ i →
    loopG (fun _ _ => none) (ref02_Ends_s1 s J) n acc (i : Int) = J (acc ++ (enP false i (s.data.toList.drop i)).map mkS) := by
  intro n
  induction n with
  | zero => intro i acc h1 h2; omega
  | succ n ih =>
    intro i acc hi hn ha
    rw [loopG_succ]
    obtain ⟨ag, hag⟩ : ∃ ag, ag = loopG (fun _ _ => none) (ref02_Ends_s1 s J) n := ⟨_, rfl⟩
    have ihn : ∀ (i : Nat) (acc : List Gapi_Span), i ≤ s.size → s.size - i < n → acc.length ≤ i → ag acc (i : Int) = J (acc ++ (enP false i (s.data.toList.drop i)).map mkS) := by rw [hag]; exact ih
    rw [← hag]
    clear ih hag
    unfold ref02_Ends_s1
    cases hd : s.data.toList.drop i with
    | nil =>
      have := drop_nil_size hd hi
      refine condFI (decide_eq_false (by omega)) ?_
      show J acc = J (acc ++ [])
      rw [List.append_nil]
    | cons b t =>
      obtain ⟨hb, hlt⟩ := getB_at hd
      have hd1 := drop_next hd
      refine condTI (decide_eq_true (by omega)) (joinI (thenI hb ?_))
      have hcast : (i : Int) + 1 = ((i + 1 : Nat) : Int) := by omega
      have goOn : ∀ (acc2 : List Gapi_Span), acc2.length ≤ i + 1 → (grd (I64 ((i : Int) + 1)) <| ag acc2 ((i : Int) + 1)) = J (acc2 ++ (enP false (i + 1) t).map mkS) := fun acc2 h2 => by
        refine grdI ⟨by omega, by omega⟩ ?_
        rw [hcast, ihn (i + 1) acc2 (by omega) (by omega) h2, hd1]
      by_cases h13 : b = 13
      · refine condTI (by rw [n13]; exact decide_eq_true h13) (grdI ⟨by omega, by omega⟩ ?_)
        have one : (grd (I64 ((i : Int) + 1)) <| grd (acc.length + 1 ≤ 2147483648) <| (grd (I64 ((i : Int) + 1)) <| ag (acc ++ [(⟨i, (i : Int) + 1⟩ : Gapi_Span)]) ((i : Int) + 1))) = J (acc ++ ((i, i + 1) :: enP false (i + 1) t).map mkS) := by
          refine grdI ⟨by omega, by omega⟩ (grdI (by omega) ?_)
          rw [goOn _ (by simp; omega), List.map_cons, List.append_assoc]
          rfl
        cases t with
        | nil =>
          have hsz : i + 1 = s.size := drop_nil_size hd1 (by omega)
          refine condFI (decide_eq_false (by omega)) (thenI hb (condTI (by rw [n13]; exact decide_eq_true h13) ?_))
          refine one.trans ?_
          unfold enP; rw [if_pos h13, if_neg (by simp)]; rfl
        | cons c u =>
          obtain ⟨hc, hlt2⟩ := getB_at hd1
          refine condTI (decide_eq_true (by omega)) (grdI ⟨by omega, by omega⟩ (thenI (by rw [hcast]; exact hc) ?_))
          by_cases h10 : c = 10
          · refine condTI (by rw [n10]; exact decide_eq_true h10) (grdI ⟨by omega, by omega⟩ (grdI (by omega) (grdI ⟨by omega, by omega⟩ ?_)))
            refine grdI ⟨by omega, by omega⟩ ?_
            have hd2 := drop_next hd1
            show ag _ ((i : Int) + 1 + 1) = _
            rw [show (i : Int) + 1 + 1 = ((i + 2 : Nat) : Int) by omega, ihn (i + 2) _ (by omega) (by omega) (by simp; omega), hd2, List.append_assoc]
            have e2 : enP false i (b :: c :: u) = (i, i + 2) :: enP false (i + 2) u := by
              rw [enP, if_pos h13, if_pos (by rw [h10]; rfl), enP, if_neg (by rw [h10]; decide), if_pos h10, if_pos rfl]
              rfl
            rw [e2]
            rfl
          · refine condFI (by rw [n10]; exact decide_eq_false h10) (thenI hb (condTI (by rw [n13]; exact decide_eq_true h13) ?_))
            refine one.trans ?_
            rw [show enP false i (b :: c :: u) = (i, i + 1) :: enP true (i + 1) (c :: u) by rw [enP, if_pos h13, if_neg (by simp [h10])], enP_any (by simp [h10])]
      · refine condFI (by rw [n13]; exact decide_eq_false h13) (thenI hb (condFI (by rw [n13]; exact decide_eq_false h13) ?_))
        by_cases h10 : b = 10
        · refine condTI (by rw [n10]; exact decide_eq_true h10) (grdI ⟨by omega, by omega⟩ (grdI (by omega) ?_))
          refine (goOn _ (by simp; omega)).trans ?_
          rw [List.append_assoc]
          rw [enP, if_neg h13, if_pos h10]; rfl
        · refine condFI (by rw [n10]; exact decide_eq_false h10) ?_
          refine (goOn _ (by omega)).trans ?_
          rw [enP, if_neg h13, if_neg h10]
theorem ends_v (s : ByteArray) (hs : s.size ≤ 1073741824) : ref02_Ends_v s = some ((enP false 0 s.data.toList).map mkS) := by
  unfold ref02_Ends_v
  refine joinI ?_
  have := ends_loop s (fun l => some l) hs fuel 0 [] (Nat.zero_le _) (by unfold fuel; omega) (Nat.le_refl _)
  rw [List.drop_zero, List.nil_append] at this
  exact this
theorem lines_loop (s : ByteArray) (J : List Gapi_Span → Option (List Gapi_Span)) (E : List (Nat × Nat)) (hE : E.length ≤ 1073741824) : ∀ (n i f : Nat) (acc : List Gapi_Span), i ≤ E.length → E.length + 1 - i < n → acc.length = i →
    loopG (fun _ _ _ => none) (ref17_Lines_s1 s J (E.map mkS) (E.map mkS)) n acc (f : Int) (i : Int) = J (acc ++ (liE s.size f (E.drop i)).map mkS) := by
  intro n
  induction n with
  | zero => intro i f acc h1 h2; omega
  | succ n ih =>
    intro i f acc hi hn ha
    rw [loopG_succ]
    obtain ⟨ag, hag⟩ : ∃ ag, ag = loopG (fun _ _ _ => none) (ref17_Lines_s1 s J (E.map mkS) (E.map mkS)) n := ⟨_, rfl⟩
    rw [← hag]
    unfold ref17_Lines_s1
    refine condTI (decide_eq_true (by rw [List.length_map]; omega)) (joinI ?_)
    cases hd : E.drop i with
    | nil =>
      have hl : E.length ≤ i := List.drop_eq_nil_iff.1 hd
      obtain rfl : i = E.length := by omega
      refine condFI (decide_eq_false (by rw [List.length_map]; omega)) (grdI (by omega) (grdI ⟨by omega, by omega⟩ ?_))
      obtain ⟨n, rfl⟩ : ∃ m, n = m + 1 := ⟨n - 1, by omega⟩
      rw [hag, loopG_succ]
      unfold ref17_Lines_s1
      refine condFI (decide_eq_false (by rw [List.length_map]; omega)) rfl
    | cons x es =>
      have hl : i < E.length := by
        rcases Nat.lt_or_ge i E.length with h | h
        · exact h
        · rw [List.drop_eq_nil_of_le h] at hd; cases hd
      have hx : E[i]? = some x := by
        rw [List.drop_eq_getElem_cons hl] at hd
        rw [List.getElem?_eq_getElem hl, (List.cons.inj hd).1]
      have hg : getO (E.map mkS) (i : Int) = some (mkS x) := getO_nat (by rw [List.getElem?_map, hx]; rfl)
      refine condTI (decide_eq_true (by rw [List.length_map]; omega)) (thenI hg (thenI hg (grdI (by omega) (grdI ⟨by omega, by omega⟩ ?_))))
      have hd1 : E.drop (i + 1) = es := by rw [← List.drop_drop, hd]; rfl
      have := ih (i + 1) x.2 (acc ++ [(⟨f, x.1⟩ : Gapi_Span)]) (by omega) (by omega) (by simp; omega)
      rw [hd1, List.append_assoc, ← hag] at this
      exact this
theorem reflines_v (s : ByteArray) (hs : s.size ≤ 65536) : ref17_Lines_v s = some ((spansOf s.data.toList).map mkS) := by
  unfold ref17_Lines_v
  have hl := enP_len s.data.toList false 0
  rw [bs_len] at hl
  refine joinI (thenI (ends_v s (by omega)) (grdI ⟨by omega, by rw [List.length_map]; omega⟩ (thenI (ends_v s (by omega)) ?_)))
  have := lines_loop s (fun l => some l) (enP false 0 s.data.toList) (by omega) fuel 0 0 [] (Nat.zero_le _) (by unfold fuel; omega) rfl
  rw [List.drop_zero, List.nil_append] at this
  refine this.trans ?_
  unfold spansOf
  rw [← liE_enP, bs_len, Nat.zero_add]
end Go.Proofs.YtgfkogafkhbgnaaDoor
namespace Go.Proofs.YtgfkogafkhbgnaaDoor
open Go.RowKit Go.Lib
set_option linter.unusedVariables false
set_option linter.unusedSimpArgs false
theorem big_piece {b : UInt8} {t : List UInt8} (hb : 128 ≤ b.toNat) : 128 ≤ (decodeL (b :: t)).1 ∧ ∀ x ∈ (b :: t).take (decodeL (b :: t)).2, 128 ≤ x.toNat := by
  have hd := decOk (b :: t) (by simp)
  generalize (decodeL (b :: t)).1 = r at hd ⊢
  generalize (decodeL (b :: t)).2 = w at hd ⊢
  obtain ⟨w, rfl⟩ : ∃ v, w = v + 1 := ⟨w - 1, by have := hd.pos; omega⟩
  by_cases hbr : r = 65533 ∧ w + 1 = 1
  · obtain ⟨rfl, hw⟩ := hbr
    obtain rfl : w = 0 := by omega
    refine ⟨by omega, fun x hx => ?_⟩
    simp at hx; subst hx; omega
  · have he := hd.bytes hbr
    have hr : 128 ≤ r := by
      rcases Nat.lt_or_ge r 128 with h1 | h1
      · rw [enc_one r h1, List.take_succ_cons] at he
        have h2 : r.toUInt8 = b := (List.cons.inj he).1
        have h3 : b.toNat = r := by rw [← h2]; simp; omega
        omega
      · exact h1
    refine ⟨hr, ?_⟩
    rw [← he]
    exact (enc_big r hd.valid hr).2.2
def spE (e : Gplace_ended) : Gapi_Span := ⟨e.span_From, e.span_To⟩
/-- Is the byte ahead 13? -/
def pv (l : List UInt8) (i : Nat) : Bool := decide (0 < i) && l.getD (i - 1) 0 == 13
theorem getD_drop {l : List UInt8} {i : Nat} {b : UInt8} {t : List UInt8} (h : l.drop i = b :: t) : l.getD i 0 = b := by
  have h2 : (l.drop i)[0]? = some b := by rw [h]; rfl
  rw [List.getElem?_drop] at h2
  rw [List.getD_eq_getElem?_getD, show i = i + 0 from rfl, h2]; rfl
theorem pv_next {l : List UInt8} {i : Nat} {b : UInt8} {t : List UInt8} (h : l.drop i = b :: t) : pv l (i + 1) = (b == 13) := by
  unfold pv
  rw [Nat.add_sub_cancel, getD_drop h, decide_eq_true (by omega), Bool.true_and]
theorem pv_skip {l : List UInt8} {i w : Nat} (hw : 1 ≤ w) (hle : w ≤ (l.drop i).length) (h : ∀ x ∈ (l.drop i).take w, 128 ≤ x.toNat) : pv l (i + w) = false := by
  unfold pv
  obtain ⟨w, rfl⟩ : ∃ v, w = v + 1 := ⟨w - 1, by omega⟩
  have hlt : w < (l.drop i).length := by omega
  have h1 : (l.drop i)[w]? = some ((l.drop i)[w]) := List.getElem?_eq_getElem hlt
  have h2 : (l.drop i)[w] ∈ (l.drop i).take (w + 1) := by
    refine List.mem_of_getElem? (i := w) ?_
    rw [List.getElem?_take, if_pos (by omega)]; exact h1
  have h3 := h _ h2
  rw [List.getElem?_drop] at h1
  rw [show i + (w + 1) - 1 = i + w by omega, List.getD_eq_getElem?_getD, h1, Option.getD_some]
  have : ((l.drop i)[w] == 13) = false := beq_eq_false_iff_ne.2 (fun e => by rw [e] at h3; exact absurd h3 (by decide))
  rw [this, Bool.and_false]
theorem spP_big : ∀ (x t : List UInt8) (p : Bool) (f i : Nat), (∀ b ∈ x, 128 ≤ b.toNat) → x ≠ [] → spP p f i (x ++ t) = spP false f (i + x.length) t
  | [], t, p, f, i, h, hx => absurd rfl hx
  | b :: x, t, p, f, i, h, hx => by
    have hb := h b (by simp)
    have h13 : b ≠ 13 := fun e => by rw [e] at hb; exact absurd hb (by decide)
    have h10 : b ≠ 10 := fun e => by rw [e] at hb; exact absurd hb (by decide)
    rw [List.cons_append, spP, if_neg h13, if_neg h10]
    by_cases hx2 : x = []
    · subst hx2; rfl
    · rw [spP_big x t false f (i + 1) (fun y hy => h y (by simp [hy])) hx2, List.length_cons]
      rw [show i + 1 + x.length = i + (x.length + 1) by omega]
section
variable {s : ByteArray} {j1 : (List Gapi_Place) → (List Gplace_ended) → Int → Int → Int → Int → Int → Int → Int → Option ((Option Gplace_Map) × Int)} {ag : (List Gapi_Place) → (List Gplace_ended) → Int → Int → Int → Int → Int → Int → Int → Nat → Option ((Option Gplace_Map) × Int)}
  {M : List Gapi_Place} {E : List Gplace_ended} {p16 p17 p18 p19 p20 f7 f8 : Int} {m : Nat} {p : Pc}
def u22 (p : Pc) (p18 : Int) : Int := if 65536 ≤ p.r then p18 + 1 + 1 else p18 + 1
theorem new_u {X : Option ((Option Gplace_Map) × Int)} {A B C D : Prop} [Decidable A] [Decidable B] [Decidable C] [Decidable D] (hA : A) (hB : B) (hC : C) (hD : D) (h18 : I64 (p18 + 1 + 1)) {K : Int → Option ((Option Gplace_Map) × Int)} (h : K (u22 p p18) = X) :
    joinK (fun (j2 : Int → Option ((Option Gplace_Map) × Int)) => grd A <| grd B <| grd C <| grd D <| bcond (decide ((65536 : Int) ≤ (p.r : Int))) (grd (I64 ((p18 + 1) + 1)) <| j2 ((p18 + 1) + 1)) (j2 (p18 + 1))) K = X := by
  refine joinI (grdI hA (grdI hB (grdI hC (grdI hD ?_))))
  unfold u22 at h
  by_cases h1 : 65536 ≤ p.r
  · rw [if_pos h1] at h; exact condTI (decide_eq_true (by omega)) (grdI h18 h)
  · rw [if_neg h1] at h; exact condFI (decide_eq_false (by omega)) h
/-- The program's step at a piece. -/
theorem new_step {X : Option ((Option Gplace_Map) × Int)} (hp : (pcs s.data.toList)[m]? = some p) (hm : M.length + 1 ≤ 2147483648) (h17 : I64 (p17 + 1)) (h18 : I64 (p18 + 1 + 1)) (h18' : I64 (p18 + 1)) (h20 : I64 (p20 + 1))
    (hi : p.i < s.size) (hs : s.size ≤ 65536) (hE : E.length + 1 ≤ 2147483648) (h19 : I64 (p19 + 1))
    (hX : (p.r ≠ 13 ∧ p.r ≠ 10 ∨ p.r = 13 ∧ ∃ c u, s.data.toList.drop (p.i + 1) = c :: u ∧ c = 10) ∧ ag (M ++ [(⟨p.i, p17, p18, p19, p20⟩ : Gapi_Place)]) E p.i (p17 + 1) (u22 p p18) p19 (p20 + 1) f7 f8 (m + 1) = X ∨
      ∃ w : Nat, w ≤ p.i + 1 ∧ (p.r = 13 ∧ s.data.toList[p.i + 1]? ≠ some 10 ∧ w = 1 ∨ p.r = 10 ∧ w = (if pv s.data.toList p.i then 2 else 1)) ∧
        ag (M ++ [(⟨p.i, p17, p18, p19, p20⟩ : Gapi_Place)]) (E ++ [(⟨f7, ((p.i + 1 - w : Nat) : Int), w, f8⟩ : Gplace_ended)]) p.i (p17 + 1) (u22 p p18) (p19 + 1) 0 ((p.i + 1 : Nat) : Int) ((M.length + 1 : Nat) : Int) (m + 1) = X) :
    place_New_s1 s j1 ag M E p16 p17 p18 p19 p20 f7 f8 m = X := by
  have hl := (List.getElem?_eq_some_iff.1 hp).1
  unfold place_New_s1
  refine condTI (decide_eq_true hl) (thenI hp (new_u hm h17 h18' h20 h18 ?_))
  refine joinI ?_
  have e13 : ((p.r : Int) == 13) = decide (p.r = 13) := by
    by_cases h : p.r = 13
    · rw [h]; rfl
    · rw [decide_eq_false h]; exact beq_eq_false_iff_ne.2 (by omega)
  have e10 : ((p.r : Int) == 10) = decide (p.r = 10) := by
    by_cases h : p.r = 10
    · rw [h]; rfl
    · rw [decide_eq_false h]; exact beq_eq_false_iff_ne.2 (by omega)
  have n13' : ((p.r : Int) != 13) = !decide (p.r = 13) := by unfold bne; rw [e13]
  have n10' : ((p.r : Int) != 10) = !decide (p.r = 10) := by unfold bne; rw [e10]
  have hsucc : (p.i : Int) + 1 = ((p.i + 1 : Nat) : Int) := by omega
  have fin : ∀ w : Nat, w ≤ p.i + 1 → ag (M ++ [(⟨p.i, p17, p18, p19, p20⟩ : Gapi_Place)]) (E ++ [(⟨f7, ((p.i + 1 - w : Nat) : Int), w, f8⟩ : Gplace_ended)]) p.i (p17 + 1) (u22 p p18) (p19 + 1) 0 ((p.i + 1 : Nat) : Int) ((M.length + 1 : Nat) : Int) (m + 1) = X →
      (grd (I64 ((p.i : Int) + 1)) <| grd (I64 (((p.i : Int) + 1) - (w : Int))) <| grd (E.length + 1 ≤ 2147483648) <| grd (I64 ((p.i : Int) + 1)) <| grd (I64 (p19 + 1)) <|
        ag (M ++ [(⟨(p.i : Int), p17, p18, p19, p20⟩ : Gapi_Place)]) (E ++ [(⟨f7, ((p.i : Int) + 1) - (w : Int), (w : Int), f8⟩ : Gplace_ended)]) (p.i : Int) (p17 + 1) (u22 p p18) (p19 + 1) 0 ((p.i : Int) + 1) ((M ++ [(⟨(p.i : Int), p17, p18, p19, p20⟩ : Gapi_Place)]).length : Int) (m + 1)) = X := fun w hw h => by
    refine grdI ⟨by omega, by omega⟩ (grdI ⟨by omega, by omega⟩ (grdI hE (grdI ⟨by omega, by omega⟩ (grdI h19 ?_))))
    rw [← h]
    rw [show ((p.i : Int) + 1) - (w : Int) = ((p.i + 1 - w : Nat) : Int) by omega, show (p.i : Int) + 1 = ((p.i + 1 : Nat) : Int) by omega, List.length_append]
    rfl
  by_cases h13 : p.r = 13
  · refine condTI (by rw [e13]; exact decide_eq_true h13) (grdI ⟨by omega, by omega⟩ ?_)
    have no10 : p.r ≠ 10 := by omega
    rcases hX with ⟨hc, hX⟩ | ⟨w, hw, hc, hX⟩
    · rcases hc with ⟨h, _⟩ | ⟨_, c, u, hd, hc⟩
      · exact absurd h13 h
      · obtain ⟨hg, hlt⟩ := getB_at hd
        refine condTI (decide_eq_true (by omega)) (grdI ⟨by omega, by omega⟩ (thenI (by rw [hsucc]; exact hg) (condTI (by rw [n10]; exact decide_eq_true hc) hX)))
    · have hw1 : w = 1 ∧ s.data.toList[p.i + 1]? ≠ some 10 := by
        rcases hc with ⟨_, h, rfl⟩ | ⟨h, _⟩
        · exact ⟨rfl, h⟩
        · exact absurd h no10
      obtain ⟨rfl, hne⟩ := hw1
      have tail : (bcond (((p.r : Int) : Int) != 13) (bcond (((p.r : Int) : Int) != 10) (ag (M ++ [(⟨(p.i : Int), p17, p18, p19, p20⟩ : Gapi_Place)]) E (p.i : Int) (p17 + 1) (u22 p p18) p19 (p20 + 1) f7 f8 (m + 1)) ((grd (I64 ((p.i : Int) + 1)) <| grd (I64 (((p.i : Int) + 1) - (1 : Int))) <| grd (E.length + 1 ≤ 2147483648) <| grd (I64 ((p.i : Int) + 1)) <| grd (I64 (p19 + 1)) <|
        ag (M ++ [(⟨(p.i : Int), p17, p18, p19, p20⟩ : Gapi_Place)]) (E ++ [(⟨f7, ((p.i : Int) + 1) - (1 : Int), (1 : Int), f8⟩ : Gplace_ended)]) (p.i : Int) (p17 + 1) (u22 p p18) (p19 + 1) 0 ((p.i : Int) + 1) ((M ++ [(⟨(p.i : Int), p17, p18, p19, p20⟩ : Gapi_Place)]).length : Int) (m + 1)))) ((grd (I64 ((p.i : Int) + 1)) <| grd (I64 (((p.i : Int) + 1) - (1 : Int))) <| grd (E.length + 1 ≤ 2147483648) <| grd (I64 ((p.i : Int) + 1)) <| grd (I64 (p19 + 1)) <|
        ag (M ++ [(⟨(p.i : Int), p17, p18, p19, p20⟩ : Gapi_Place)]) (E ++ [(⟨f7, ((p.i : Int) + 1) - (1 : Int), (1 : Int), f8⟩ : Gplace_ended)]) (p.i : Int) (p17 + 1) (u22 p p18) (p19 + 1) 0 ((p.i : Int) + 1) ((M ++ [(⟨(p.i : Int), p17, p18, p19, p20⟩ : Gapi_Place)]).length : Int) (m + 1)))) = X :=
        condFI (by rw [n13', decide_eq_true h13]; rfl) (fin 1 hw hX)
      cases hd : s.data.toList.drop (p.i + 1) with
      | nil =>
        have hsz := drop_nil_size hd (by omega)
        refine condFI (decide_eq_false (by omega)) (condFI (by rw [e10]; exact decide_eq_false no10) tail)
      | cons c u =>
        obtain ⟨hg, hlt⟩ := getB_at hd
        have hc10 : c ≠ 10 := fun e => hne (by
          have : (s.data.toList.drop (p.i + 1))[0]? = some c := by rw [hd]; rfl
          rw [List.getElem?_drop] at this; rw [← e]; exact this)
        refine condTI (decide_eq_true (by omega)) (grdI ⟨by omega, by omega⟩ (thenI (by rw [hsucc]; exact hg) (condFI (by rw [n10]; exact decide_eq_false hc10) (condFI (by rw [e10]; exact decide_eq_false no10) tail))))
  · refine condFI (by rw [e13]; exact decide_eq_false h13) ?_
    by_cases h10 : p.r = 10
    · refine condTI (by rw [e10]; exact decide_eq_true h10) ?_
      rcases hX with ⟨hc, hX⟩ | ⟨w, hw, hc, hX⟩
      · rcases hc with ⟨_, h⟩ | ⟨h, _⟩
        · exact absurd h10 h
        · exact absurd h h13
      · have hw1 : w = (if pv s.data.toList p.i then 2 else 1) := by
          rcases hc with ⟨h, _⟩ | ⟨_, h⟩
          · exact absurd h h13
          · exact h
        have t13 : ((p.r : Int) != 13) = true := by rw [n13', decide_eq_false h13]; rfl
        have t10 : ((p.r : Int) != 10) = false := by rw [n10', decide_eq_true h10]; rfl
        by_cases h0 : 0 < p.i
        · refine condTI (decide_eq_true (by omega)) (grdI ⟨by omega, by omega⟩ ?_)
          obtain ⟨c, u, hd⟩ : ∃ c u, s.data.toList.drop (p.i - 1) = c :: u := by
            cases hd : s.data.toList.drop (p.i - 1) with
            | nil => have := drop_nil_size hd (by omega); omega
            | cons c u => exact ⟨c, u, rfl⟩
          obtain ⟨hg, _⟩ := getB_at hd
          have hpv : pv s.data.toList p.i = (c == 13) := by
            have := pv_next hd
            rwa [show p.i - 1 + 1 = p.i by omega] at this
          refine thenI (by rw [show (p.i : Int) - 1 = ((p.i - 1 : Nat) : Int) by omega]; exact hg) ?_
          by_cases hc13 : c = 13
          · have : w = 2 := by rw [hw1, hpv, hc13]; rfl
            subst this
            exact condTI (by rw [n13]; exact decide_eq_true hc13) (fin 2 hw hX)
          · have : w = 1 := by rw [hw1, hpv, beq_eq_false_iff_ne.2 hc13]; rfl
            subst this
            exact condFI (by rw [n13]; exact decide_eq_false hc13) (condTI t13 (condFI t10 (fin 1 hw hX)))
        · have : w = 1 := by rw [hw1]; unfold pv; rw [decide_eq_false h0]; rfl
          subst this
          exact condFI (decide_eq_false (by omega)) (condTI t13 (condFI t10 (fin 1 hw hX)))
    · refine condFI (by rw [e10]; exact decide_eq_false h10) ?_
      rcases hX with ⟨hc, hX⟩ | ⟨w, hw, hc, hX⟩
      · exact condTI (by rw [n13', decide_eq_false h13]; rfl) (condTI (by rw [n10', decide_eq_false h10]; rfl) hX)
      · rcases hc with ⟨h, _⟩ | ⟨h, _⟩
        · exact absurd h h13
        · exact absurd h h10
end
theorem new_loop (s : ByteArray) (J : (List Gapi_Place) → (List Gplace_ended) → Int → Int → Int → Int → Int → Int → Int → Option ((Option Gplace_Map) × Int)) (hs : s.size ≤ 65536) :
    ∀ (n m i : Nat) (M : List Gapi_Place) (E : List Gplace_ended) (p16 p17 p18 p19 p20 f8 : Int) (f : Nat), (pcs s.data.toList).drop m = pcsFrom i (s.data.toList.drop i) → i ≤ s.size → s.size - i < n → M.length ≤ i → E.length ≤ i →
      0 ≤ p17 → p17 ≤ i → 0 ≤ p18 → p18 ≤ 2 * i → 0 ≤ p19 → p19 ≤ i → 0 ≤ p20 → p20 ≤ i →
      ∃ M' E' q1 q2 q3 q4 q5 g8, ∃ g : Nat, loopG (fun _ _ _ _ _ _ _ _ _ _ => none) (place_New_s1 s J) n M E p16 p17 p18 p19 p20 (f : Int) f8 m = J M' E' q1 q2 q3 q4 q5 (g : Int) g8 ∧ M'.length ≤ s.size ∧ E'.length ≤ s.size ∧
        E'.map spE ++ [mkS (g, s.size)] = E.map spE ++ (spP (pv s.data.toList i) f i (s.data.toList.drop i)).map mkS := by
  intro n
  induction n with
  | zero => intro m i M E p16 p17 p18 p19 p20 f8 f h1 h2 h3; omega
  | succ n ih =>
    intro m i M E p16 p17 p18 p19 p20 f8 f hd hi hn hM hE a1 a2 a3 a4 a5 a6 a7 a8
    rw [loopG_succ]
    obtain ⟨ag, hag⟩ : ∃ ag, ag = loopG (fun _ _ _ _ _ _ _ _ _ _ => none) (place_New_s1 s J) n := ⟨_, rfl⟩
    rw [← hag] at ih ⊢
    cases hl : s.data.toList.drop i with
    | nil =>
      have hsz := drop_nil_size hl hi
      rw [hl, pcsFrom_nil] at hd
      have hge := List.drop_eq_nil_iff.1 hd
      refine ⟨M, E, p16, p17, p18, p19, p20, f8, f, ?_, by omega, by omega, ?_⟩
      · unfold place_New_s1
        exact condFI (decide_eq_false (by omega)) rfl
      · subst hsz; rfl
    | cons b t =>
      have hlt := (getB_at hl).2
      rw [hl, pcsFrom_cons i (b :: t) (by simp)] at hd
      have hlm : m < (pcs s.data.toList).length := by
        rcases Nat.lt_or_ge m (pcs s.data.toList).length with h | h
        · exact h
        · rw [List.drop_eq_nil_of_le h] at hd; cases hd
      have hq : (pcs s.data.toList)[m]? = some ⟨i, (decodeL (b :: t)).2, (decodeL (b :: t)).1⟩ := by
        rw [List.drop_eq_getElem_cons hlm] at hd
        rw [List.getElem?_eq_getElem hlm, (List.cons.inj hd).1]
      have hw1 := dec_pos (b :: t)
      have hwl := dec_le (b :: t) (by simp)
      have hd2 : (pcs s.data.toList).drop (m + 1) = pcsFrom (i + (decodeL (b :: t)).2) (s.data.toList.drop (i + (decodeL (b :: t)).2)) := by
        rw [← List.drop_drop, hd, ← List.drop_drop, hl]; rfl
      have hisz : i + (decodeL (b :: t)).2 ≤ s.size := by
        have : (s.data.toList.drop i).length = (b :: t).length := by rw [hl]
        rw [List.length_drop, bs_len] at this; omega
      have hup : ∀ (q : Pc), 0 ≤ u22 q p18 ∧ u22 q p18 ≤ p18 + 2 := fun q => by unfold u22; split <;> omega
      obtain ⟨hu1, hu2⟩ := hup ⟨i, (decodeL (b :: t)).2, (decodeL (b :: t)).1⟩
      have hst := @new_step s J ag M E p16 p17 p18 p19 p20 (f : Int) f8 m ⟨i, (decodeL (b :: t)).2, (decodeL (b :: t)).1⟩
      by_cases hb : 128 ≤ b.toNat
      · obtain ⟨hr, hall⟩ := big_piece (t := t) hb
        obtain ⟨M', E', q1, q2, q3, q4, q5, g8, g, h1, h2, h3, h4⟩ := ih (m + 1) (i + (decodeL (b :: t)).2) (M ++ [(⟨i, p17, p18, p19, p20⟩ : Gapi_Place)]) E i (p17 + 1) (u22 ⟨i, (decodeL (b :: t)).2, (decodeL (b :: t)).1⟩ p18) p19 (p20 + 1) f8 f hd2 hisz (by omega) (by simp; omega) (by omega) (by omega) (by omega) hu1 (by omega) a5 (by omega) (by omega) (by omega)
        refine ⟨M', E', q1, q2, q3, q4, q5, g8, g, hst hq (by omega) ⟨by omega, by omega⟩ ⟨by omega, by omega⟩ ⟨by omega, by omega⟩ ⟨by omega, by omega⟩ hlt hs (by omega) ⟨by omega, by omega⟩ (.inl ⟨.inl ⟨by show (decodeL (b :: t)).1 ≠ 13; omega, by show (decodeL (b :: t)).1 ≠ 10; omega⟩, h1⟩), h2, h3, ?_⟩
        rw [h4, pv_skip hw1 (by rw [hl]; exact hwl) (by rw [hl]; exact hall)]
        congr 2
        have hsplit : b :: t = (b :: t).take (decodeL (b :: t)).2 ++ (b :: t).drop (decodeL (b :: t)).2 := (List.take_append_drop _ _).symm
        have hlen : ((b :: t).take (decodeL (b :: t)).2).length = (decodeL (b :: t)).2 := by rw [List.length_take]; omega
        conv => rhs; rw [hsplit]
        rw [spP_big _ _ _ _ _ hall (by intro e; rw [e] at hlen; simp at hlen; omega), hlen, ← List.drop_drop, hl]
      · have hdec := decodeL_ascii b t (by omega)
        rw [hdec] at hst hq hd2 hisz
        dsimp only at hst hq hd2 hisz
        obtain ⟨hu3, hu4⟩ := hup ⟨i, 1, b.toNat⟩
        clear hu1 hu2
        have hd1 := drop_next hl
        have hpn := pv_next hl
        by_cases h13 : b = 13
        · by_cases ht : t.head? = some 10
          · obtain ⟨c, u, rfl⟩ : ∃ c u, t = c :: u := by cases t with | nil => cases ht | cons c u => exact ⟨c, u, rfl⟩
            have hc : c = 10 := Option.some.inj ht
            obtain ⟨M', E', q1, q2, q3, q4, q5, g8, g, h1, h2, h3, h4⟩ := ih (m + 1) (i + 1) (M ++ [(⟨i, p17, p18, p19, p20⟩ : Gapi_Place)]) E i (p17 + 1) (u22 ⟨i, 1, b.toNat⟩ p18) p19 (p20 + 1) f8 f hd2 hisz (by omega) (by simp; omega) (by omega) (by omega) (by omega) hu3 (by omega) a5 (by omega) (by omega) (by omega)
            refine ⟨M', E', q1, q2, q3, q4, q5, g8, g, hst hq (by omega) ⟨by omega, by omega⟩ ⟨by omega, by omega⟩ ⟨by omega, by omega⟩ ⟨by omega, by omega⟩ hlt hs (by omega) ⟨by omega, by omega⟩ (.inl ⟨.inr ⟨by rw [h13]; rfl, c, u, hd1, hc⟩, h1⟩), h2, h3, ?_⟩
            rw [h4, hpn, hd1]
            congr 2
            conv => rhs; rw [spP, if_pos h13, if_pos ht]
            rw [h13]; rfl
          · obtain ⟨M', E', q1, q2, q3, q4, q5, g8, g, h1, h2, h3, h4⟩ := ih (m + 1) (i + 1) (M ++ [(⟨i, p17, p18, p19, p20⟩ : Gapi_Place)]) (E ++ [(⟨f, ((i + 1 - 1 : Nat) : Int), (1 : Nat), f8⟩ : Gplace_ended)]) i (p17 + 1) (u22 ⟨i, 1, b.toNat⟩ p18) (p19 + 1) 0 ((M.length + 1 : Nat) : Int) (i + 1) hd2 hisz (by omega) (by simp; omega) (by simp; omega) (by omega) (by omega) hu3 (by omega) (by omega) (by omega) (by omega) (by omega)
            refine ⟨M', E', q1, q2, q3, q4, q5, g8, g, hst hq (by omega) ⟨by omega, by omega⟩ ⟨by omega, by omega⟩ ⟨by omega, by omega⟩ ⟨by omega, by omega⟩ hlt hs (by omega) ⟨by omega, by omega⟩ (.inr ⟨1, by show 1 ≤ i + 1; omega, .inl ⟨by rw [h13]; rfl, ?_, rfl⟩, h1⟩), h2, h3, ?_⟩
            · show s.data.toList[i + 1]? ≠ some 10
              rw [← hd1, List.head?_eq_getElem?, List.getElem?_drop] at ht
              exact ht
            · rw [h4, hpn, hd1, List.map_append, List.append_assoc]
              congr 1
              conv => rhs; rw [spP, if_pos h13, if_neg ht]
              rw [h13]
              show spE _ :: List.map mkS (spP true (i + 1) (i + 1) t) = mkS (f, i) :: _
              rfl
        · by_cases h10 : b = 10
          · have hw2 : (if pv s.data.toList i then 2 else 1) ≤ i + 1 := by
              split
              · rename_i h; unfold pv at h; rw [Bool.and_eq_true, decide_eq_true_iff] at h; omega
              · omega
            obtain ⟨M', E', q1, q2, q3, q4, q5, g8, g, h1, h2, h3, h4⟩ := ih (m + 1) (i + 1) (M ++ [(⟨i, p17, p18, p19, p20⟩ : Gapi_Place)]) (E ++ [(⟨f, ((i + 1 - (if pv s.data.toList i then 2 else 1) : Nat) : Int), ((if pv s.data.toList i then 2 else 1 : Nat) : Int), f8⟩ : Gplace_ended)]) i (p17 + 1) (u22 ⟨i, 1, b.toNat⟩ p18) (p19 + 1) 0 ((M.length + 1 : Nat) : Int) (i + 1) hd2 hisz (by omega) (by simp; omega) (by simp; omega) (by omega) (by omega) hu3 (by omega) (by omega) (by omega) (by omega) (by omega)
            refine ⟨M', E', q1, q2, q3, q4, q5, g8, g, hst hq (by omega) ⟨by omega, by omega⟩ ⟨by omega, by omega⟩ ⟨by omega, by omega⟩ ⟨by omega, by omega⟩ hlt hs (by omega) ⟨by omega, by omega⟩ (.inr ⟨_, hw2, .inr ⟨by rw [h10]; rfl, rfl⟩, h1⟩), h2, h3, ?_⟩
            rw [h4, hpn, hd1, List.map_append, List.append_assoc]
            congr 1
            conv => rhs; rw [spP, if_neg h13, if_pos h10]
            show spE _ :: List.map mkS (spP (b == 13) (i + 1) (i + 1) t) = mkS (f, _) :: _
            rw [beq_eq_false_iff_ne.2 h13]
            congr 1
            unfold spE mkS
            congr 1
            cases pv s.data.toList i <;> rfl
          · obtain ⟨M', E', q1, q2, q3, q4, q5, g8, g, h1, h2, h3, h4⟩ := ih (m + 1) (i + 1) (M ++ [(⟨i, p17, p18, p19, p20⟩ : Gapi_Place)]) E i (p17 + 1) (u22 ⟨i, 1, b.toNat⟩ p18) p19 (p20 + 1) f8 f hd2 hisz (by omega) (by simp; omega) (by omega) (by omega) (by omega) hu3 (by omega) a5 (by omega) (by omega) (by omega)
            refine ⟨M', E', q1, q2, q3, q4, q5, g8, g, hst hq (by omega) ⟨by omega, by omega⟩ ⟨by omega, by omega⟩ ⟨by omega, by omega⟩ ⟨by omega, by omega⟩ hlt hs (by omega) ⟨by omega, by omega⟩ (.inl ⟨.inl ⟨fun e => h13 (UInt8.toNat.inj e), fun e => h10 (UInt8.toNat.inj e)⟩, h1⟩), h2, h3, ?_⟩
            rw [h4, hpn, hd1, beq_eq_false_iff_ne.2 h13]
            congr 2
            conv => rhs; rw [spP, if_neg h13, if_neg h10]
/-- The lines of a text's map are the text's lines. -/
theorem new_v (s : ByteArray) (hs : s.size ≤ 65536) : ∃ m : Gplace_Map, place_New_v s = some (some m, 0) ∧ m.text = s ∧ m.lines.map spE = (spansOf s.data.toList).map mkS := by
  obtain ⟨M', E', q1, q2, q3, q4, q5, g8, g, h1, h2, h3, h4⟩ := new_loop s (fun (m1 : List Gapi_Place) (m2 : List Gplace_ended) (p1 : Int) (p2 : Int) (p3 : Int) (p4 : Int) (p5 : Int) (line1 : Int) (line2 : Int) =>
    grd (m1.length + 1 ≤ 2147483648) <| grd (m2.length + 1 ≤ 2147483648) <| some ((some (⟨s, m1 ++ [(⟨(s.size : Int), p2, p3, p4, p5⟩ : Gapi_Place)], m2 ++ [(⟨line1, (s.size : Int), 0, line2⟩ : Gplace_ended)]⟩ : Gplace_Map)), 0)) hs fuel 0 0 [] [] 0 0 0 0 0 0 0
    (by rw [List.drop_zero, List.drop_zero]; rfl) (Nat.zero_le _) (by unfold fuel; omega) (Nat.le_refl _) (Nat.le_refl _) (by omega) (by omega) (by omega) (by omega) (by omega) (by omega) (by omega) (by omega)
  refine ⟨⟨s, M' ++ [(⟨(s.size : Int), q2, q3, q4, q5⟩ : Gapi_Place)], E' ++ [(⟨(g : Int), (s.size : Int), 0, g8⟩ : Gplace_ended)]⟩, ?_, rfl, ?_⟩
  · unfold place_New_v
    refine condFI (decide_eq_false (by omega)) (joinI (h1.trans ?_))
    exact grdI (by omega) (grdI (by omega) rfl)
  · show List.map spE (E' ++ [_]) = _
    rw [List.map_append]
    exact h4
theorem new_long (s : ByteArray) (hs : 65536 < s.size) : place_New_v s = some (none, 3) := by
  unfold place_New_v
  exact condTI (decide_eq_true (by omega)) rfl
end Go.Proofs.YtgfkogafkhbgnaaDoor
namespace Go.Proofs.YtgfkogafkhbgnaaDoor
open Go.RowKit Go.Lib
set_option linter.unusedVariables false
set_option linter.unusedSimpArgs false
def internal_stringslite_HasPrefix_v (s1 : ByteArray) (prefix1 : ByteArray) : Option Bool := bcond (decide (((prefix1.size : Int) : Int) ≤ (s1.size : Int))) ( grd (0 ≤ (0 : Int) ∧ (0 : Int) ≤ (prefix1.size : Int) ∧ ((prefix1.size : Int) : Int) ≤ (s1.size : Int)) <| some (decide (cutB s1 0 (prefix1.size : Int) = prefix1))
) ( some false
)
set_option maxRecDepth 100000 in
set_option maxHeartbeats 4000000 in
theorem internal_stringslite_HasPrefix_fn {s1 : ByteArray} {prefix1 : ByteArray} {r : Bool} (h : internal_stringslite_HasPrefix_v s1 prefix1 = some r) : FnP Tryd.prog 58 [.string s1, .string prefix1] (.bool r) := by
 unfold internal_stringslite_HasPrefix_v at h
 refine FnP.intro Tryd.func58 rfl Tryd.ntmps58 (by simp) ?_
 intro w0 K
 refine TC.seq (TC.region (TO.assign rfl dc rfl (TO.nil (TX.next (TC.seq (TC.region (TO.move rfl dc rfl (TO.lenStr rfl dc rfl Tryd.underlying9 (TO.move rfl dc rfl (TO.lenStr rfl dc rfl Tryd.underlying9 (TO.bin rfl dc rfl rfl bin_geq (TO.move rfl dc rfl ?_))))))))))))
 refine TO.split (s := 10) rfl (fun hb1 => ?_) (fun hb1 => ?_)
 ·
  have h := condT hb1 h
  refine TO.move rfl dc rfl (TO.move rfl dc rfl (TO.lenStr rfl dc rfl Tryd.underlying9 ?_))
  obtain ⟨hg1, h⟩ := grdE h
  refine TO.slice rfl dc rfl rfl rfl (slice_stringI (i := 0) (j := (prefix1.size : Int)) Tryd.underlying9 (.inl ⟨rfl, rfl⟩) (.inr rfl) hg1) (TO.move rfl dc rfl (TO.bin rfl dc rfl rfl bin_seql (TO.pick (b := true) rfl dc rfl rfl (TO.assign rfl dc rfl (TO.nil (TX.next (TC.ret ?_)))))))
  cases h
  exact TX.fin (rs := [.tmp 4]) () (.inl rfl) Tryd.results58 (.cons (.tmp rfl) .nil) rfl Splits.nil
 ·
  have h := condF hb1 h
  refine TO.skip rfl dc (TO.skip rfl dc (TO.skip rfl dc (TO.skip rfl dc (TO.skip rfl dc (TO.skip rfl dc (TO.pick (b := false) rfl dc rfl rfl (TO.assign rfl dc rfl (TO.nil (TX.next (TC.ret ?_))))))))))
  cases h
  exact TX.fin (rs := [.tmp 4]) () (.inl rfl) Tryd.results58 (.cons (.tmp rfl) .nil) rfl Splits.nil
def strings_HasPrefix_v (s1 : ByteArray) (prefix1 : ByteArray) : Option Bool := andThen (internal_stringslite_HasPrefix_v s1 prefix1) fun (r1 : Bool) => some r1
set_option maxRecDepth 100000 in
set_option maxHeartbeats 4000000 in
theorem strings_HasPrefix_fn {s1 : ByteArray} {prefix1 : ByteArray} {r : Bool} (h : strings_HasPrefix_v s1 prefix1 = some r) : FnP Tryd.prog 16 [.string s1, .string prefix1] (.bool r) := by
 unfold strings_HasPrefix_v at h
 refine FnP.intro Tryd.func16 rfl Tryd.ntmps16 (by simp) ?_
 intro w0 K
 refine TC.seq (TC.region (TO.assign rfl dc rfl (TO.nil (TX.next (TC.seq (TC.region (TO.move rfl dc rfl (TO.move rfl dc rfl ?_))))))))
 obtain ⟨r1, hq1, h⟩ := andE h
 refine TO.callP (v := .bool r1) (vs := [.string s1, .string prefix1]) rfl dc rfl rfl rfl en_58 (internal_stringslite_HasPrefix_fn hq1) (TO.assign rfl dc rfl (TO.nil (TX.next (TC.ret ?_))))
 cases h
 exact TX.fin (rs := [.tmp 4]) () (.inl rfl) Tryd.results16 (.cons (.tmp rfl) .nil) rfl Splits.nil
def internal_stringslite_TrimPrefix_v (s1 : ByteArray) (prefix1 : ByteArray) : Option ByteArray := andThen (internal_stringslite_HasPrefix_v s1 prefix1) fun (r1 : Bool) => bcond (r1) ( grd (0 ≤ ((prefix1.size : Int) : Int) ∧ ((prefix1.size : Int) : Int) ≤ (s1.size : Int) ∧ ((s1.size : Int) : Int) ≤ (s1.size : Int)) <| some (cutB s1 (prefix1.size : Int) (s1.size : Int))
) ( some s1
)
set_option maxRecDepth 100000 in
set_option maxHeartbeats 4000000 in
theorem internal_stringslite_TrimPrefix_fn {s1 : ByteArray} {prefix1 : ByteArray} {r : ByteArray} (h : internal_stringslite_TrimPrefix_v s1 prefix1 = some r) : FnP Tryd.prog 76 [.string s1, .string prefix1] (.string r) := by
 unfold internal_stringslite_TrimPrefix_v at h
 refine FnP.intro Tryd.func76 rfl Tryd.ntmps76 (by simp) ?_
 intro w0 K
 refine TC.seq (TC.region (TO.assign rfl dc rfl (TO.nil (TX.next (TC.seq (TC.seq (TC.region (TO.move rfl dc rfl (TO.move rfl dc rfl ?_)))))))))
 obtain ⟨r1, hq1, h⟩ := andE h
 refine TO.callP (v := .bool r1) (vs := [.string s1, .string prefix1]) rfl dc rfl rfl rfl en_58 (internal_stringslite_HasPrefix_fn hq1) (TO.nil (TX.next ?_))
 refine TC.condB rfl (fun hb1 => ?_) (fun hb1 => ?_)
 ·
  have h := condT hb1 h
  refine TC.seq (TC.region (TO.move rfl dc rfl (TO.move rfl dc rfl (TO.lenStr rfl dc rfl Tryd.underlying9 ?_))))
  obtain ⟨hg1, h⟩ := grdE h
  refine TO.slice rfl dc rfl rfl rfl (slice_stringI (i := (prefix1.size : Int)) (j := (s1.size : Int)) Tryd.underlying9 (.inr rfl) (.inl ⟨rfl, rfl⟩) hg1) (TO.assign rfl dc rfl (TO.nil (TX.next (TC.ret (TX.thenRet ?_)))))
  cases h
  exact TX.fin (rs := [.tmp 4]) () (.inl rfl) Tryd.results76 (.cons (.tmp rfl) .nil) rfl Splits.nil
 ·
  have h := condF hb1 h
  refine TC.skip (TX.next (TC.seq (TC.region (TO.move rfl dc rfl (TO.assign rfl dc rfl (TO.nil (TX.next (TC.ret ?_))))))))
  cases h
  exact TX.fin (rs := [.tmp 4]) () (.inl rfl) Tryd.results76 (.cons (.tmp rfl) .nil) rfl Splits.nil
def strings_TrimPrefix_v (s1 : ByteArray) (prefix1 : ByteArray) : Option ByteArray := andThen (internal_stringslite_TrimPrefix_v s1 prefix1) fun (r1 : ByteArray) => some r1
set_option maxRecDepth 100000 in
set_option maxHeartbeats 4000000 in
theorem strings_TrimPrefix_fn {s1 : ByteArray} {prefix1 : ByteArray} {r : ByteArray} (h : strings_TrimPrefix_v s1 prefix1 = some r) : FnP Tryd.prog 50 [.string s1, .string prefix1] (.string r) := by
 unfold strings_TrimPrefix_v at h
 refine FnP.intro Tryd.func50 rfl Tryd.ntmps50 (by simp) ?_
 intro w0 K
 refine TC.seq (TC.region (TO.assign rfl dc rfl (TO.nil (TX.next (TC.seq (TC.region (TO.move rfl dc rfl (TO.move rfl dc rfl ?_))))))))
 obtain ⟨r1, hq1, h⟩ := andE h
 refine TO.callP (v := .string r1) (vs := [.string s1, .string prefix1]) rfl dc rfl rfl rfl en_76 (internal_stringslite_TrimPrefix_fn hq1) (TO.assign rfl dc rfl (TO.nil (TX.next (TC.ret ?_))))
 cases h
 exact TX.fin (rs := [.tmp 4]) () (.inl rfl) Tryd.results50 (.cons (.tmp rfl) .nil) rfl Splits.nil
end Go.Proofs.YtgfkogafkhbgnaaDoor
