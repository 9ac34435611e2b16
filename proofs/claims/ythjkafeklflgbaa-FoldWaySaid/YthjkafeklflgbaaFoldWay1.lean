/-
  Texts laid together: Qw, LfSt, LfFt, Qn, Qk, Qo, LfFoldWay, PlFoldWay. Nothing is assumed.
-/
import Derived.Test.YthjkafeklflgbaaFb5
import Derived.Test.YthjkafeklflgbaaFb3
import Derived.Test.YthjkafeklflgbaaFb4
namespace Go.Proofs.Ythjkafeklflgbaa
open Go.RowKit Go.Lib
set_option linter.unusedVariables false
set_option linter.unusedSimpArgs false
set_option maxRecDepth 100000 in
theorem wake1 : foldS ⟨#[83, 116, 114, 97, 195, 159, 101, 204, 129]⟩ = ⟨#[115, 116, 114, 97, 115, 115, 101]⟩ := by decide +kernel
set_option maxRecDepth 100000 in
theorem wake2 : foldS ⟨#[195, 137]⟩ = foldS ⟨#[101]⟩ := by decide +kernel
theorem wakes_v : law04_wakes_v = some true :=
  thenI ((fold_v _ (by decide)).trans (congrArg some wake1)) (condTI (decide_eq_true rfl) (thenI (same_v _ _ (by decide) (by decide)) (congrArg some (decide_eq_true wake2))))
theorem cut_le (s : ByteArray) (n : Nat) : (cutB s 0 (min (s.size : Int) n)).size ≤ n := by
  unfold cutB; rw [ByteArray.size_extract]; omega
theorem cut_le' (s : ByteArray) (n : Nat) : (cutB s 0 (n : Int)).size ≤ n := by
  unfold cutB; rw [ByteArray.size_extract]; omega
end Go.Proofs.Ythjkafeklflgbaa
namespace Go.Proofs.Ythjkafeklflgbaa
open Go.RowKit Go.Lib
set_option linter.unusedVariables false
set_option linter.unusedSimpArgs false
def fold_Trace_s2 (b5 : ByteArray) (j2 : ByteArray → (List Int) → Option (ByteArray × (List Int))) (x4 : Gfold_unit) (r2 : ByteArray) (ag2 : (List Int) → Option (ByteArray × (List Int))) (l8 : List Int) : Option (ByteArray × (List Int)) := bcond (decide (((l8.length : Int) : Int) < ((b5 ++ r2).size : Int))) ( grd (l8.length + 1 ≤ 2147483648) <| ag2 (l8 ++ [x4.at_])
) ( j2 (b5 ++ r2) l8
)
def fold_Trace_s1 (j1 : ByteArray → (List Int) → Option (ByteArray × (List Int))) (r1 : (List Gfold_unit)) (ag1 : ByteArray → (List Int) → Int → Option (ByteArray × (List Int))) (b5 : ByteArray) (l4 : List Int) (x3 : Int) : Option (ByteArray × (List Int)) := bcond (decide ((x3 : Int) < (r1.length : Int))) ( joinK (fun (j2 : ByteArray → (List Int) → Option (ByteArray × (List Int))) => andThen (getO r1 x3) fun (x4 : Gfold_unit) => andThen (fold_written_plain_v ([x4])) fun (r2 : ByteArray) => grd (b5.size + r2.size ≤ 140737488355328) <| loopG (fun _ => none) (fold_Trace_s2 b5 j2 x4 r2) fuel l4
) (fun (b6 : ByteArray) (l5 : List Int) => grd (I64 (x3 + 1)) <| ag1 b6 l5 (x3 + 1)
)
) ( j1 b5 l4
)
def fold_Trace_v (s1 : ByteArray) : Option (ByteArray × (List Int)) := joinK (fun (j1 : ByteArray → (List Int) → Option (ByteArray × (List Int))) => andThen (fold_units_v s1) fun (r1 : (List Gfold_unit)) => loopG (fun _ _ _ => none) (fold_Trace_s1 j1 r1) fuel ByteArray.empty ([] : List Int) 0
) (fun (b1 : ByteArray) (l1 : List Int) => some (b1, l1)
)
set_option maxRecDepth 100000 in
set_option maxHeartbeats 4000000 in
theorem fold_Trace_fn {s1 : ByteArray} {r : (ByteArray × (List Int))} (h : fold_Trace_v s1 = some r) : Fn Try.prog 17 [.string s1] [] (fun v0 : Value => .tuple #[.string r.1, v0]) (fun v0 => [vec (encI (.i64)) 3 1 v0 r.2]) := by
 unfold fold_Trace_v at h
 refine Fn.intro Try.func17 rfl Try.ntmps17 (by simp) ?_
 intro w0 K
 obtain ⟨j1, hj1, h⟩ := joinE h
 refine TC.cutN (β := ByteArray × (List Int) × Value × Hd) 3 rfl (fun b => j1 b.1 b.2.1 = some r) (fun b => []) (fun b => [(4, b.2.2.1), (5, b.2.2.2.v)]) (fun b => [byt 5 b.2.2.1 b.1, vec (encI (.i64)) 3 1 b.2.2.2.v b.2.1]) (fun cut => ?_) ?_
 ·
  refine TC.seq (TC.region (TO.assign rfl dc rfl (TO.assign rfl dc rfl (TO.nil (TX.next (TC.seq (TC.region (TO.assign rfl dc rfl (TO.nil (TX.next (TC.seq (TC.region (TO.assign rfl dc rfl ?_)))))))))))))
  refine TO.nil (TX.next (cut (TC.seq (TC.region (TO.move rfl dc rfl ?_)))))
  obtain ⟨r1, hq1, h⟩ := andE h
  refine TO.call (vs := [.string s1]) rfl dc rfl rfl rfl en_45 (fold_units_fn hq1) Splits.nil ?_
  rintro v2
  show TO _ _ _ _ _ _ _ _ _ _ [vecN encN_Gfold_unit nest_Gfold_unit 73 5 v2 r1]
  refine TO.weakenL (L' := [vecN encN_Gfold_unit nest_Gfold_unit 73 5 v2 r1]) (Splits.of [0] kr rfl) ?_
  refine TO.nameHdN (k := 0) rfl (fun hd2 he1 => ?_)
  subst he1
  refine TO.lenVecN (k := 0) rfl dc rfl rfl Try.underlying70 (TO.move rfl dc rfl (TO.nil (TX.next (TC.block (TC.newByt (e := 5) ?_)))))
  show TC _ _ _ _ _ _ _ _ _ [vecN encN_Gfold_unit nest_Gfold_unit 73 5 hd2.v r1, byt 5 (.slice none 0 0) ByteArray.empty]
  refine TC.newVec (enc := (encI (.i64))) (e := 3) (size := 1) ?_
  show TC _ _ _ _ _ _ _ _ _ [vecN encN_Gfold_unit nest_Gfold_unit 73 5 hd2.v r1, byt 5 (.slice none 0 0) ByteArray.empty, vec (encI (.i64)) 3 1 (.slice none 0 0) ([] : List Int)]
  refine TC.loopD (β := Nat × ByteArray × (List Int) × Int × Value × Hd) (fun b => loopG (fun _ _ _ => none) (fold_Trace_s1 j1 r1) b.1 b.2.1 b.2.2.1 b.2.2.2.1 = some r) (fun b => []) (fun b => [(4, b.2.2.2.2.1), (5, b.2.2.2.2.2.v), (9, hd2.v), (10, .int .i64 (r1.length : Int)), (11, .int .i64 b.2.2.2.1)]) (fun b => [byt 5 b.2.2.2.2.1 b.2.1, vec (encI (.i64)) 3 1 b.2.2.2.2.2.v b.2.2.1, vecN encN_Gfold_unit nest_Gfold_unit 73 5 hd2.v r1]) (fun b => b.1) (fuel, ByteArray.empty, ([] : List Int), 0, (.slice none 0 0), Hd.nil) h rfl (Sbs.cons rfl (Sbs.cons rfl (Sbs.cons rfl (Sbs.cons rfl (Sbs.cons rfl (Sbs.nil)))))) (Splits.of [1, 2, 0] kr rfl) ?_
  rintro ⟨n1, b5, l4, x3, v6, hd5⟩ h
  cases n1 with
  | zero => exact noneE h
  | succ n1 =>
   obtain ⟨ag1, hag1⟩ : ∃ ag, ag = loopG (fun _ _ _ => none) (fold_Trace_s1 j1 r1) n1 := ⟨_, rfl⟩
   have h : fold_Trace_s1 j1 r1 ag1 b5 l4 x3 = some r := by rw [hag1]; exact h
   unfold fold_Trace_s1 at h
   show TC _ _ _ _ _ ([]) _ _ [(4, v6), (5, hd5.v), (9, hd2.v), (10, .int .i64 (r1.length : Int)), (11, .int .i64 x3)] [byt 5 v6 b5, vec (encI (.i64)) 3 1 hd5.v l4, vecN encN_Gfold_unit nest_Gfold_unit 73 5 hd2.v r1]
   refine TC.seq (TC.region (TO.bin rfl dc rfl rfl bin_lss (TO.nil (TX.next (TC.seq ?_)))))
   refine TC.condB rfl (fun hb1 => ?_) (fun hb1 => ?_)
   ·
    have h := condT hb1 h
    refine TC.skip (TX.next ?_)
    obtain ⟨j2, hj2, h⟩ := joinE h
    refine TC.cutN (β := ByteArray × (List Int) × Value × Hd) 0 rfl (fun b => j2 b.1 b.2.1 = some r) (fun b => []) (fun b => [(4, b.2.2.1), (5, b.2.2.2.v), (9, hd2.v), (10, .int .i64 (r1.length : Int)), (11, .int .i64 x3)]) (fun b => [byt 5 b.2.2.1 b.1, vec (encI (.i64)) 3 1 b.2.2.2.v b.2.1, vecN encN_Gfold_unit nest_Gfold_unit 73 5 hd2.v r1]) (fun cut => ?_) ?_
    ·
     refine cut (TC.block (TC.seq (TC.region ?_)))
     refine TO.unfold1 (k := 2) rfl openE (fun zs1 hz1 => ?_)
     show TO _ _ _ _ _ _ _ _ _ _ [byt 5 v6 b5, vec (encI (.i64)) 3 1 hd5.v l4, vec encN_Gfold_unit 73 5 hd2.v zs1, own nest_Gfold_unit zs1]
     obtain ⟨x4, hq2, h⟩ := andE h
     obtain ⟨⟨eh1, eh2⟩, eq1⟩ := getO_z hz1 hq2
     refine TO.indexVecI (k := 2) eq1 Try.underlying70 sz_73 rfl dc rfl rfl rfl rfl (TO.loadsVec (i := (x3 : Int).toNat) (j := 0) (k := 2) (q := (x4, (eh1, eh2))) (cs := [.int .i64 x4.at_, .int .u8 x4.broken, .int .i32 x4.base, eh1.v, eh2.v]) rw_73 encN_Gfold_unit_len rfl dc rfl rfl (getO_get eq1) rfl rfl rfl ?_)
     refine TO.alloc zr_73 rfl dc (fun b7 => ?_)
     refine TO.stores (k := 4) (vs := [.int .i64 x4.at_, .int .u8 x4.broken, .int .i32 x4.base, eh1.v, eh2.v]) (l' := [.int .i64 x4.at_, .int .u8 x4.broken, .int .i32 x4.base, eh1.v, eh2.v]) sz_73 rfl rfl rfl rfl rfl (show _ ≤ _ by simp) rfl rfl ?_
     show TO _ _ _ _ _ _ _ _ _ _ [byt 5 v6 b5, vec (encI (.i64)) 3 1 hd5.v l4, vec encN_Gfold_unit 73 5 hd2.v zs1, own nest_Gfold_unit zs1, cells b7 [.int .i64 x4.at_, .int .u8 x4.broken, .int .i32 x4.base, eh1.v, eh2.v] 73]
     refine TO.nil (TX.next (TC.seq (TC.region (TO.move rfl dc rfl (TO.loads (k := 4) (cs := [.int .i64 x4.at_, .int .u8 x4.broken, .int .i32 x4.base, eh1.v, eh2.v]) rw_73 rfl dc rfl rfl rfl rfl ?_)))))
     refine TO.buildSlice (cs := [.int .i64 x4.at_, .int .u8 x4.broken, .int .i32 x4.base, eh1.v, eh2.v]) (te := 73) (ps := [(0, .tmp 16)]) rfl dc rfl (fun _ => by kernel_rfl) (fun b8 => ?_)
     refine TO.unfold1 (k := 3) rfl (pullE (getO_get eq1)) (fun _ _ => ?_)
     show TO _ _ _ _ _ _ _ _ _ _ [byt 5 v6 b5, vec (encI (.i64)) 3 1 hd5.v l4, vec encN_Gfold_unit 73 5 hd2.v zs1, own nest_Gfold_unit (zs1.eraseIdx ((x3 : Int).toNat)), cells b7 [.int .i64 x4.at_, .int .u8 x4.broken, .int .i32 x4.base, eh1.v, eh2.v] 73, cells b8 [.int .i64 x4.at_, .int .u8 x4.broken, .int .i32 x4.base, eh1.v, eh2.v] 73, vec (encI (.i32)) 21 1 eh1.v x4.low, vec (encI (.i32)) 21 1 eh2.v x4.high]
     refine TO.toVec (enc := encN_Gfold_unit) [(x4, (eh1, eh2))] (k := 5) rfl encN_Gfold_unit_len rfl (show 1 ≤ maxLen by decide) ?_
     show TO _ _ _ _ _ _ _ _ _ _ [byt 5 v6 b5, vec (encI (.i64)) 3 1 hd5.v l4, vec encN_Gfold_unit 73 5 hd2.v zs1, own nest_Gfold_unit (zs1.eraseIdx ((x3 : Int).toNat)), cells b7 [.int .i64 x4.at_, .int .u8 x4.broken, .int .i32 x4.base, eh1.v, eh2.v] 73, vec encN_Gfold_unit 73 5 (.slice (some ⟨b8, 0, none⟩) 1 1) ([(x4, (eh1, eh2))]), vec (encI (.i32)) 21 1 eh1.v x4.low, vec (encI (.i32)) 21 1 eh2.v x4.high]
     refine TO.padE ?_
     show TO _ _ _ _ _ _ _ _ _ _ [byt 5 v6 b5, vec (encI (.i64)) 3 1 hd5.v l4, vec encN_Gfold_unit 73 5 hd2.v zs1, own nest_Gfold_unit (zs1.eraseIdx ((x3 : Int).toNat)), cells b7 [.int .i64 x4.at_, .int .u8 x4.broken, .int .i32 x4.base, eh1.v, eh2.v] 73, vec encN_Gfold_unit 73 5 (.slice (some ⟨b8, 0, none⟩) 1 1) ([(x4, (eh1, eh2))]), vec (encI (.i32)) 21 1 eh1.v x4.low, vec (encI (.i32)) 21 1 eh2.v x4.high, emp]
     refine TO.fold1 (k := 8) rfl (Splits.of [6, 7] kr rfl) rfl (ownOne (nest := nest_Gfold_unit) (z := (x4, (eh1, eh2)))) ?_
     show TO _ _ _ _ _ _ _ _ _ _ [byt 5 v6 b5, vec (encI (.i64)) 3 1 hd5.v l4, vec encN_Gfold_unit 73 5 hd2.v zs1, own nest_Gfold_unit (zs1.eraseIdx ((x3 : Int).toNat)), cells b7 [.int .i64 x4.at_, .int .u8 x4.broken, .int .i32 x4.base, eh1.v, eh2.v] 73, vec encN_Gfold_unit 73 5 (.slice (some ⟨b8, 0, none⟩) 1 1) ([(x4, (eh1, eh2))]), emp, emp, own nest_Gfold_unit ([(x4, (eh1, eh2))])]
     refine TO.vecVw (k := 5) rfl (fun hw1 => ?_)
     obtain ⟨r2, hq3, h⟩ := andE h
     refine TO.callK (v := .string r2) (vs := [.slice (some ⟨b8, 0, none⟩) 1 1, .func (.func 47) #[] #[]]) rfl dc rfl rfl rfl en_46 (fold_written_plain_fn hw1 rfl hq3) [5, 8] kr rfl ?_
     refine TO.unfold1 (k := 8) rfl ownBack (fun _ _ => ?_)
     show TO _ _ _ _ _ _ _ _ _ _ [byt 5 v6 b5, vec (encI (.i64)) 3 1 hd5.v l4, vec encN_Gfold_unit 73 5 hd2.v zs1, own nest_Gfold_unit (zs1.eraseIdx ((x3 : Int).toNat)), cells b7 [.int .i64 x4.at_, .int .u8 x4.broken, .int .i32 x4.base, eh1.v, eh2.v] 73, vec encN_Gfold_unit 73 5 (.slice (some ⟨b8, 0, none⟩) 1 1) ([(x4, (eh1, eh2))]), emp, emp, emp, vec (encI (.i32)) 21 1 eh1.v x4.low, vec (encI (.i32)) 21 1 eh2.v x4.high]
     refine TO.weakenL (L' := [byt 5 v6 b5, vec (encI (.i64)) 3 1 hd5.v l4, vec encN_Gfold_unit 73 5 hd2.v zs1, own nest_Gfold_unit (zs1.eraseIdx ((x3 : Int).toNat)), cells b7 [.int .i64 x4.at_, .int .u8 x4.broken, .int .i32 x4.base, eh1.v, eh2.v] 73, vec encN_Gfold_unit 73 5 (.slice (some ⟨b8, 0, none⟩) 1 1) ([(x4, (eh1, eh2))]), vec (encI (.i32)) 21 1 eh1.v x4.low, vec (encI (.i32)) 21 1 eh2.v x4.high]) (Splits.of [0, 1, 2, 3, 4, 5, 9, 10] kr rfl) ?_
     obtain ⟨hg1, h⟩ := grdE h
     refine TO.appendStr (k := 0) Try.underlying69 Try.underlying9 by_5 rfl dc rfl rfl rfl hg1 (fun v8 => ?_)
     refine TO.assign rfl dc rfl (TO.nil (TX.next (TC.block (TC.fold1 (k := 3) rfl (Splits.of [6, 7] kr rfl) rfl (pushE (nest := nest_Gfold_unit) (getO_get eq1) rfl) ?_))))
     show TC _ _ _ _ _ _ _ _ _ [byt 5 v8 (b5 ++ r2), vec (encI (.i64)) 3 1 hd5.v l4, vec encN_Gfold_unit 73 5 hd2.v zs1, own nest_Gfold_unit zs1, cells b7 [.int .i64 x4.at_, .int .u8 x4.broken, .int .i32 x4.base, eh1.v, eh2.v] 73, vec encN_Gfold_unit 73 5 (.slice (some ⟨b8, 0, none⟩) 1 1) ([(x4, (eh1, eh2))]), emp, emp]
     refine TC.loopD (β := Nat × (List Int) × Hd) (fun b => loopG (fun _ => none) (fold_Trace_s2 b5 j2 x4 r2) b.1 b.2.1 = some r) (fun b => []) (fun b => [(4, v8), (5, b.2.2.v), (7, .pointer (some ⟨b7, 0, none⟩)), (9, hd2.v), (10, .int .i64 (r1.length : Int)), (11, .int .i64 x3)]) (fun b => [byt 5 v8 (b5 ++ r2), vec (encI (.i64)) 3 1 b.2.2.v b.2.1, cells b7 [.int .i64 x4.at_, .int .u8 x4.broken, .int .i32 x4.base, eh1.v, eh2.v] 73, vec encN_Gfold_unit 73 5 hd2.v zs1, own nest_Gfold_unit zs1]) (fun b => b.1) (fuel, l4, hd5) h rfl (Sbs.cons rfl (Sbs.cons rfl (Sbs.cons rfl (Sbs.cons rfl (Sbs.cons rfl (Sbs.cons rfl (Sbs.nil))))))) (Splits.of [0, 1, 4, 2, 3] kr rfl) ?_
     rintro ⟨n2, l8, hd9⟩ h
     cases n2 with
     | zero => exact noneE h
     | succ n2 =>
      obtain ⟨ag2, hag2⟩ : ∃ ag, ag = loopG (fun _ => none) (fold_Trace_s2 b5 j2 x4 r2) n2 := ⟨_, rfl⟩
      have h : fold_Trace_s2 b5 j2 x4 r2 ag2 l8 = some r := by rw [hag2]; exact h
      unfold fold_Trace_s2 at h
      show TC _ _ _ _ _ ([]) _ _ [(4, v8), (5, hd9.v), (7, .pointer (some ⟨b7, 0, none⟩)), (9, hd2.v), (10, .int .i64 (r1.length : Int)), (11, .int .i64 x3)] [byt 5 v8 (b5 ++ r2), vec (encI (.i64)) 3 1 hd9.v l8, cells b7 [.int .i64 x4.at_, .int .u8 x4.broken, .int .i32 x4.base, eh1.v, eh2.v] 73, vec encN_Gfold_unit 73 5 hd2.v zs1, own nest_Gfold_unit zs1]
      refine TC.seq (TC.seq (TC.region (TO.move rfl dc rfl (TO.lenVec (k := 1) rfl dc rfl rfl Try.underlying30 (TO.move rfl dc rfl (TO.lenBy2 (k := 0) rfl dc rfl rfl Try.underlying69 (TO.bin rfl dc rfl rfl bin_lss (TO.nil (TX.next ?_)))))))))
      refine TC.condB rfl (fun hb2 => ?_) (fun hb2 => ?_)
      ·
       have h := condT hb2 h
       refine TC.skip (TX.next (TC.block (TC.region (TO.move rfl dc rfl (TO.fieldAddr fl_73_0 rfl dc rfl (show _ = 0 from rfl) (TO.load (k := 2) sc_3 rfl dc rfl rfl rfl ?_))))))
       refine TO.buildSlice (cs := [.int .i64 x4.at_]) (te := 3) (ps := [(0, .tmp 27)]) rfl dc rfl (fun _ => by kernel_rfl) (fun b9 => ?_)
       obtain ⟨hg2, h⟩ := grdE h
       refine TO.appendVec (k := 1) (k2 := 5) (ys := [x4.at_]) Try.underlying30 el_3 encI_len encI_one rfl dc rfl rfl rfl rfl rfl rfl hg2 (fun v9 => ?_)
       refine TO.nameHd (k := 1) rfl (fun hd10 he2 => ?_)
       subst he2
       show TO _ _ _ _ _ _ _ _ _ _ [byt 5 v8 (b5 ++ r2), vec (encI (.i64)) 3 1 hd10.v (l8 ++ [x4.at_]), cells b7 [.int .i64 x4.at_, .int .u8 x4.broken, .int .i32 x4.base, eh1.v, eh2.v] 73, vec encN_Gfold_unit 73 5 hd2.v zs1, own nest_Gfold_unit zs1, cells b9 [.int .i64 x4.at_] 3]
       refine TO.assign rfl dc rfl (TO.nil (TX.blockNormal ?_))
       subst hag2
       exact TX.againD (n2, l8 ++ [x4.at_], hd10) h (Nat.lt_succ_self _) rfl (Sbs.cons rfl (Sbs.cons rfl (Sbs.cons rfl (Sbs.cons rfl (Sbs.cons rfl (Sbs.cons rfl (Sbs.nil))))))) (Splits.of [0, 1, 2, 3, 4] kr rfl)
      ·
       have h := condF hb2 h
       refine TC.exit (TX.thenExit (TX.thenExit (TX.blockHere (TX.blockNormal (TX.fold1 (k := 3) rfl (Splits.of [4] kr rfl) rfl (closeE (enc := encN_Gfold_unit) (nest := nest_Gfold_unit) hz1) ?_)))))
       show TX _ _ _ _ _ _ _ [byt 5 v8 (b5 ++ r2), vec (encI (.i64)) 3 1 hd9.v l8, cells b7 [.int .i64 x4.at_, .int .u8 x4.broken, .int .i32 x4.base, eh1.v, eh2.v] 73, vecN encN_Gfold_unit nest_Gfold_unit 73 5 hd2.v r1, emp]
       exact TX.meetD (b5 ++ r2, l8, v8, hd9) h rfl (Sbs.cons rfl (Sbs.cons rfl (Sbs.cons rfl (Sbs.cons rfl (Sbs.cons rfl (Sbs.nil)))))) (Splits.of [0, 1, 3] kr rfl)
    ·
     rintro ⟨b6, l5, v7, hd6⟩ h
     rw [hj2] at h
     show TC _ _ _ _ _ ([]) _ _ [(4, v7), (5, hd6.v), (9, hd2.v), (10, .int .i64 (r1.length : Int)), (11, .int .i64 x3)] [byt 5 v7 b6, vec (encI (.i64)) 3 1 hd6.v l5, vecN encN_Gfold_unit nest_Gfold_unit 73 5 hd2.v r1]
     refine TC.region ?_
     obtain ⟨hg3, h⟩ := grdE h
     refine TO.bin rfl dc rfl rfl (bin_add (r := x3 + 1) (IntWalk.i64_in _ hg3)) (TO.move rfl dc rfl (TO.nil ?_))
     subst hag1
     exact TX.againD (n1, b6, l5, x3 + 1, v7, hd6) h (Nat.lt_succ_self _) rfl (Sbs.cons rfl (Sbs.cons rfl (Sbs.cons rfl (Sbs.cons rfl (Sbs.cons rfl (Sbs.nil)))))) (Splits.of [0, 1, 2] kr rfl)
   ·
    have h := condF hb1 h
    refine TC.exit (TX.thenExit (TX.thenExit (TX.blockHere ?_)))
    exact TX.meetD (b5, l4, v6, hd5) h rfl (Sbs.cons rfl (Sbs.cons rfl (Sbs.nil))) (Splits.of [0, 1] kr rfl)
 ·
  rintro ⟨b1, l1, v1, hd1⟩ h
  rw [hj1] at h
  show TC _ _ _ _ _ ([]) _ _ [(4, v1), (5, hd1.v)] [byt 5 v1 b1, vec (encI (.i64)) 3 1 hd1.v l1]
  refine TC.seq (TC.region (TO.move rfl dc rfl (TO.bytStr (k := 0) rfl dc rfl rfl Try.underlying69 Try.underlying5 Try.underlying9 (TO.move rfl dc rfl (TO.assign rfl dc rfl (TO.assign rfl dc rfl (TO.nil (TX.next (TC.ret ?_)))))))))
  cases h
  exact TX.fin (rs := [.tmp 2, .tmp 3]) hd1.v (.inl rfl) Try.results17 (.cons (.tmp rfl) (.cons (.tmp rfl) .nil)) rfl (Splits.of [1] kr rfl)
def fold_Back_v (s1 : ByteArray) (span1 : Gapi_Span) : Option (Gapi_Span × Int) := andThen (fold_Trace_v s1) fun (r1 : (ByteArray × (List Int))) => bcond (decide ((span1.From : Int) < 0)) ( some ((⟨0, 0⟩ : Gapi_Span), 5)
) ( bcond (decide ((span1.To : Int) < span1.From)) ( some ((⟨0, 0⟩ : Gapi_Span), 5)
) ( bcond (decide (((r1.1.size : Int) : Int) < span1.To)) ( some ((⟨0, 0⟩ : Gapi_Span), 5)
) ( grd (r1.2.length + 1 ≤ 2147483648) <| andThen (getO (r1.2 ++ [(s1.size : Int)]) span1.From) fun (q1 : Int) => andThen (getO (r1.2 ++ [(s1.size : Int)]) span1.To) fun (q2 : Int) => some ((⟨q1, q2⟩ : Gapi_Span), 0)
)
)
)
set_option maxRecDepth 100000 in
set_option maxHeartbeats 4000000 in
theorem fold_Back_fn {s1 : ByteArray} {span1 : Gapi_Span} {r : (Gapi_Span × Int)} (h : fold_Back_v s1 span1 = some r) : FnP Try.prog 20 [.string s1, .agg #[.int .i64 span1.From, .int .i64 span1.To]] (.tuple #[.agg #[.int .i64 r.1.From, .int .i64 r.1.To], .int .i64 r.2]) := by
 unfold fold_Back_v at h
 refine FnP.intro Try.func20 rfl Try.ntmps20 (by simp) ?_
 intro w0 K
 refine TC.seq (TC.region ?_)
 refine TO.box rfl dc rfl (fun b1 => ?_)
 refine TO.alloc zr_29 rfl dc (fun b2 => ?_)
 show TO _ _ _ _ _ _ _ _ _ _ [cells b1 [.int .i64 span1.From, .int .i64 span1.To] 29, cells b2 [.int .i64 0, .int .i64 0] 29]
 refine TO.assign rfl dc rfl (TO.nil (TX.next (TC.seq (TC.region (TO.move rfl dc rfl ?_)))))
 obtain ⟨r1, hq1, h⟩ := andE h
 refine TO.call (vs := [.string s1]) rfl dc rfl rfl rfl en_17 (fold_Trace_fn hq1) Splits.nil ?_
 rintro v1
 show TO _ _ _ _ _ _ _ _ _ _ [cells b1 [.int .i64 span1.From, .int .i64 span1.To] 29, cells b2 [.int .i64 0, .int .i64 0] 29, vec (encI (.i64)) 3 1 v1 r1.2]
 refine TO.move rfl dc rfl (TO.extract rfl dc rfl rfl (TO.extract rfl dc rfl rfl (TO.assign rfl dc rfl (TO.assign rfl dc rfl (TO.nil (TX.next (TC.seq (TC.seq (TC.region (TO.fieldAddr fl_29_0 rfl dc rfl (show _ = 0 from rfl) (TO.load (k := 0) sc_3 rfl dc rfl rfl rfl (TO.bin rfl dc rfl rfl bin_lss (TO.move rfl dc rfl ?_)))))))))))))
 refine TO.split (s := 16) rfl (fun hb1 => ?_) (fun hb1 => ?_)
 ·
  have h := condT hb1 h
  refine TO.skip rfl dc (TO.skip rfl dc (TO.skip rfl dc (TO.skip rfl dc (TO.skip rfl dc (TO.pick (b := true) rfl dc rfl rfl (TO.move rfl dc rfl (TO.skip rfl dc (TO.skip rfl dc (TO.skip rfl dc (TO.skip rfl dc (TO.skip rfl dc (TO.pick (b := true) rfl dc rfl rfl (TO.nil ?_)))))))))))))
  refine TX.next (TC.condT rfl (TC.seq (TC.region ?_)))
  refine TO.build (v := .agg #[.int .i64 0, .int .i64 0]) (ps := []) rfl dc rfl (fun _ => by kernel_rfl) ?_
  refine TO.stores (k := 1) (vs := [.int .i64 0, .int .i64 0]) (l' := [.int .i64 0, .int .i64 0]) sz_29 rfl rfl rfl rfl rfl (show _ ≤ _ by simp) rfl rfl (TO.assign rfl dc rfl (TO.nil (TX.next (TC.ret (TX.thenRet ?_)))))
  cases h
  exact TX.fin (rs := [.cell 4 29, .tmp 5]) () (.inl rfl) Try.results20 (.cons (.cells rw_29 (k := 1) rfl rfl rfl) (.cons (.tmp rfl) .nil)) rfl Splits.nil
 ·
  have h := condF hb1 h
  refine TO.fieldAddr fl_29_0 rfl dc rfl (show _ = 0 from rfl) (TO.load (k := 0) sc_3 rfl dc rfl rfl rfl (TO.fieldAddr fl_29_1 rfl dc rfl (show _ = 1 from rfl) (TO.load (k := 0) sc_3 rfl dc rfl rfl rfl (TO.bin rfl dc rfl rfl bin_gtr (TO.pick (b := false) rfl dc rfl rfl (TO.move rfl dc rfl ?_))))))
  refine TO.split (s := 23) rfl (fun hb2 => ?_) (fun hb2 => ?_)
  ·
   have h := condT hb2 h
   refine TO.skip rfl dc (TO.skip rfl dc (TO.skip rfl dc (TO.skip rfl dc (TO.skip rfl dc (TO.pick (b := true) rfl dc rfl rfl (TO.nil (TX.next (TC.condT rfl (TC.seq (TC.region ?_))))))))))
   refine TO.build (v := .agg #[.int .i64 0, .int .i64 0]) (ps := []) rfl dc rfl (fun _ => by kernel_rfl) ?_
   refine TO.stores (k := 1) (vs := [.int .i64 0, .int .i64 0]) (l' := [.int .i64 0, .int .i64 0]) sz_29 rfl rfl rfl rfl rfl (show _ ≤ _ by simp) rfl rfl (TO.assign rfl dc rfl (TO.nil (TX.next (TC.ret (TX.thenRet ?_)))))
   cases h
   exact TX.fin (rs := [.cell 4 29, .tmp 5]) () (.inl rfl) Try.results20 (.cons (.cells rw_29 (k := 1) rfl rfl rfl) (.cons (.tmp rfl) .nil)) rfl Splits.nil
  ·
   have h := condF hb2 h
   refine TO.fieldAddr fl_29_1 rfl dc rfl (show _ = 1 from rfl) (TO.load (k := 0) sc_3 rfl dc rfl rfl rfl (TO.move rfl dc rfl (TO.lenStr rfl dc rfl Try.underlying9 (TO.bin rfl dc rfl rfl bin_gtr (TO.pick (b := false) rfl dc rfl rfl (TO.nil (TX.next ?_)))))))
   refine TC.condB rfl (fun hb3 => ?_) (fun hb3 => ?_)
   ·
    have h := condT hb3 h
    refine TC.seq (TC.region ?_)
    refine TO.build (v := .agg #[.int .i64 0, .int .i64 0]) (ps := []) rfl dc rfl (fun _ => by kernel_rfl) ?_
    refine TO.stores (k := 1) (vs := [.int .i64 0, .int .i64 0]) (l' := [.int .i64 0, .int .i64 0]) sz_29 rfl rfl rfl rfl rfl (show _ ≤ _ by simp) rfl rfl (TO.assign rfl dc rfl (TO.nil (TX.next (TC.ret (TX.thenRet ?_)))))
    cases h
    exact TX.fin (rs := [.cell 4 29, .tmp 5]) () (.inl rfl) Try.results20 (.cons (.cells rw_29 (k := 1) rfl rfl rfl) (.cons (.tmp rfl) .nil)) rfl Splits.nil
   ·
    have h := condF hb3 h
    refine TC.skip (TX.next (TC.seq (TC.region (TO.move rfl dc rfl (TO.move rfl dc rfl (TO.lenStr rfl dc rfl Try.underlying9 ?_))))))
    refine TO.buildSlice (cs := [.int .i64 (s1.size : Int)]) (te := 3) (ps := [(0, .tmp 33)]) rfl dc rfl (fun _ => by kernel_rfl) (fun b3 => ?_)
    obtain ⟨hg1, h⟩ := grdE h
    refine TO.appendVec (k := 2) (k2 := 3) (ys := [(s1.size : Int)]) Try.underlying30 el_3 encI_len encI_one rfl dc rfl rfl rfl rfl rfl rfl hg1 (fun v2 => ?_)
    show TO _ _ _ _ _ _ _ _ _ _ [cells b1 [.int .i64 span1.From, .int .i64 span1.To] 29, cells b2 [.int .i64 0, .int .i64 0] 29, vec (encI (.i64)) 3 1 v2 (r1.2 ++ [(s1.size : Int)]), cells b3 [.int .i64 (s1.size : Int)] 3]
    refine TO.assign rfl dc rfl (TO.nil (TX.next (TC.seq ?_)))
    obtain ⟨q1, hq2, h⟩ := andE h
    obtain ⟨q2, hq3, h⟩ := andE h
    refine TC.drawN 10 [(0, 36, v2), (1, 37, .pointer (some ⟨b1, 0, none⟩)), (2, 38, .int .i64 span1.From), (3, 39, .pointer (some ⟨vblk v2, (span1.From : Int).toNat * 1, none⟩)), (4, 40, .int .i64 q1), (5, 41, v2), (6, 42, .pointer (some ⟨b1, 1, none⟩)), (7, 43, .int .i64 span1.To), (8, 44, .pointer (some ⟨vblk v2, (span1.To : Int).toNat * 1, none⟩)), (9, 45, .int .i64 q2)] mixed kr kr dc (by rfl) kr kr (DrawPre.cons ?_ (DrawPre.cons ?_ (DrawPre.cons ?_ (DrawPre.cons ?_ (DrawPre.cons ?_ (DrawPre.cons ?_ (DrawPre.cons ?_ (DrawPre.cons ?_ (DrawPre.cons ?_ (DrawPre.cons ?_ DrawPre.nil)))))))))) ?_
    ·
     intro D hn hd hcl hu hi
     refine TO.move rfl dc (dl_old (by rfl) rfl) ?_
     exact TX.quiet 0 hu hi rfl
    ·
     intro D hn hd hcl hu hi
     refine TO.fieldAddr fl_29_0 rfl dc (dl_old (by rfl) rfl) (show _ = 0 from rfl) ?_
     exact TX.quiet 1 hu hi rfl
    ·
     intro D hn hd hcl hu hi
     refine TO.load (k := 0) sc_3 rfl dc (dl_lookup (m := 1) hu rfl (hd 1 dc)) rfl rfl ?_
     exact TX.quiet 2 hu hi rfl
    ·
     intro D hn hd hcl hu hi
     refine TO.indexVecI (k := 2) hq2 Try.underlying30 sz_3 rfl dc (dl_lookup (m := 0) hu rfl (hd 0 dc)) (dl_lookup (m := 2) hu rfl (hd 2 dc)) rfl rfl ?_
     exact TX.quiet 3 hu hi rfl
    ·
     intro D hn hd hcl hu hi
     refine TO.loadVec (i := (span1.From : Int).toNat) (j := 0) (k := 2) (q := q1) sc_3 encI_len rfl dc (dl_lookup (m := 3) hu rfl (hd 3 dc)) rfl (getO_get hq2) rfl dc rfl ?_
     exact TX.quiet 4 hu hi rfl
    ·
     intro D hn hd hcl hu hi
     refine TO.move rfl dc (dl_old (by rfl) rfl) ?_
     exact TX.quiet 5 hu hi rfl
    ·
     intro D hn hd hcl hu hi
     refine TO.fieldAddr fl_29_1 rfl dc (dl_old (by rfl) rfl) (show _ = 1 from rfl) ?_
     exact TX.quiet 6 hu hi rfl
    ·
     intro D hn hd hcl hu hi
     refine TO.load (k := 0) sc_3 rfl dc (dl_lookup (m := 6) hu rfl (hd 6 dc)) rfl rfl ?_
     exact TX.quiet 7 hu hi rfl
    ·
     intro D hn hd hcl hu hi
     refine TO.indexVecI (k := 2) hq3 Try.underlying30 sz_3 rfl dc (dl_lookup (m := 5) hu rfl (hd 5 dc)) (dl_lookup (m := 7) hu rfl (hd 7 dc)) rfl rfl ?_
     exact TX.quiet 8 hu hi rfl
    ·
     intro D hn hd hcl hu hi
     refine TO.loadVec (i := (span1.To : Int).toNat) (j := 0) (k := 2) (q := q2) sc_3 encI_len rfl dc (dl_lookup (m := 8) hu rfl (hd 8 dc)) rfl (getO_get hq3) rfl dc rfl ?_
     exact TX.quiet 9 hu hi rfl
    refine TO.build (v := .agg #[.int .i64 q1, .int .i64 q2]) (ps := [(0, .tmp 40), (1, .tmp 45)]) rfl dc rfl (fun _ => by kernel_rfl) ?_
    refine TO.stores (k := 1) (vs := [.int .i64 q1, .int .i64 q2]) (l' := [.int .i64 q1, .int .i64 q2]) sz_29 rfl rfl rfl rfl rfl (show _ ≤ _ by simp) rfl rfl (TO.assign rfl dc rfl (TO.nil (TX.next (TC.ret ?_))))
    cases h
    exact TX.fin (rs := [.cell 4 29, .tmp 5]) () (.inl rfl) Try.results20 (.cons (.cells rw_29 (k := 1) rfl rfl rfl) (.cons (.tmp rfl) .nil)) rfl Splits.nil
end Go.Proofs.Ythjkafeklflgbaa
namespace Go.Proofs.Ythjkafeklflgbaa
open Go.RowKit Go.Lib
set_option linter.unusedVariables false
set_option linter.unusedSimpArgs false
def ref04_Trace_s2 (j2 : (List Int) → Option (List Int)) (q1 : Gref04_Item) (ag2 : (List Int) → Int → Option (List Int)) (out8 : List Int) (x6 : Int) : Option (List Int) := bcond (decide ((x6 : Int) < (q1.Text.size : Int))) ( grd (out8.length + 1 ≤ 2147483648) <| grd (I64 (x6 + 1)) <| ag2 (out8 ++ [q1.At]) (x6 + 1)
) ( j2 out8
)
def ref04_Trace_s1 (j1 : (List Int) → Option (List Int)) (r1 : (List Gref04_Item)) (ag1 : (List Int) → Int → Option (List Int)) (out4 : List Int) (x3 : Int) : Option (List Int) := bcond (decide ((x3 : Int) < (r1.length : Int))) ( joinK (fun (j2 : (List Int) → Option (List Int)) => andThen (getO r1 x3) fun (q1 : Gref04_Item) => loopG (fun _ _ => none) (ref04_Trace_s2 j2 q1) fuel out4 0
) (fun (out5 : List Int) => grd (I64 (x3 + 1)) <| ag1 out5 (x3 + 1)
)
) ( j1 out4
)
def ref04_Trace_v (s1 : ByteArray) : Option (List Int) := joinK (fun (j1 : (List Int) → Option (List Int)) => andThen (ref04_Folded_v s1) fun (r1 : (List Gref04_Item)) => loopG (fun _ _ => none) (ref04_Trace_s1 j1 r1) fuel ([] : List Int) 0
) (fun (out1 : List Int) => some out1
)
set_option maxRecDepth 100000 in
set_option maxHeartbeats 4000000 in
theorem ref04_Trace_fn {s1 : ByteArray} {r : (List Int)} (h : ref04_Trace_v s1 = some r) : Fn Try.prog 16 [.string s1] [] (fun v0 : Value => v0) (fun v0 => [vec (encI (.i64)) 3 1 v0 r]) := by
 unfold ref04_Trace_v at h
 refine Fn.intro Try.func16 rfl Try.ntmps16 (by simp) ?_
 intro w0 K
 obtain ⟨j1, hj1, h⟩ := joinE h
 refine TC.cutN (β := (List Int) × Value) 2 rfl (fun b => j1 b.1 = some r) (fun b => []) (fun b => [(3, b.2)]) (fun b => [vec (encI (.i64)) 3 1 b.2 b.1]) (fun cut => ?_) ?_
 ·
  refine TC.seq (TC.region (TO.assign rfl dc rfl (TO.nil (TX.next (TC.seq (TC.region (TO.assign rfl dc rfl (TO.nil (TX.next (cut (TC.seq (TC.region (TO.move rfl dc rfl ?_)))))))))))))
  obtain ⟨r1, hq1, h⟩ := andE h
  refine TO.call (vs := [.string s1]) rfl dc rfl rfl rfl en_42 (ref04_Folded_fn hq1) Splits.nil ?_
  rintro v2
  show TO _ _ _ _ _ _ _ _ _ _ [vec enc_Gref04_Item 68 3 v2 r1]
  refine TO.lenVec (k := 0) rfl dc rfl rfl Try.underlying60 (TO.move rfl dc rfl (TO.nil (TX.next (TC.block (TC.newVec (enc := (encI (.i64))) (e := 3) (size := 1) ?_)))))
  show TC _ _ _ _ _ _ _ _ _ [vec enc_Gref04_Item 68 3 v2 r1, vec (encI (.i64)) 3 1 (.slice none 0 0) ([] : List Int)]
  refine TC.loopD (β := Nat × (List Int) × Int × Value) (fun b => loopG (fun _ _ => none) (ref04_Trace_s1 j1 r1) b.1 b.2.1 b.2.2.1 = some r) (fun b => []) (fun b => [(3, b.2.2.2), (7, v2), (8, .int .i64 (r1.length : Int)), (9, .int .i64 b.2.2.1)]) (fun b => [vec (encI (.i64)) 3 1 b.2.2.2 b.2.1, vec enc_Gref04_Item 68 3 v2 r1]) (fun b => b.1) (fuel, ([] : List Int), 0, (.slice none 0 0)) h rfl (Sbs.cons rfl (Sbs.cons rfl (Sbs.cons rfl (Sbs.cons rfl (Sbs.nil))))) (Splits.of [1, 0] kr rfl) ?_
  rintro ⟨n1, out4, x3, v5⟩ h
  cases n1 with
  | zero => exact noneE h
  | succ n1 =>
   obtain ⟨ag1, hag1⟩ : ∃ ag, ag = loopG (fun _ _ => none) (ref04_Trace_s1 j1 r1) n1 := ⟨_, rfl⟩
   have h : ref04_Trace_s1 j1 r1 ag1 out4 x3 = some r := by rw [hag1]; exact h
   unfold ref04_Trace_s1 at h
   show TC _ _ _ _ _ ([]) _ _ [(3, v5), (7, v2), (8, .int .i64 (r1.length : Int)), (9, .int .i64 x3)] [vec (encI (.i64)) 3 1 v5 out4, vec enc_Gref04_Item 68 3 v2 r1]
   refine TC.seq (TC.region (TO.bin rfl dc rfl rfl bin_lss (TO.nil (TX.next (TC.seq ?_)))))
   refine TC.condB rfl (fun hb1 => ?_) (fun hb1 => ?_)
   ·
    have h := condT hb1 h
    refine TC.skip (TX.next ?_)
    obtain ⟨j2, hj2, h⟩ := joinE h
    refine TC.cutN (β := (List Int) × Value) 0 rfl (fun b => j2 b.1 = some r) (fun b => []) (fun b => [(3, b.2), (7, v2), (8, .int .i64 (r1.length : Int)), (9, .int .i64 x3)]) (fun b => [vec (encI (.i64)) 3 1 b.2 b.1, vec enc_Gref04_Item 68 3 v2 r1]) (fun cut => ?_) ?_
    ·
     refine cut (TC.block (TC.seq (TC.region ?_)))
     obtain ⟨q1, hq2, h⟩ := andE h
     refine TO.indexVecI (k := 1) hq2 Try.underlying60 sz_68 rfl dc rfl rfl rfl rfl (TO.loadsVec (i := (x3 : Int).toNat) (j := 0) (k := 1) (q := q1) (cs := [.int .i32 q1.Rune, .string q1.Text, .int .i64 q1.At]) rw_68 enc_Gref04_Item_len rfl dc rfl rfl (getO_get hq2) rfl rfl rfl ?_)
     refine TO.alloc zr_68 rfl dc (fun b1 => ?_)
     refine TO.stores (k := 2) (vs := [.int .i32 q1.Rune, .string q1.Text, .int .i64 q1.At]) (l' := [.int .i32 q1.Rune, .string q1.Text, .int .i64 q1.At]) sz_68 rfl rfl rfl rfl rfl (show _ ≤ _ by simp) rfl rfl ?_
     show TO _ _ _ _ _ _ _ _ _ _ [vec (encI (.i64)) 3 1 v5 out4, vec enc_Gref04_Item 68 3 v2 r1, cells b1 [.int .i32 q1.Rune, .string q1.Text, .int .i64 q1.At] 68]
     refine TO.nil (TX.next (TC.seq (TC.region (TO.fieldAddr fl_68_1 rfl dc rfl (show _ = 1 from rfl) (TO.load (k := 2) sc_9 rfl dc rfl rfl rfl (TO.lenStr rfl dc rfl Try.underlying9 (TO.move rfl dc rfl (TO.nil (TX.next (TC.block ?_))))))))))
     refine TC.loopD (β := Nat × (List Int) × Int × Value) (fun b => loopG (fun _ _ => none) (ref04_Trace_s2 j2 q1) b.1 b.2.1 b.2.2.1 = some r) (fun b => []) (fun b => [(3, b.2.2.2), (5, .pointer (some ⟨b1, 0, none⟩)), (7, v2), (8, .int .i64 (r1.length : Int)), (9, .int .i64 x3), (15, .int .i64 (q1.Text.size : Int)), (16, .int .i64 b.2.2.1)]) (fun b => [vec (encI (.i64)) 3 1 b.2.2.2 b.2.1, cells b1 [.int .i32 q1.Rune, .string q1.Text, .int .i64 q1.At] 68, vec enc_Gref04_Item 68 3 v2 r1]) (fun b => b.1) (fuel, out4, 0, v5) h rfl (Sbs.cons rfl (Sbs.cons rfl (Sbs.cons rfl (Sbs.cons rfl (Sbs.cons rfl (Sbs.cons rfl (Sbs.cons rfl (Sbs.nil)))))))) (Splits.of [0, 2, 1] kr rfl) ?_
     rintro ⟨n2, out8, x6, v9⟩ h
     cases n2 with
     | zero => exact noneE h
     | succ n2 =>
      obtain ⟨ag2, hag2⟩ : ∃ ag, ag = loopG (fun _ _ => none) (ref04_Trace_s2 j2 q1) n2 := ⟨_, rfl⟩
      have h : ref04_Trace_s2 j2 q1 ag2 out8 x6 = some r := by rw [hag2]; exact h
      unfold ref04_Trace_s2 at h
      show TC _ _ _ _ _ ([]) _ _ [(3, v9), (5, .pointer (some ⟨b1, 0, none⟩)), (7, v2), (8, .int .i64 (r1.length : Int)), (9, .int .i64 x3), (15, .int .i64 (q1.Text.size : Int)), (16, .int .i64 x6)] [vec (encI (.i64)) 3 1 v9 out8, cells b1 [.int .i32 q1.Rune, .string q1.Text, .int .i64 q1.At] 68, vec enc_Gref04_Item 68 3 v2 r1]
      refine TC.seq (TC.region (TO.bin rfl dc rfl rfl bin_lss (TO.nil (TX.next (TC.seq ?_)))))
      refine TC.condB rfl (fun hb2 => ?_) (fun hb2 => ?_)
      ·
       have h := condT hb2 h
       refine TC.skip (TX.next (TC.seq (TC.block (TC.region (TO.move rfl dc rfl (TO.fieldAddr fl_68_2 rfl dc rfl (show _ = 2 from rfl) (TO.load (k := 1) sc_3 rfl dc rfl rfl rfl ?_)))))))
       refine TO.buildSlice (cs := [.int .i64 q1.At]) (te := 3) (ps := [(0, .tmp 20)]) rfl dc rfl (fun _ => by kernel_rfl) (fun b2 => ?_)
       obtain ⟨hg1, h⟩ := grdE h
       refine TO.appendVec (k := 0) (k2 := 3) (ys := [q1.At]) Try.underlying30 el_3 encI_len encI_one rfl dc rfl rfl rfl rfl rfl rfl hg1 (fun v10 => ?_)
       show TO _ _ _ _ _ _ _ _ _ _ [vec (encI (.i64)) 3 1 v10 (out8 ++ [q1.At]), cells b1 [.int .i32 q1.Rune, .string q1.Text, .int .i64 q1.At] 68, vec enc_Gref04_Item 68 3 v2 r1, cells b2 [.int .i64 q1.At] 3]
       refine TO.assign rfl dc rfl (TO.nil (TX.blockNormal (TX.next (TC.region ?_))))
       obtain ⟨hg2, h⟩ := grdE h
       refine TO.bin rfl dc rfl rfl (bin_add (r := x6 + 1) (IntWalk.i64_in _ hg2)) (TO.move rfl dc rfl (TO.nil ?_))
       subst hag2
       exact TX.againD (n2, out8 ++ [q1.At], x6 + 1, v10) h (Nat.lt_succ_self _) rfl (Sbs.cons rfl (Sbs.cons rfl (Sbs.cons rfl (Sbs.cons rfl (Sbs.cons rfl (Sbs.cons rfl (Sbs.cons rfl (Sbs.nil)))))))) (Splits.of [0, 1, 2] kr rfl)
      ·
       have h := condF hb2 h
       refine TC.exit (TX.thenExit (TX.thenExit (TX.blockHere (TX.blockNormal ?_))))
       exact TX.meetD (out8, v9) h rfl (Sbs.cons rfl (Sbs.cons rfl (Sbs.cons rfl (Sbs.cons rfl (Sbs.nil))))) (Splits.of [0, 2] kr rfl)
    ·
     rintro ⟨out5, v6⟩ h
     rw [hj2] at h
     show TC _ _ _ _ _ ([]) _ _ [(3, v6), (7, v2), (8, .int .i64 (r1.length : Int)), (9, .int .i64 x3)] [vec (encI (.i64)) 3 1 v6 out5, vec enc_Gref04_Item 68 3 v2 r1]
     refine TC.region ?_
     obtain ⟨hg3, h⟩ := grdE h
     refine TO.bin rfl dc rfl rfl (bin_add (r := x3 + 1) (IntWalk.i64_in _ hg3)) (TO.move rfl dc rfl (TO.nil ?_))
     subst hag1
     exact TX.againD (n1, out5, x3 + 1, v6) h (Nat.lt_succ_self _) rfl (Sbs.cons rfl (Sbs.cons rfl (Sbs.cons rfl (Sbs.cons rfl (Sbs.nil))))) (Splits.of [0, 1] kr rfl)
   ·
    have h := condF hb1 h
    refine TC.exit (TX.thenExit (TX.thenExit (TX.blockHere ?_)))
    exact TX.meetD (out4, v5) h rfl (Sbs.cons rfl (Sbs.nil)) (Splits.of [0] kr rfl)
 ·
  rintro ⟨out1, v1⟩ h
  rw [hj1] at h
  show TC _ _ _ _ _ ([]) _ _ [(3, v1)] [vec (encI (.i64)) 3 1 v1 out1]
  refine TC.seq (TC.region (TO.move rfl dc rfl (TO.assign rfl dc rfl (TO.nil (TX.next (TC.ret ?_))))))
  cases h
  exact TX.fin (rs := [.tmp 2]) v1 (.inl rfl) Try.results16 (.cons (.tmp rfl) .nil) rfl (Splits.of [0] kr rfl)
def ref04_Back_v (s1 : ByteArray) (span1 : Gapi_Span) : Option (Gapi_Span × Bool) := andThen (ref04_Trace_v s1) fun (r1 : (List Int)) => grd (r1.length + 1 ≤ 2147483648) <| bcond (decide ((span1.From : Int) < 0)) ( some ((⟨0, 0⟩ : Gapi_Span), false)
) ( bcond (decide ((span1.To : Int) < span1.From)) ( some ((⟨0, 0⟩ : Gapi_Span), false)
) ( bcond (decide ((((r1 ++ [(s1.size : Int)]).length : Int) : Int) ≤ span1.To)) ( some ((⟨0, 0⟩ : Gapi_Span), false)
) ( andThen (getO (r1 ++ [(s1.size : Int)]) span1.From) fun (q1 : Int) => andThen (getO (r1 ++ [(s1.size : Int)]) span1.To) fun (q2 : Int) => some ((⟨q1, q2⟩ : Gapi_Span), true)
)
)
)
set_option maxRecDepth 100000 in
set_option maxHeartbeats 4000000 in
theorem ref04_Back_fn {s1 : ByteArray} {span1 : Gapi_Span} {r : (Gapi_Span × Bool)} (h : ref04_Back_v s1 span1 = some r) : FnP Try.prog 19 [.string s1, .agg #[.int .i64 span1.From, .int .i64 span1.To]] (.tuple #[.agg #[.int .i64 r.1.From, .int .i64 r.1.To], .bool r.2]) := by
 unfold ref04_Back_v at h
 refine FnP.intro Try.func19 rfl Try.ntmps19 (by simp) ?_
 intro w0 K
 refine TC.seq (TC.region ?_)
 refine TO.box rfl dc rfl (fun b1 => ?_)
 refine TO.alloc zr_29 rfl dc (fun b2 => ?_)
 show TO _ _ _ _ _ _ _ _ _ _ [cells b1 [.int .i64 span1.From, .int .i64 span1.To] 29, cells b2 [.int .i64 0, .int .i64 0] 29]
 refine TO.assign rfl dc rfl (TO.nil (TX.next (TC.seq (TC.region (TO.move rfl dc rfl ?_)))))
 obtain ⟨r1, hq1, h⟩ := andE h
 refine TO.call (vs := [.string s1]) rfl dc rfl rfl rfl en_16 (ref04_Trace_fn hq1) Splits.nil ?_
 rintro v1
 show TO _ _ _ _ _ _ _ _ _ _ [cells b1 [.int .i64 span1.From, .int .i64 span1.To] 29, cells b2 [.int .i64 0, .int .i64 0] 29, vec (encI (.i64)) 3 1 v1 r1]
 refine TO.move rfl dc rfl (TO.lenStr rfl dc rfl Try.underlying9 ?_)
 refine TO.buildSlice (cs := [.int .i64 (s1.size : Int)]) (te := 3) (ps := [(0, .tmp 10)]) rfl dc rfl (fun _ => by kernel_rfl) (fun b3 => ?_)
 obtain ⟨hg1, h⟩ := grdE h
 refine TO.appendVec (k := 2) (k2 := 3) (ys := [(s1.size : Int)]) Try.underlying30 el_3 encI_len encI_one rfl dc rfl rfl rfl rfl rfl rfl hg1 (fun v2 => ?_)
 show TO _ _ _ _ _ _ _ _ _ _ [cells b1 [.int .i64 span1.From, .int .i64 span1.To] 29, cells b2 [.int .i64 0, .int .i64 0] 29, vec (encI (.i64)) 3 1 v2 (r1 ++ [(s1.size : Int)]), cells b3 [.int .i64 (s1.size : Int)] 3]
 refine TO.assign rfl dc rfl (TO.nil (TX.next (TC.seq (TC.seq (TC.region (TO.fieldAddr fl_29_0 rfl dc rfl (show _ = 0 from rfl) (TO.load (k := 0) sc_3 rfl dc rfl rfl rfl (TO.bin rfl dc rfl rfl bin_lss (TO.move rfl dc rfl ?_)))))))))
 refine TO.split (s := 16) rfl (fun hb1 => ?_) (fun hb1 => ?_)
 ·
  have h := condT hb1 h
  refine TO.skip rfl dc (TO.skip rfl dc (TO.skip rfl dc (TO.skip rfl dc (TO.skip rfl dc (TO.pick (b := true) rfl dc rfl rfl (TO.move rfl dc rfl (TO.skip rfl dc (TO.skip rfl dc (TO.skip rfl dc (TO.skip rfl dc (TO.skip rfl dc (TO.pick (b := true) rfl dc rfl rfl (TO.nil ?_)))))))))))))
  refine TX.next (TC.condT rfl (TC.seq (TC.region ?_)))
  refine TO.build (v := .agg #[.int .i64 0, .int .i64 0]) (ps := []) rfl dc rfl (fun _ => by kernel_rfl) ?_
  refine TO.stores (k := 1) (vs := [.int .i64 0, .int .i64 0]) (l' := [.int .i64 0, .int .i64 0]) sz_29 rfl rfl rfl rfl rfl (show _ ≤ _ by simp) rfl rfl (TO.assign rfl dc rfl (TO.nil (TX.next (TC.ret (TX.thenRet ?_)))))
  cases h
  exact TX.fin (rs := [.cell 4 29, .tmp 5]) () (.inl rfl) Try.results19 (.cons (.cells rw_29 (k := 1) rfl rfl rfl) (.cons (.tmp rfl) .nil)) rfl Splits.nil
 ·
  have h := condF hb1 h
  refine TO.fieldAddr fl_29_0 rfl dc rfl (show _ = 0 from rfl) (TO.load (k := 0) sc_3 rfl dc rfl rfl rfl (TO.fieldAddr fl_29_1 rfl dc rfl (show _ = 1 from rfl) (TO.load (k := 0) sc_3 rfl dc rfl rfl rfl (TO.bin rfl dc rfl rfl bin_gtr (TO.pick (b := false) rfl dc rfl rfl (TO.move rfl dc rfl ?_))))))
  refine TO.split (s := 23) rfl (fun hb2 => ?_) (fun hb2 => ?_)
  ·
   have h := condT hb2 h
   refine TO.skip rfl dc (TO.skip rfl dc (TO.skip rfl dc (TO.skip rfl dc (TO.skip rfl dc (TO.pick (b := true) rfl dc rfl rfl (TO.nil (TX.next (TC.condT rfl (TC.seq (TC.region ?_))))))))))
   refine TO.build (v := .agg #[.int .i64 0, .int .i64 0]) (ps := []) rfl dc rfl (fun _ => by kernel_rfl) ?_
   refine TO.stores (k := 1) (vs := [.int .i64 0, .int .i64 0]) (l' := [.int .i64 0, .int .i64 0]) sz_29 rfl rfl rfl rfl rfl (show _ ≤ _ by simp) rfl rfl (TO.assign rfl dc rfl (TO.nil (TX.next (TC.ret (TX.thenRet ?_)))))
   cases h
   exact TX.fin (rs := [.cell 4 29, .tmp 5]) () (.inl rfl) Try.results19 (.cons (.cells rw_29 (k := 1) rfl rfl rfl) (.cons (.tmp rfl) .nil)) rfl Splits.nil
  ·
   have h := condF hb2 h
   refine TO.fieldAddr fl_29_1 rfl dc rfl (show _ = 1 from rfl) (TO.load (k := 0) sc_3 rfl dc rfl rfl rfl (TO.move rfl dc rfl (TO.lenVec (k := 2) rfl dc rfl rfl Try.underlying30 (TO.bin rfl dc rfl rfl bin_geq (TO.pick (b := false) rfl dc rfl rfl (TO.nil (TX.next ?_)))))))
   refine TC.condB rfl (fun hb3 => ?_) (fun hb3 => ?_)
   ·
    have h := condT hb3 h
    refine TC.seq (TC.region ?_)
    refine TO.build (v := .agg #[.int .i64 0, .int .i64 0]) (ps := []) rfl dc rfl (fun _ => by kernel_rfl) ?_
    refine TO.stores (k := 1) (vs := [.int .i64 0, .int .i64 0]) (l' := [.int .i64 0, .int .i64 0]) sz_29 rfl rfl rfl rfl rfl (show _ ≤ _ by simp) rfl rfl (TO.assign rfl dc rfl (TO.nil (TX.next (TC.ret (TX.thenRet ?_)))))
    cases h
    exact TX.fin (rs := [.cell 4 29, .tmp 5]) () (.inl rfl) Try.results19 (.cons (.cells rw_29 (k := 1) rfl rfl rfl) (.cons (.tmp rfl) .nil)) rfl Splits.nil
   ·
    have h := condF hb3 h
    refine TC.skip (TX.next (TC.seq ?_))
    obtain ⟨q1, hq2, h⟩ := andE h
    obtain ⟨q2, hq3, h⟩ := andE h
    refine TC.drawN 10 [(0, 31, v2), (1, 32, .pointer (some ⟨b1, 0, none⟩)), (2, 33, .int .i64 span1.From), (3, 34, .pointer (some ⟨vblk v2, (span1.From : Int).toNat * 1, none⟩)), (4, 35, .int .i64 q1), (5, 36, v2), (6, 37, .pointer (some ⟨b1, 1, none⟩)), (7, 38, .int .i64 span1.To), (8, 39, .pointer (some ⟨vblk v2, (span1.To : Int).toNat * 1, none⟩)), (9, 40, .int .i64 q2)] mixed kr kr dc (by rfl) kr kr (DrawPre.cons ?_ (DrawPre.cons ?_ (DrawPre.cons ?_ (DrawPre.cons ?_ (DrawPre.cons ?_ (DrawPre.cons ?_ (DrawPre.cons ?_ (DrawPre.cons ?_ (DrawPre.cons ?_ (DrawPre.cons ?_ DrawPre.nil)))))))))) ?_
    ·
     intro D hn hd hcl hu hi
     refine TO.move rfl dc (dl_old (by rfl) rfl) ?_
     exact TX.quiet 0 hu hi rfl
    ·
     intro D hn hd hcl hu hi
     refine TO.fieldAddr fl_29_0 rfl dc (dl_old (by rfl) rfl) (show _ = 0 from rfl) ?_
     exact TX.quiet 1 hu hi rfl
    ·
     intro D hn hd hcl hu hi
     refine TO.load (k := 0) sc_3 rfl dc (dl_lookup (m := 1) hu rfl (hd 1 dc)) rfl rfl ?_
     exact TX.quiet 2 hu hi rfl
    ·
     intro D hn hd hcl hu hi
     refine TO.indexVecI (k := 2) hq2 Try.underlying30 sz_3 rfl dc (dl_lookup (m := 0) hu rfl (hd 0 dc)) (dl_lookup (m := 2) hu rfl (hd 2 dc)) rfl rfl ?_
     exact TX.quiet 3 hu hi rfl
    ·
     intro D hn hd hcl hu hi
     refine TO.loadVec (i := (span1.From : Int).toNat) (j := 0) (k := 2) (q := q1) sc_3 encI_len rfl dc (dl_lookup (m := 3) hu rfl (hd 3 dc)) rfl (getO_get hq2) rfl dc rfl ?_
     exact TX.quiet 4 hu hi rfl
    ·
     intro D hn hd hcl hu hi
     refine TO.move rfl dc (dl_old (by rfl) rfl) ?_
     exact TX.quiet 5 hu hi rfl
    ·
     intro D hn hd hcl hu hi
     refine TO.fieldAddr fl_29_1 rfl dc (dl_old (by rfl) rfl) (show _ = 1 from rfl) ?_
     exact TX.quiet 6 hu hi rfl
    ·
     intro D hn hd hcl hu hi
     refine TO.load (k := 0) sc_3 rfl dc (dl_lookup (m := 6) hu rfl (hd 6 dc)) rfl rfl ?_
     exact TX.quiet 7 hu hi rfl
    ·
     intro D hn hd hcl hu hi
     refine TO.indexVecI (k := 2) hq3 Try.underlying30 sz_3 rfl dc (dl_lookup (m := 5) hu rfl (hd 5 dc)) (dl_lookup (m := 7) hu rfl (hd 7 dc)) rfl rfl ?_
     exact TX.quiet 8 hu hi rfl
    ·
     intro D hn hd hcl hu hi
     refine TO.loadVec (i := (span1.To : Int).toNat) (j := 0) (k := 2) (q := q2) sc_3 encI_len rfl dc (dl_lookup (m := 8) hu rfl (hd 8 dc)) rfl (getO_get hq3) rfl dc rfl ?_
     exact TX.quiet 9 hu hi rfl
    refine TO.build (v := .agg #[.int .i64 q1, .int .i64 q2]) (ps := [(0, .tmp 35), (1, .tmp 40)]) rfl dc rfl (fun _ => by kernel_rfl) ?_
    refine TO.stores (k := 1) (vs := [.int .i64 q1, .int .i64 q2]) (l' := [.int .i64 q1, .int .i64 q2]) sz_29 rfl rfl rfl rfl rfl (show _ ≤ _ by simp) rfl rfl (TO.assign rfl dc rfl (TO.nil (TX.next (TC.ret ?_))))
    cases h
    exact TX.fin (rs := [.cell 4 29, .tmp 5]) () (.inl rfl) Try.results19 (.cons (.cells rw_29 (k := 1) rfl rfl rfl) (.cons (.tmp rfl) .nil)) rfl Splits.nil
end Go.Proofs.Ythjkafeklflgbaa
namespace Go.Proofs.Ythjkafeklflgbaa
open Go.RowKit Go.Lib
set_option linter.unusedVariables false
set_option linter.unusedSimpArgs false
def trC (c : Itm × List Itm) : List Int := List.replicate (foldC c).size c.1.At
def trS (s : ByteArray) : List Int := (clus s).flatMap trC
def plU (u : Gfold_unit) : ByteArray := if letter u.base then plainR (lower u.base) else Utf8.encode u.base
theorem wr_foldC (c : Itm × List Itm) (h : okT c.1) : wr plU (toU c) = foldC c ∧ (toU c).at_ = c.1.At ∧ (foldC c).size ≤ 4 ∧ ((toU c).base < 0 ∧ U8 (toU c).broken ∨ 0 ≤ (toU c).base ∧ fold_plain_v (toU c) = some (plU (toU c)) ∧ (plU (toU c)).size ≤ 1048576) := by
  have e4 : (foldC c).size ≤ 4 := foldI_size h
  refine ⟨?_, ?_, e4, ?_⟩
  · unfold wr
    rcases toU_cases c h with ⟨g1, _, g3, g4⟩ | ⟨g1, g2, g3, g4⟩
    · rw [if_pos g1, g4, (foldC_eq c h).2 g3]
    · rw [if_neg (by omega)]; exact (foldC_eq c h).1 g2
  · unfold toU; split <;> rfl
  · rcases toU_cases c h with ⟨g1, g2, _⟩ | ⟨g1, g2, g3, g4⟩
    · exact .inl ⟨g1, g2⟩
    · refine .inr ⟨g1, plain_v _ (by rw [toU_base c g2]; exact h.1), ?_⟩
      unfold plU
      split
      · have := plainR_size (lower (toU c).base); omega
      · have := enc_size4 (toU c).base; omega
theorem tr_inner (b5 r2 : ByteArray) (u : Gfold_unit) (Jf : ByteArray → List Int → Option (ByteArray × List Int)) (hb : (b5 ++ r2).size ≤ 2000000) : ∀ (n : Nat) (l : List Int), l.length ≤ (b5 ++ r2).size → (b5 ++ r2).size - l.length < n → loopG (fun _ => none) (fold_Trace_s2 b5 Jf u r2) n l = Jf (b5 ++ r2) (l ++ List.replicate ((b5 ++ r2).size - l.length) u.at_) := by
  intro n
  induction n with
  | zero => intro l _ h; omega
  | succ n ih =>
    intro l hl hn
    rw [loopI]
    generalize loopG (fun _ => none) (fold_Trace_s2 b5 Jf u r2) n = ag at ih ⊢
    unfold fold_Trace_s2
    by_cases h : l.length < (b5 ++ r2).size
    · refine condTI (decide_eq_true (by omega)) (grdI (by omega) ?_)
      rw [ih (l ++ [u.at_]) (by simp only [List.length_append, List.length_cons, List.length_nil]; omega) (by simp only [List.length_append, List.length_cons, List.length_nil]; omega)]
      rw [show (b5 ++ r2).size - l.length = ((b5 ++ r2).size - (l ++ [u.at_]).length) + 1 by simp only [List.length_append, List.length_cons, List.length_nil]; omega, List.replicate_succ, List.append_assoc]
      rfl
    · refine condFI (decide_eq_false (by omega)) ?_
      rw [show (b5 ++ r2).size - l.length = 0 by omega]; simp
theorem foldl_eq {α β : Type} {f g : β → α → β} : ∀ {l : List α} (a : β), (∀ x ∈ l, ∀ a, f a x = g a x) → l.foldl f a = l.foldl g a
  | [], a, _ => rfl
  | x :: l, a, h => by rw [List.foldl_cons, List.foldl_cons, h x (List.mem_cons_self ..) a, foldl_eq _ (fun y hy => h y (List.mem_cons_of_mem _ hy))]
theorem trS_fold (cs : List (Itm × List Itm)) : ∀ (b : ByteArray) (l : List Int), cs.foldl (fun (a : ByteArray × List Int) c => (a.1 ++ foldC c, a.2 ++ trC c)) (b, l) = (b ++ J foldC cs, l ++ cs.flatMap trC) := by
  induction cs with
  | nil => intro b l; simp [J_nil]
  | cons c cs ih => intro b l; rw [List.foldl_cons, ih, J_cons, ByteArray.append_assoc, List.flatMap_cons, List.append_assoc]
theorem trace_v (s : ByteArray) (hs : s.size ≤ 65536) : fold_Trace_v s = some (foldS s, trS s) := by
  unfold fold_Trace_v
  obtain ⟨hl, hc⟩ := clus_ok hs
  refine joinI (thenI (units_v s hs) ?_)
  have hlm : ((clus s).map toU).length = (clus s).length := List.length_map _
  have := loop2 (xs := (clus s).map toU) (F := fold_Trace_s1 (fun (b1 : ByteArray) (l1 : List Int) => some (b1, l1)) ((clus s).map toU)) (bot := fun _ _ _ => none) (f := fun (a : ByteArray × List Int) u => (a.1 ++ wr plU u, a.2 ++ List.replicate (wr plU u).size u.at_)) (J := fun b1 l1 => some (b1, l1)) (fun k a => a.1.size ≤ 4 * k ∧ a.2.length = a.1.size) ?_ ?_ ?_ (n := fuel) (big_fuel (by omega)) (a := (ByteArray.empty, ([] : List Int))) ⟨by decide, rfl⟩
  · refine this.trans ?_
    have e : ((clus s).map toU).foldl (fun (a : ByteArray × List Int) u => (a.1 ++ wr plU u, a.2 ++ List.replicate (wr plU u).size u.at_)) (ByteArray.empty, []) = (clus s).foldl (fun (a : ByteArray × List Int) c => (a.1 ++ foldC c, a.2 ++ trC c)) (ByteArray.empty, []) := by
      rw [List.foldl_map]
      refine foldl_eq _ fun c hcm a => ?_
      obtain ⟨h1, h2, _⟩ := wr_foldC c (hc c hcm).1
      rw [h1, h2]; rfl
    rw [e, trS_fold, ByteArray.empty_append, List.nil_append]; rfl
  · intro ag k u a hu hi
    have hk := lp_lt' hu
    obtain ⟨c, hcm, rfl⟩ := List.mem_map.1 (List.mem_of_getElem? hu)
    obtain ⟨h1, h2, h3, h4⟩ := wr_foldC c (hc c hcm).1
    obtain ⟨hi1, hi2⟩ := hi
    have hw := wr_plain plU [toU c] (by simp) (fun v hv => by simp at hv; subst hv; exact h4)
    rw [J_cons, J_nil, ByteArray.append_empty] at hw
    have hsz : (a.1 ++ wr plU (toU c)).size = a.1.size + (wr plU (toU c)).size := ByteArray.size_append
    rw [h1] at hsz hw
    unfold fold_Trace_s1
    refine condTI (lp_lt hu) (joinI (thenI (lp_get hu) (thenI hw (grdI (by omega) ?_))))
    rw [tr_inner a.1 (foldC c) (toU c) _ (by omega) fuel a.2 (by omega) (by have := big_fuel (n := (a.1 ++ foldC c).size) (by omega); omega)]
    refine grdI (lp_i64 (by omega)) ?_
    rw [h1, show (a.1 ++ foldC c).size - a.2.length = (foldC c).size by omega]
  · intro k u a hu hi
    obtain ⟨c, hcm, rfl⟩ := List.mem_map.1 (List.mem_of_getElem? hu)
    obtain ⟨h1, h2, h3, h4⟩ := wr_foldC c (hc c hcm).1
    obtain ⟨hi1, hi2⟩ := hi
    rw [h1]
    refine ⟨?_, ?_⟩
    · show (a.1 ++ foldC c).size ≤ _; rw [ByteArray.size_append]; omega
    · show (a.2 ++ List.replicate (foldC c).size (toU c).at_).length = (a.1 ++ foldC c).size
      rw [ByteArray.size_append, List.length_append, List.length_replicate, hi2]
  · intro ag a _; unfold fold_Trace_s1; exact condFI lp_ge rfl
theorem trS_len (s : ByteArray) : (trS s).length = (foldS s).size := by
  unfold trS foldS
  induction clus s with
  | nil => rfl
  | cons c cs ih => rw [List.flatMap_cons, J_cons, ByteArray.size_append, List.length_append, ih]; unfold trC; rw [List.length_replicate]
theorem foldS_size (s : ByteArray) (hs : s.size ≤ 65536) : (foldS s).size ≤ 786432 := by
  obtain ⟨hl, hc⟩ := clus_ok hs
  have := J_size foldC 4 (l := clus s) (fun c hcm => foldI_size (hc c hcm).1)
  unfold foldS; omega
theorem rtrace_v (s : ByteArray) (hs : s.size ≤ 65536) : ref04_Trace_v s = some (trS s) := by
  unfold ref04_Trace_v
  obtain ⟨hl, hc⟩ := clus_ok hs
  refine joinI (thenI (folded_v s hs) ?_)
  rw [bareI_clus, List.map_map]
  have hlm : ((clus s).map (foldI ∘ Prod.fst)).length = (clus s).length := List.length_map _
  refine (loop1 (xs := (clus s).map (foldI ∘ Prod.fst)) (f := fun a (x : Itm) => a ++ List.replicate x.Text.size x.At) (J := some) (fun k a => a.length ≤ 4 * k) ?_ ?_ ?_ (big_fuel (by omega)) (by simp)).trans ?_
  · intro ag k x a hx hi
    have hk := lp_lt' hx
    obtain ⟨c, hcm, rfl⟩ := List.mem_map.1 (List.mem_of_getElem? hx)
    have h4 : (foldI c.1).Text.size ≤ 4 := foldI_size (hc c hcm).1
    unfold ref04_Trace_s1
    refine condTI (lp_lt hx) (joinI (thenI (lp_get hx) ?_))
    have key : ∀ (n j : Nat) (b : List Int), j ≤ (foldI c.1).Text.size → (foldI c.1).Text.size - j < n → b.length ≤ 4 * k + j → loopG (fun _ _ => none) (ref04_Trace_s2 (fun out5 => grd (I64 ((k : Int) + 1)) <| ag out5 ((k : Int) + 1)) (foldI c.1)) n b (j : Int) = ag (b ++ List.replicate ((foldI c.1).Text.size - j) (foldI c.1).At) ((k : Int) + 1) := by
      intro n
      induction n with
      | zero => intro j b _ h; omega
      | succ n ih =>
        intro j b hj hn hb
        rw [loopI]
        generalize loopG (fun _ _ => none) (ref04_Trace_s2 (fun out5 => grd (I64 ((k : Int) + 1)) <| ag out5 ((k : Int) + 1)) (foldI c.1)) n = ag2 at ih ⊢
        unfold ref04_Trace_s2
        by_cases h : j < (foldI c.1).Text.size
        · refine condTI (decide_eq_true (by omega)) (grdI (by omega) (grdI (lp_i64 (by omega)) ?_))
          have := ih (j + 1) (b ++ [(foldI c.1).At]) (by omega) (by omega) (by simp; omega)
          push_cast at this
          rw [this, show (foldI c.1).Text.size - j = ((foldI c.1).Text.size - (j + 1)) + 1 by omega, List.replicate_succ]; simp
        · refine condFI (decide_eq_false (by omega)) (grdI (lp_i64 (by omega)) ?_)
          rw [show (foldI c.1).Text.size - j = 0 by omega]; simp
    have := key fuel 0 a (Nat.zero_le _) (by have := big_fuel (n := (foldI c.1).Text.size) (by omega); omega) (by omega)
    exact this
  · intro k x a hx hi
    obtain ⟨c, hcm, rfl⟩ := List.mem_map.1 (List.mem_of_getElem? hx)
    have h4 : (foldI c.1).Text.size ≤ 4 := foldI_size (hc c hcm).1
    rw [List.length_append, List.length_replicate]
    simp only [Function.comp] at h4 ⊢
    omega
  · intro ag a _; unfold ref04_Trace_s1; exact condFI lp_ge rfl
  · rw [fold_app (fun (x : Itm) => List.replicate x.Text.size x.At), List.nil_append, List.flatMap_map]
    unfold trS
    congr 2
    funext c
    unfold trC foldC foldI
    simp only [Function.comp]
    split <;> rfl
/-- The way back of a span. -/
def backS (s : ByteArray) (x : Gapi_Span) : Option Gapi_Span :=
  if x.From < 0 ∨ x.To < x.From ∨ ((foldS s).size : Int) < x.To then none
  else some ⟨((trS s ++ [(s.size : Int)])[x.From.toNat]?).getD 0, ((trS s ++ [(s.size : Int)])[x.To.toNat]?).getD 0⟩
theorem at_way {s : ByteArray} {i : Int} (h : 0 ≤ i ∧ i ≤ ((foldS s).size : Int)) : getO (trS s ++ [(s.size : Int)]) i = some (((trS s ++ [(s.size : Int)])[i.toNat]?).getD 0) := by
  have hl := trS_len s
  unfold getO
  rw [if_pos h.1]
  have : i.toNat < (trS s ++ [(s.size : Int)]).length := by simp; omega
  rw [List.getElem?_eq_getElem this]; rfl
theorem back_v (s : ByteArray) (x : Gapi_Span) (hs : s.size ≤ 65536) : fold_Back_v s x = some (match backS s x with | some y => (y, 0) | none => (⟨0, 0⟩, 5)) := by
  unfold fold_Back_v
  refine thenI (trace_v s hs) ?_
  have hl := trS_len s
  have hz := foldS_size s hs
  unfold backS
  by_cases h1 : x.From < 0
  · rw [if_pos (.inl h1)]; exact condTI (decide_eq_true h1) rfl
  · refine condFI (decide_eq_false h1) ?_
    by_cases h2 : x.To < x.From
    · rw [if_pos (.inr (.inl h2))]; exact condTI (decide_eq_true h2) rfl
    · refine condFI (decide_eq_false h2) ?_
      by_cases h3 : ((foldS s).size : Int) < x.To
      · rw [if_pos (.inr (.inr h3))]; exact condTI (decide_eq_true h3) rfl
      · rw [if_neg (by rintro (h | h | h) <;> contradiction)]
        refine condFI (decide_eq_false h3) (grdI (by simp only; omega) ?_)
        exact thenI (at_way ⟨by omega, by omega⟩) (thenI (at_way ⟨by omega, by omega⟩) rfl)
theorem rback_v (s : ByteArray) (x : Gapi_Span) (hs : s.size ≤ 65536) : ref04_Back_v s x = some (match backS s x with | some y => (y, true) | none => (⟨0, 0⟩, false)) := by
  unfold ref04_Back_v
  have hl := trS_len s
  have hz := foldS_size s hs
  refine thenI (rtrace_v s hs) (grdI (by omega) ?_)
  unfold backS
  by_cases h1 : x.From < 0
  · rw [if_pos (.inl h1)]; exact condTI (decide_eq_true h1) rfl
  · refine condFI (decide_eq_false h1) ?_
    by_cases h2 : x.To < x.From
    · rw [if_pos (.inr (.inl h2))]; exact condTI (decide_eq_true h2) rfl
    · refine condFI (decide_eq_false h2) ?_
      by_cases h3 : ((foldS s).size : Int) < x.To
      · rw [if_pos (.inr (.inr h3))]; exact condTI (decide_eq_true (by simp; omega)) rfl
      · rw [if_neg (by rintro (h | h | h) <;> contradiction)]
        refine condFI (decide_eq_false (by simp; omega)) ?_
        exact thenI (at_way ⟨by omega, by omega⟩) (thenI (at_way ⟨by omega, by omega⟩) rfl)
end Go.Proofs.Ythjkafeklflgbaa
namespace Go.Proofs.Ythjkafeklflgbaa
open Go.RowKit Go.Lib
set_option linter.unusedVariables false
set_option linter.unusedSimpArgs false
theorem strOf_size (l : List Int) : (strOf l).size ≤ l.length * 4 := by rw [strOf_J]; exact J_size _ 4 fun x _ => enc_size4 x
def strip (x : Itm) : Itm := ⟨x.Rune, x.Text, 0⟩
def stripC (c : Itm × List Itm) : Itm × List Itm := (strip c.1, c.2.map strip)
theorem isL_strip (x : Itm) : isL (strip x) = isL x := rfl
theorem isM_strip (x : Itm) : isM (strip x) = isM x := rfl
theorem clF_strip : ∀ (xs : List Itm) (cur : Option (Itm × List Itm)), clF (cur.map stripC) (xs.map strip) = (clF cur xs).map stripC
  | [], none => rfl
  | [], some c => rfl
  | x :: xs, none => clF_strip xs (some (x, []))
  | x :: xs, some c => by
    show (if isL (strip c.1) && isM (strip x) then clF (some (strip c.1, c.2.map strip ++ [strip x])) (xs.map strip) else stripC c :: clF (some (strip x, [])) (xs.map strip)) = (if isL c.1 && isM x then clF (some (c.1, c.2 ++ [x])) xs else c :: clF (some (x, [])) xs).map stripC
    rw [isL_strip, isM_strip]
    have h1 := clF_strip xs (some (c.1, c.2 ++ [x]))
    have h2 := clF_strip xs (some (x, []))
    simp only [Option.map_some, stripC, List.map_append, List.map_cons, List.map_nil] at h1 h2
    split
    · exact h1
    · rw [List.map_cons, ← h2]
theorem cl_strip (xs : List Itm) : cl (xs.map strip) = (cl xs).map stripC := clF_strip xs none
theorem apI_strip (x : Itm) : apI (strip x) = (apI x).map strip := by
  unfold apI
  rw [isL_strip]
  split
  · rw [List.map_map]; rfl
  · rfl
theorem apL_strip (xs : List Itm) : apL (xs.map strip) = (apL xs).map strip := by
  unfold apL
  induction xs with
  | nil => rfl
  | cons x xs ih => rw [List.map_cons, List.flatMap_cons, List.flatMap_cons, List.map_append, ih, apI_strip]
theorem foldC_strip (c : Itm × List Itm) : foldC (stripC c) = foldC c := by
  unfold foldC foldI stripC
  rw [isL_strip]
  split <;> rfl
/-- A token as an item. -/
def tokI (t : Tok) : Itm := ⟨if t.broken then -1 else (t.r : Int), ⟨t.bs.toArray⟩, 0⟩
def clT (ts : List Tok) : List (Itm × List Itm) := cl (apL (ts.map tokI))
def FT (ts : List Tok) : ByteArray := J foldC (clT ts)
theorem items_place (s : ByteArray) : ∀ (ts pre : List Tok), s.data.toList = flat (pre ++ ts) → ((place (flat pre).length ts).map (itG s)).map strip = ts.map tokI
  | [], pre, _ => rfl
  | t :: ts, pre, h => by
    have e : (flat pre).length + t.bs.length = (flat (pre ++ [t])).length := by rw [flat_append, List.length_append]; simp [flat]
    show strip (itG s ⟨(flat pre).length, t.bs.length, t.r⟩) :: ((place ((flat pre).length + t.bs.length) ts).map (itG s)).map strip = _
    rw [e, items_place s ts (pre ++ [t]) (by rw [h]; simp), List.map_cons]
    congr 1
    unfold strip itG tokI
    have hb : (⟨(flat pre).length, t.bs.length, t.r⟩ : Pc).broken = t.broken := rfl
    rw [hb]
    have ht : s.extract (flat pre).length ((flat pre).length + t.bs.length) = ⟨t.bs.toArray⟩ := by
      apply ByteArray.ext; apply Array.toList_inj.1
      rw [Lib.extract_data, h, flat_append, flat_cons]
      simp
    simp only [ht]
theorem items_toks (s : ByteArray) : (itemsP s).map strip = (toks s.data.toList).map tokI := by
  unfold itemsP pcs
  rw [pcs_place]
  have := items_place s (toks s.data.toList) [] (by rw [List.nil_append, flat_toks])
  exact this
theorem clus_strip (s : ByteArray) : (clus s).map stripC = clT (toks s.data.toList) := by
  unfold clT clus
  rw [← items_toks, apL_strip, cl_strip]
theorem foldS_toks (s : ByteArray) : foldS s = FT (toks s.data.toList) := by
  unfold foldS FT
  rw [← clus_strip, J_map]
  exact J_congr fun c _ => (foldC_strip c).symm
/-- The item of a rune. -/
def mkI (r : Int) : Itm := ⟨r, Utf8.encode r, 0⟩
theorem tokI_valid {t : Tok} (h : t.valid) : tokI t = mkI (t.r : Int) := by
  unfold tokI mkI
  rw [valid_not_broken h]
  have : (⟨t.bs.toArray⟩ : ByteArray) = Utf8.encode (t.r : Int) := by
    apply ByteArray.ext; apply Array.toList_inj.1
    rw [encode_list, ← h.2]
  rw [this]; rfl
theorem parts_other {r : Int} (h : letter r = false) : parts r = [r] := by
  unfold parts
  cases e : getM r tabS with
  | none => rfl
  | some p => have := (tabS_rng e).2.2; rw [h] at this; cases this
theorem apI_mk (r : Int) : apI (mkI r) = (parts r).map mkI := by
  unfold apI
  cases h : isL (mkI r) with
  | true => rfl
  | false => rw [parts_other (show letter r = false from h)]; rfl
theorem apL_mk (rs : List Int) : apL (rs.map mkI) = (rs.flatMap parts).map mkI := by
  unfold apL
  induction rs with
  | nil => rfl
  | cons r rs ih => rw [List.map_cons, List.flatMap_cons, List.flatMap_cons, List.map_append, ih, apI_mk]
theorem parts_parts {r x : Int} (h : x ∈ parts r) : parts x = [x] := by
  cases hL : letter r with
  | false =>
    rw [parts_other hL] at h
    simp at h; subst h; exact parts_other hL
  | true =>
    obtain ⟨b, ms, hq, hb, hn, hms, _⟩ := parts_shape hL
    rw [hq] at h
    rcases List.mem_cons.1 h with rfl | h
    · unfold parts; rw [hn]
    · exact parts_other (mrk_not_letter (hms x h))
theorem parts_twice (rs : List Int) : (rs.flatMap parts).flatMap parts = rs.flatMap parts := by
  rw [List.flatMap_assoc]
  congr 1
  funext r
  have : ∀ l : List Int, (∀ x ∈ l, parts x = [x]) → l.flatMap parts = l := by
    intro l
    induction l with
    | nil => intro _; rfl
    | cons y l ih => intro h; rw [List.flatMap_cons, h y (List.mem_cons_self ..), ih (fun z hz => h z (List.mem_cons_of_mem _ hz))]; rfl
  exact this _ fun x hx => parts_parts hx
/-- The tokens of a text of runes. -/
def tokR (r : Int) : Tok := ⟨r.toNat, encodeRune r⟩
theorem tokR_valid {r : Int} (h : vr r) : (tokR r).valid := by
  unfold vr at h
  refine ⟨?_, ?_⟩
  · show r.toNat < 55296 ∨ _; simp only [tokR]; omega
  · show encodeRune r = encodeRune ((r.toNat : Nat) : Int)
    rw [show ((r.toNat : Nat) : Int) = r by omega]
theorem strOf_toks {rs : List Int} (h : ∀ r ∈ rs, vr r) : toks (strOf rs).data.toList = rs.map tokR := by
  have e : (strOf rs).data.toList = flat (rs.map tokR) := by
    rw [strOf_J]
    clear h
    induction rs with
    | nil => rfl
    | cons r rs ih =>
      rw [J_cons, List.map_cons, flat_cons, ← ih]
      have : (Utf8.encode r).data.toList = encodeRune r := encode_list r
      show (Utf8.encode r ++ J Utf8.encode rs).data.toList = encodeRune r ++ _
      rw [← this]; simp
  rw [e]
  have := toks_valids (vs := rs.map tokR) (fun t ht => by obtain ⟨r, hr, rfl⟩ := List.mem_map.1 ht; exact tokR_valid (h r hr)) []
  simpa [toks_nil] using this
theorem foldS_str {rs : List Int} (h : ∀ r ∈ rs, vr r) : foldS (strOf rs) = J foldC (cl ((rs.flatMap parts).map mkI)) := by
  rw [foldS_toks, strOf_toks h]
  unfold FT clT
  have : (rs.map tokR).map tokI = rs.map mkI := by
    rw [List.map_map]
    refine List.map_congr_left fun r hr => ?_
    have hv := h r hr
    show tokI (tokR r) = mkI r
    rw [tokI_valid (tokR_valid hv)]
    show mkI ((r.toNat : Nat) : Int) = mkI r
    rw [show ((r.toNat : Nat) : Int) = r by unfold vr at hv; omega]
  rw [this, apL_mk]
theorem parts_vr {r : Int} (h : vr r) : ∀ x ∈ parts r, vr x := by
  intro x hx
  cases hL : letter r with
  | false => rw [parts_other hL] at hx; simp at hx; subst hx; exact h
  | true =>
    obtain ⟨b, ms, hq, hb, hn, hms, _⟩ := parts_shape hL
    rw [hq] at hx
    rcases List.mem_cons.1 hx with rfl | hx
    · have := letter_rng _ hb; unfold vr; omega
    · have := hms x hx; unfold mrk at this; simp at this; unfold vr; omega
theorem runesOf_vr (s : ByteArray) : ∀ r ∈ runesOf s, vr r := by
  intro r hr
  unfold runesOf at hr
  obtain ⟨p, hp, rfl⟩ := List.mem_map.1 hr
  obtain ⟨g1, g2, hok⟩ := pcs_pos s.data.toList p hp
  have := hok.valid
  unfold vr; omega
theorem fold_parts {rs : List Int} (h : ∀ r ∈ rs, vr r) : foldS (strOf (rs.flatMap parts)) = foldS (strOf rs) := by
  rw [foldS_str h, foldS_str (fun x hx => by obtain ⟨r, hr, hx⟩ := List.mem_flatMap.1 hx; exact parts_vr (h r hr) x hx), parts_twice]
end Go.Proofs.Ythjkafeklflgbaa
namespace Go.Proofs.Ythjkafeklflgbaa
open Go.RowKit Go.Lib
set_option linter.unusedVariables false
set_option linter.unusedSimpArgs false
theorem decCont {b : UInt8} {l : List UInt8} (h : contB b = true) : decodeL (b :: l) = (65533, 1) := by
  rw [decodeL_N]
  have hb : b.toNat / 64 = 2 := by simpa [contB] using h
  have e : ((b :: l).getD 0 0).toNat = b.toNat := rfl
  unfold decodeN
  rw [e, if_neg (by omega), if_neg (by omega), if_neg (by omega), if_neg (by omega)]
theorem encTail (r : Nat) (hv : r < 55296 ∨ (57343 < r ∧ r ≤ 1114111)) (i : Nat) (b : UInt8) (hi : 0 < i) (h : (encodeRune r)[i]? = some b) : contB b = true := by
  unfold encodeRune at h
  rw [List.getElem?_map, Option.map_eq_some_iff] at h
  obtain ⟨z, hz, rfl⟩ := h
  have key : 128 ≤ z ∧ z < 192 := by
    rcases encZ_shape r hv with ⟨_, e⟩ | ⟨_, _, e⟩ | ⟨_, _, e⟩ | ⟨_, _, e⟩ <;> rw [e] at hz
    · rcases i with _ | i
      · omega
      · simp at hz
    · rcases i with _ | _ | i
      · omega
      · simp at hz; omega
      · simp at hz
    · rcases i with _ | _ | _ | i
      · omega
      · simp at hz; omega
      · simp at hz; omega
      · simp at hz
    · rcases i with _ | _ | _ | _ | i
      · omega
      · simp at hz; omega
      · simp at hz; omega
      · simp at hz; omega
      · simp at hz
  unfold contB
  rw [u8_toNat z (by omega) (by omega)]
  simp; omega
/-- No form goes over a boundary. -/
theorem noOver : ∀ (a b : List Tok), Good (a ++ b) → ∀ m, m < (flat a).length → ¬ ((decodeL ((flat (a ++ b)).drop m)).1 = 65533 ∧ (decodeL ((flat (a ++ b)).drop m)).2 = 1) → m + (decodeL ((flat (a ++ b)).drop m)).2 ≤ (flat a).length
  | [], b, _, m, hm, _ => by simp [flat] at hm
  | t :: a, b, hg, m, hm, hb => by
    have hok := good_ok hg t (by simp)
    have hne := bs_ne hok
    have hlt : 0 < t.bs.length := List.length_pos_iff.2 hne
    have hfl : flat (t :: a ++ b) = t.bs ++ flat (a ++ b) := by rw [List.cons_append, flat_cons]
    have hfa : (flat (t :: a)).length = t.bs.length + (flat a).length := by rw [flat_cons, List.length_append]
    rw [hfl] at hb ⊢
    rw [hfa] at hm ⊢
    by_cases h0 : m = 0
    · subst h0
      have h : toks (flat (t :: a ++ b)) = t :: (a ++ b) := hg
      rw [hfl, toks_cons _ (by simp [hne])] at h
      have h1 := congrArg Tok.bs (List.cons.inj h).1
      simp only at h1
      have h2 := dec_le (t.bs ++ flat (a ++ b)) (by simp [hne])
      have h3 := congrArg List.length h1
      rw [List.length_take, Nat.min_eq_left h2] at h3
      rw [List.drop_zero]; omega
    · by_cases h1 : m < t.bs.length
      · exfalso
        rcases hok with hv | hbr
        · have hget : (encodeRune t.r)[m]? = some (t.bs[m]) := by rw [← hv.2]; exact List.getElem?_eq_getElem h1
          have hc := encTail t.r hv.1 m _ (by omega) hget
          have hd : (t.bs ++ flat (a ++ b)).drop m = t.bs[m] :: (t.bs ++ flat (a ++ b)).drop (m + 1) := by
            rw [List.drop_eq_getElem_cons (by simp; omega), List.getElem_append_left h1]
          rw [hd, decCont hc] at hb
          exact hb ⟨rfl, rfl⟩
        · unfold Tok.broken at hbr
          simp at hbr; omega
      · have e : (t.bs ++ flat (a ++ b)).drop m = (flat (a ++ b)).drop (m - t.bs.length) := by
          rw [List.drop_append, List.drop_eq_nil_of_le (by omega), List.nil_append]
        rw [e] at hb ⊢
        have := noOver a b (good_tail hg) (m - t.bs.length) (by omega) hb
        omega
/-- Nothing goes over a boundary. -/
theorem boundaryV (s : ByteArray) (a b : List Tok) (hd : s.data.toList = flat (a ++ b)) (hg : Good (a ++ b)) (hsz : s.size ≤ 9223372036854775000) : runes_Boundary_v s ((flat a).length : Int) = some true := by
  have hn : (flat a).length ≤ s.size := by
    have h1 : s.data.toList.length = s.size := by simp
    rw [← h1, hd, flat_append, List.length_append]; omega
  unfold runes_Boundary_v
  refine condFI (decide_eq_false (by omega)) (condFI (decide_eq_false (by omega)) (thenI (a := ((⟨0, 0, 0, false⟩ : Gapi_Piece), false)) ?_ rfl))
  unfold runes_within_v
  refine joinI (grdI ⟨by omega, by omega⟩ ?_)
  have key : ∀ n m : Nat, m ≤ (flat a).length → (flat a).length - m < n → loopG (fun _ => none) (runes_within_s1 s ((flat a).length : Int) (some ((⟨0, 0, 0, false⟩ : Gapi_Piece), false))) n (m : Int) = some ((⟨0, 0, 0, false⟩ : Gapi_Piece), false) := by
    intro n
    induction n with
    | zero => intro m _ h; omega
    | succ n ih =>
      intro m hm hn2
      rw [loopI]
      generalize hag : loopG _ _ n = ag at ih ⊢
      unfold runes_within_s1
      by_cases h : m < (flat a).length
      · have hne : s.data.toList.drop m ≠ [] := by
          intro h; have := congrArg List.length h; simp at this; omega
        have hle := dec_le _ hne
        have hlen : (s.data.toList.drop m).length = s.size - m := by simp
        have ho := noOver a b hg m h
        rw [← hd] at ho
        refine condTI (decide_eq_true (by omega)) (joinI (thenI (readV s m (by omega) hsz) (grdI ⟨by simp only [pcG]; omega, by simp only [pcG]; omega⟩ ?_)))
        have tail : (grd (I64 ((m : Int) + 1)) <| ag ((m : Int) + 1)) = some ((⟨0, 0, 0, false⟩ : Gapi_Piece), false) := grdI ⟨by omega, by omega⟩ (ih (m + 1) (by omega) (by omega))
        by_cases hb : (decodeL (s.data.toList.drop m)).1 = 65533 ∧ (decodeL (s.data.toList.drop m)).2 = 1
        · have hbr : (pcG ⟨m, (decodeL (s.data.toList.drop m)).2, (decodeL (s.data.toList.drop m)).1⟩).Broken = true := by simp [pcG, Pc.broken, hb]
          cases decide (((flat a).length : Int) < (m : Int) + (pcG ⟨m, (decodeL (s.data.toList.drop m)).2, (decodeL (s.data.toList.drop m)).1⟩).Width)
          · exact condFI rfl tail
          · exact condTI rfl (condFI (by rw [hbr]; rfl) tail)
        · exact condFI (decide_eq_false (by have := ho hb; simp only [pcG]; omega)) tail
      · exact condFI (decide_eq_false (by omega)) rfl
  obtain ⟨m, hm, hm2⟩ : ∃ m : Nat, max (((flat a).length : Int) - 3) 0 = m ∧ m ≤ (flat a).length := ⟨(flat a).length - 3, by omega, by omega⟩
  rw [hm]
  exact key fuel m hm2 (by unfold fuel; omega)


theorem place_mem : ∀ (ts pre : List Tok) (p : Pc), p ∈ place (flat pre).length ts → ∃ a t c, ts = a ++ t :: c ∧ p.i = (flat (pre ++ a)).length ∧ p.w = t.bs.length ∧ p.r = t.r
  | [], pre, p, h => by cases h
  | t :: ts, pre, p, h => by
    have e : (flat pre).length + t.bs.length = (flat (pre ++ [t])).length := by rw [flat_append, List.length_append]; simp [flat]
    have h' : p ∈ (⟨(flat pre).length, t.bs.length, t.r⟩ : Pc) :: place ((flat pre).length + t.bs.length) ts := h
    rcases List.mem_cons.1 h' with rfl | h'
    · exact ⟨[], t, ts, rfl, by simp, rfl, rfl⟩
    · rw [e] at h'
      obtain ⟨a, u, c, h1, h2, h3, h4⟩ := place_mem ts (pre ++ [t]) p h'
      exact ⟨t :: a, u, c, by rw [h1]; rfl, by rw [h2]; simp, h3, h4⟩
/-- A piece begins at a boundary. -/
theorem piece_at {s : ByteArray} {p : Pc} (h : p ∈ pcs s.data.toList) (hs : s.size ≤ 65536) : runes_Boundary_v s (p.i : Int) = some true ∧ p.i < s.size := by
  have hf := pcs_fit h
  obtain ⟨g1, g2, hok⟩ := pcs_pos s.data.toList p h
  have hw := hok.pos
  unfold pcs at h
  rw [pcs_place] at h
  obtain ⟨a, t, c, h1, h2, _, _⟩ := place_mem (toks s.data.toList) [] p h
  refine ⟨?_, by omega⟩
  have := boundaryV s a (t :: c) (by rw [← h1, flat_toks]) (by rw [← h1]; exact good_toks _) (by omega)
  rw [h2]; simpa using this
theorem place_sorted : ∀ (ts : List Tok) (i : Nat), (place i ts).Pairwise (fun p q => p.i ≤ q.i) ∧ ∀ p ∈ place i ts, i ≤ p.i
  | [], i => ⟨List.Pairwise.nil, fun p h => by cases h⟩
  | t :: ts, i => by
    obtain ⟨h1, h2⟩ := place_sorted ts (i + t.bs.length)
    refine ⟨List.Pairwise.cons (fun q hq => by have := h2 q hq; show i ≤ q.i; omega) h1, fun p hp => ?_⟩
    rcases List.mem_cons.1 hp with rfl | hp
    · exact Nat.le_refl _
    · have := h2 p hp; omega
theorem items_sorted (s : ByteArray) : (itemsP s).Pairwise (fun x y => x.At ≤ y.At) := by
  unfold itemsP pcs
  rw [pcs_place, List.pairwise_map]
  exact (place_sorted (toks s.data.toList) 0).1.imp (fun h => by show (_ : Int) ≤ _; simp only [itG]; omega)
theorem apI_at {x y : Itm} (h : y ∈ apI x) : y.At = x.At := by
  unfold apI at h
  split at h
  · obtain ⟨r, _, rfl⟩ := List.mem_map.1 h; rfl
  · simp at h; rw [h]
theorem apL_sorted : ∀ {l : List Itm}, l.Pairwise (fun x y => x.At ≤ y.At) → (apL l).Pairwise (fun x y => x.At ≤ y.At)
  | [], _ => List.Pairwise.nil
  | x :: l, h => by
    rw [List.pairwise_cons] at h
    show (apI x ++ apL l).Pairwise _
    rw [List.pairwise_append]
    refine ⟨?_, apL_sorted h.2, fun a ha b hb => ?_⟩
    · rw [List.pairwise_iff_forall_sublist]
      intro a b hab
      have ha : a ∈ apI x := hab.subset (by simp)
      have hb : b ∈ apI x := hab.subset (by simp)
      rw [apI_at ha, apI_at hb]; exact Int.le_refl _
    · obtain ⟨z, hz, hb⟩ := List.mem_flatMap.1 hb
      rw [apI_at ha, apI_at hb]; exact h.1 z hz
theorem clF_sub : ∀ (xs : List Itm) (cur : Option (Itm × List Itm)), ((clF cur xs).map Prod.fst).Sublist ((cur.toList.map Prod.fst) ++ xs)
  | [], none => List.Sublist.refl _
  | [], some c => by simp [clF]
  | x :: xs, none => clF_sub xs (some (x, []))
  | x :: xs, some c => by
    show ((if isL c.1 && isM x then clF (some (c.1, c.2 ++ [x])) xs else c :: clF (some (x, [])) xs).map Prod.fst).Sublist (c.1 :: x :: xs)
    split
    · exact (clF_sub xs (some (c.1, c.2 ++ [x]))).trans (List.Sublist.cons_cons _ (List.sublist_cons_self _ _))
    · exact List.Sublist.cons_cons _ (clF_sub xs (some (x, [])))
theorem clus_sorted (s : ByteArray) : (clus s).Pairwise (fun c d => c.1.At ≤ d.1.At) := by
  have h := (apL_sorted (items_sorted s)).sublist (clF_sub (apL (itemsP s)) none)
  rw [List.pairwise_map] at h
  exact h
/-- Where a cluster begins. -/
theorem clus_at {s : ByteArray} {c : Itm × List Itm} (h : c ∈ clus s) : ∃ p ∈ pcs s.data.toList, c.1.At = (p.i : Int) := by
  obtain ⟨h1, _⟩ := cl_mem h
  obtain ⟨x, hx, hy⟩ := List.mem_flatMap.1 h1
  obtain ⟨p, hp, rfl⟩ := List.mem_map.1 hx
  exact ⟨p, hp, apI_at hy⟩
theorem foldC_pos {c : Itm × List Itm} (h : okT c.1) : 0 < (foldC c).size := by
  have he : ∀ r, 0 < (Utf8.encode r).size := fun r => by rw [encode_size]; exact (encodeRune_len r).1
  unfold foldC foldI
  split
  · show 0 < (plainR _).size
    unfold plainR
    split
    · rename_i b hb
      have : ∀ p ∈ plT, 0 < p.2.length := by decide
      have := this _ (getM_mem hb)
      show 0 < (b.toArray).size; simpa using this
    · exact he _
  · rcases h.2 with ⟨_, h2⟩ | ⟨_, h2⟩
    · omega
    · rw [h2]; exact he _
theorem rep_sorted (f : Itm × List Itm → Nat) : ∀ {l : List (Itm × List Itm)}, l.Pairwise (fun c d => c.1.At ≤ d.1.At) → (l.flatMap fun c => List.replicate (f c) c.1.At).Pairwise (fun a b => a ≤ b)
  | [], _ => List.Pairwise.nil
  | c :: l, h => by
    rw [List.pairwise_cons] at h
    rw [List.flatMap_cons, List.pairwise_append]
    refine ⟨?_, rep_sorted f h.2, fun a ha b hb => ?_⟩
    · rw [List.pairwise_replicate]; exact .inr (Int.le_refl _)
    · obtain ⟨d, hd, hb⟩ := List.mem_flatMap.1 hb
      rw [(List.mem_replicate.1 ha).2, (List.mem_replicate.1 hb).2]; exact h.1 d hd
theorem trS_sorted (s : ByteArray) : (trS s).Pairwise (fun a b => a ≤ b) := rep_sorted (fun c => (foldC c).size) (clus_sorted s)
theorem trS_mem {s : ByteArray} {a : Int} (h : a ∈ trS s) : ∃ p ∈ pcs s.data.toList, a = (p.i : Int) := by
  obtain ⟨c, hc, ha⟩ := List.mem_flatMap.1 h
  obtain ⟨p, hp, he⟩ := clus_at hc
  exact ⟨p, hp, by rw [(List.mem_replicate.1 ha).2, he]⟩
theorem trS_head {s : ByteArray} (hs : s.size ≤ 65536) (h : 0 < (trS s).length) : (trS s)[0]? = some 0 := by
  -- the first piece is at 0, and nothing is before it
  have hne : pcs s.data.toList ≠ [] := by
    intro e
    have : trS s = [] := by
      cases hq : trS s with
      | nil => rfl
      | cons a l =>
        obtain ⟨p, hp, _⟩ := trS_mem (s := s) (a := a) (by rw [hq]; exact List.mem_cons_self ..)
        rw [e] at hp; cases hp
    rw [this] at h; cases h
  obtain ⟨p, ps, hp⟩ := List.exists_cons_of_ne_nil hne
  have hp0 : p.i = 0 := by
    have h1 : pcs s.data.toList = place 0 (toks s.data.toList) := pcs_place _ 0
    rw [hp] at h1
    cases ht : toks s.data.toList with
    | nil => rw [ht] at h1; cases h1
    | cons t ts => rw [ht] at h1; have := (List.cons.inj h1).1; rw [this]
  have hit : itemsP s = itG s p :: ps.map (itG s) := by unfold itemsP; rw [hp]; rfl
  obtain ⟨y, ys, hy⟩ : ∃ y ys, apI (itG s p) = y :: ys := by
    unfold apI
    split
    · have := (parts_len (itG s p).Rune).2
      cases hq : parts (itG s p).Rune with
      | nil => rw [hq] at this; simp at this
      | cons b ms => exact ⟨_, _, rfl⟩
    · exact ⟨_, _, rfl⟩
  have hap : apL (itemsP s) = y :: (ys ++ apL (ps.map (itG s))) := by rw [hit]; unfold apL; rw [List.flatMap_cons, hy]; rfl
  have hya : y.At = 0 := by rw [apI_at (x := itG s p) (y := y) (by rw [hy]; exact List.mem_cons_self ..)]; show (p.i : Int) = 0; rw [hp0]; rfl
  obtain ⟨c, cs, hc, hc1⟩ : ∃ c cs, clus s = c :: cs ∧ c.1 = y := by
    unfold clus
    rw [hap]
    cases hL : isL y with
    | true => exact ⟨_, _, cl_letter hL _, rfl⟩
    | false => exact ⟨_, _, cl_other hL _, rfl⟩
  have hpos := foldC_pos ((clus_ok hs).2 c (by rw [hc]; exact List.mem_cons_self ..)).1
  unfold trS
  rw [hc, List.flatMap_cons]
  unfold trC
  obtain ⟨m, hm⟩ : ∃ m, (foldC c).size = m + 1 := ⟨(foldC c).size - 1, by omega⟩
  rw [hm, List.replicate_succ, hc1, hya]; rfl
end Go.Proofs.Ythjkafeklflgbaa
namespace Go.Proofs.Ythjkafeklflgbaa
open Go.RowKit Go.Lib
set_option linter.unusedVariables false
set_option linter.unusedSimpArgs false
def law04_FoldWay_s1 (s2 : ByteArray) (r2 : (ByteArray × (List Int))) (j3 : Option Bool) (ag1 : Int → Option Bool) (x3 : Int) : Option Bool := bcond (decide ((x3 : Int) < (r2.2.length : Int))) ( joinK (fun (j4 : Int → Bool → Int → Bool → Int → Bool → Bool → Option Bool) => andThen (getO r2.2 x3) fun (q2 : Int) => bcond (decide ((0 : Int) < x3)) ( grd (I64 (x3 - 1)) <| andThen (getO r2.2 (x3 - 1)) fun (q3 : Int) => bcond (decide ((q2 : Int) < q3)) ( some false
) ( bcond (decide ((q2 : Int) < 0)) ( some false
) ( bcond (decide (((s2.size : Int) : Int) ≤ q2)) ( some false
) ( andThen (runes_Boundary_v s2 q2) fun (r5 : Bool) => bcond (!r5) ( some false
) ( j4 q2 (decide ((q2 : Int) < 0)) q2 (decide (((s2.size : Int) : Int) ≤ q2)) q2 r5 (!r5)
)
)
)
)
) ( bcond (decide ((q2 : Int) < 0)) ( some false
) ( bcond (decide (((s2.size : Int) : Int) ≤ q2)) ( some false
) ( andThen (runes_Boundary_v s2 q2) fun (r6 : Bool) => bcond (!r6) ( some false
) ( j4 q2 (decide ((q2 : Int) < 0)) q2 (decide (((s2.size : Int) : Int) ≤ q2)) q2 r6 (!r6)
)
)
)
)
) (fun (x4 : Int) (x5 : Bool) (x6 : Int) (x7 : Bool) (x8 : Int) (x9 : Bool) (x10 : Bool) => grd (I64 (x3 + 1)) <| ag1 (x3 + 1)
)
) ( j3
)
def law04_FoldWay_s2 (s2 : ByteArray) (r2 : (ByteArray × (List Int))) (j6 : Option Bool) (ag2 : Nat → Option Bool) (m3 : Nat) : Option Bool := bcond (decide (m3 < (pcs r2.1.data.toList).length)) ( andThen ((pcs r2.1.data.toList)[m3]?) fun (p1 : Pc) => bcond (decide ((200 : Int) < (p1.i : Int))) ( j6
) ( andThen (fold_Back_v s2 (⟨(p1.i : Int), (r2.1.size : Int)⟩ : Gapi_Span)) fun (r7 : (Gapi_Span × Int)) => bcond ((r7.2 : Int) != 0) ( some false
) ( andThen (getO r2.2 (p1.i : Int)) fun (q5 : Int) => bcond (!(eq_Gapi_Span r7.1 (⟨q5, (s2.size : Int)⟩ : Gapi_Span))) ( some false
) ( ag2 (m3 + 1)
)
)
)
) ( j6
)
def law04_FoldWay_v (s1 : ByteArray) : Option Bool := andThen (law04_wakes_v) fun (r1 : Bool) => bcond (!r1) ( some false
) ( joinK (fun (j1 : ByteArray → Option Bool) => bcond (decide ((4096 : Int) < (s1.size : Int))) ( grd (0 ≤ (0 : Int) ∧ (0 : Int) ≤ 4096 ∧ (4096 : Int) ≤ (s1.size : Int)) <| j1 (cutB s1 0 4096)
) ( j1 s1
)
) (fun (s2 : ByteArray) => andThen (fold_Trace_v s2) fun (r2 : (ByteArray × (List Int))) => bcond (((r2.2.length : Int) : Int) != (r2.1.size : Int)) ( some false
) ( andThen (fold_Fold_v s2) fun (r3 : ByteArray) => bcond (!decide (r2.1 = r3)) ( some false
) ( joinK (fun (j2 : Option Bool) => andThen (fold_Back_v s2 (⟨0, (r2.1.size : Int)⟩ : Gapi_Span)) fun (r4 : (Gapi_Span × Int)) => bcond ((r4.2 : Int) != 0) ( some false
) ( bcond (decide ((0 : Int) < (r2.1.size : Int))) ( andThen (getO r2.2 0) fun (q1 : Int) => bcond (!(eq_Gapi_Span r4.1 (⟨q1, (s2.size : Int)⟩ : Gapi_Span))) ( some false
) ( bcond (((r2.1.size : Int) : Int) == 0) ( bcond (!(eq_Gapi_Span r4.1 (⟨(s2.size : Int), (s2.size : Int)⟩ : Gapi_Span))) ( some false
) ( j2
)
) ( j2
)
)
) ( bcond (((r2.1.size : Int) : Int) == 0) ( bcond (!(eq_Gapi_Span r4.1 (⟨(s2.size : Int), (s2.size : Int)⟩ : Gapi_Span))) ( some false
) ( j2
)
) ( j2
)
)
)
) ( joinK (fun (j3 : Option Bool) => loopG (fun _ => none) (law04_FoldWay_s1 s2 r2 j3) fuel 0
) ( joinK (fun (j5 : Option Bool) => bcond (decide ((0 : Int) < (r2.1.size : Int))) ( andThen (getO r2.2 0) fun (q4 : Int) => bcond ((q4 : Int) != 0) ( some false
) ( j5
)
) ( j5
)
) ( joinK (fun (j6 : Option Bool) => loopG (fun _ => none) (law04_FoldWay_s2 s2 r2 j6) fuel 0
) ( andThen (law04_wakes_v) fun (r8 : Bool) => some r8
)
)
)
)
)
)
)
)
set_option maxRecDepth 100000 in
set_option maxHeartbeats 4000000 in
theorem law04_FoldWay_fn {s1 : ByteArray} {r : Bool} (h : law04_FoldWay_v s1 = some r) : FnP Try.prog 9 [.string s1] (.bool r) := by
 unfold law04_FoldWay_v at h
 refine FnP.intro Try.func9 rfl Try.ntmps9 (by simp) ?_
 intro w0 K
 refine TC.seq (TC.region (TO.assign rfl dc rfl (TO.nil (TX.next (TC.seq (TC.seq (TC.region ?_)))))))
 obtain ⟨r1, hq1, h⟩ := andE h
 refine TO.callP (v := .bool r1) (vs := []) rfl dc rfl rfl rfl en_12 (law04_wakes_fn hq1) (TO.un rfl dc rfl un_not (TO.nil (TX.next ?_)))
 refine TC.condB rfl (fun hb1 => ?_) (fun hb1 => ?_)
 ·
  have h := condT hb1 h
  refine TC.seq (TC.region (TO.assign rfl dc rfl (TO.nil (TX.next (TC.ret (TX.thenRet ?_))))))
  cases h
  exact TX.fin (rs := [.tmp 2]) () (.inl rfl) Try.results9 (.cons (.tmp rfl) .nil) rfl Splits.nil
 ·
  have h := condF hb1 h
  refine TC.skip (TX.next ?_)
  obtain ⟨j1, hj1, h⟩ := joinE h
  refine TC.cutN (β := ByteArray) 0 rfl (fun b => j1 b = some r) (fun b => []) (fun b => [(0, .string b)]) (fun b => []) (fun cut => ?_) ?_
  ·
   refine cut (TC.seq (TC.region (TO.move rfl dc rfl (TO.lenStr rfl dc rfl Try.underlying9 (TO.bin rfl dc rfl rfl bin_gtr (TO.nil (TX.next ?_)))))))
   refine TC.condB rfl (fun hb2 => ?_) (fun hb2 => ?_)
   ·
    have h := condT hb2 h
    refine TC.region (TO.move rfl dc rfl ?_)
    obtain ⟨hg1, h⟩ := grdE h
    refine TO.slice rfl dc rfl rfl rfl (slice_stringI (i := 0) (j := 4096) Try.underlying9 (.inl ⟨rfl, rfl⟩) (.inr rfl) hg1) (TO.assign rfl dc rfl (TO.nil ?_))
    exact TX.meetD (cutB s1 0 4096) h rfl (Sbs.cons rfl (Sbs.nil)) Splits.nil
   ·
    have h := condF hb2 h
    refine TC.skip ?_
    exact TX.meetD s1 h rfl (Sbs.cons rfl (Sbs.nil)) Splits.nil
  ·
   rintro s2 h
   rw [hj1] at h
   show TC _ _ _ _ _ ([]) _ _ [(0, .string s2)] []
   refine TC.seq (TC.region (TO.move rfl dc rfl ?_))
   obtain ⟨r2, hq2, h⟩ := andE h
   refine TO.call (vs := [.string s2]) rfl dc rfl rfl rfl en_17 (fold_Trace_fn hq2) Splits.nil ?_
   rintro v1
   show TO _ _ _ _ _ _ _ _ _ _ [vec (encI (.i64)) 3 1 v1 r2.2]
   refine TO.move rfl dc rfl (TO.extract rfl dc rfl rfl (TO.extract rfl dc rfl rfl (TO.assign rfl dc rfl (TO.assign rfl dc rfl (TO.nil (TX.next (TC.seq (TC.seq (TC.region (TO.move rfl dc rfl (TO.lenVec (k := 0) rfl dc rfl rfl Try.underlying30 (TO.move rfl dc rfl (TO.lenStr rfl dc rfl Try.underlying9 ?_)))))))))))))
   refine TO.bin rfl dc rfl rfl bin_neq (TO.move rfl dc rfl ?_)
   refine TO.split (s := 29) rfl (fun hb3 => ?_) (fun hb3 => ?_)
   ·
    have h := condT hb3 h
    refine TO.skip rfl dc (TO.skip rfl dc (TO.skip rfl dc (TO.skip rfl dc (TO.pick (b := true) rfl dc rfl rfl (TO.nil (TX.next (TC.condT rfl (TC.seq (TC.region (TO.assign rfl dc rfl (TO.nil (TX.next (TC.ret ?_)))))))))))))
    refine TX.thenRet ?_
    cases h
    exact TX.fin (rs := [.tmp 2]) () (.inl rfl) Try.results9 (.cons (.tmp rfl) .nil) rfl Splits.nil
   ·
    have h := condF hb3 h
    refine TO.move rfl dc rfl (TO.move rfl dc rfl ?_)
    obtain ⟨r3, hq3, h⟩ := andE h
    refine TO.callP (v := .string r3) (vs := [.string s2]) rfl dc rfl rfl rfl en_27 (fold_Fold_fn hq3) (TO.bin rfl dc rfl rfl bin_sneq (TO.pick (b := false) rfl dc rfl rfl (TO.nil (TX.next ?_))))
    refine TC.condB rfl (fun hb4 => ?_) (fun hb4 => ?_)
    ·
     have h := condT hb4 h
     refine TC.seq (TC.region (TO.assign rfl dc rfl (TO.nil (TX.next (TC.ret (TX.thenRet ?_))))))
     cases h
     exact TX.fin (rs := [.tmp 2]) () (.inl rfl) Try.results9 (.cons (.tmp rfl) .nil) rfl Splits.nil
    ·
     have h := condF hb4 h
     refine TC.skip (TX.next ?_)
     obtain ⟨j2, hj2, h⟩ := joinE h
     refine TC.cutN (β := Unit) 1 rfl (fun b => j2 = some r) (fun b => []) (fun b => [(0, .string s2), (3, .string r2.1), (4, v1)]) (fun b => [vec (encI (.i64)) 3 1 v1 r2.2]) (fun cut => ?_) ?_
     ·
      refine TC.seq (TC.region (TO.move rfl dc rfl (TO.move rfl dc rfl (TO.lenStr rfl dc rfl Try.underlying9 ?_))))
      refine TO.build (v := .agg #[.int .i64 0, .int .i64 (r2.1.size : Int)]) (ps := [(0, .const (.int .i64 0)), (1, .tmp 38)]) rfl dc rfl (fun _ => by kernel_rfl) ?_
      obtain ⟨r4, hq4, h⟩ := andE h
      refine TO.callP (v := .tuple #[.agg #[.int .i64 r4.1.From, .int .i64 r4.1.To], .int .i64 r4.2]) (vs := [.string s2, .agg #[.int .i64 0, .int .i64 (r2.1.size : Int)]]) rfl dc rfl rfl rfl en_20 (fold_Back_fn (span1 := (⟨0, (r2.1.size : Int)⟩ : Gapi_Span)) hq4) (TO.move rfl dc rfl (TO.extract rfl dc rfl rfl (TO.extract rfl dc rfl rfl ?_)))
      refine TO.alloc zr_29 rfl dc (fun b1 => ?_)
      refine TO.stores (k := 1) (vs := [.int .i64 r4.1.From, .int .i64 r4.1.To]) (l' := [.int .i64 r4.1.From, .int .i64 r4.1.To]) sz_29 rfl rfl rfl rfl rfl (show _ ≤ _ by simp) rfl rfl ?_
      show TO _ _ _ _ _ _ _ _ _ _ [vec (encI (.i64)) 3 1 v1 r2.2, cells b1 [.int .i64 r4.1.From, .int .i64 r4.1.To] 29]
      refine TO.assign rfl dc rfl (TO.nil (TX.next (cut (TC.seq ?_))))
      refine TC.bySplit (b := (r4.2 : Int) != 0) (fun hb5 => ?_) (fun hb5 => ?_)
      ·
       have h := condT hb5 h
       refine TC.drawN 28 [(0, 43, .int .i64 r4.2), (1, 44, .bool true), (2, 45, .bool true), (3, 46, undef), (4, 47, undef), (5, 48, undef), (6, 49, undef), (7, 50, undef), (8, 51, undef), (9, 52, undef), (10, 53, undef), (11, 54, undef), (12, 55, undef), (13, 56, undef), (14, 57, undef), (15, 58, undef), (16, 59, .bool true), (17, 60, .bool true), (18, 61, undef), (19, 62, undef), (20, 63, undef), (21, 64, undef), (22, 65, undef), (23, 66, undef), (24, 67, undef), (25, 68, undef), (26, 69, undef), (27, 70, undef)] mixed kr kr dc (by rfl) kr kr (DrawPre.cons ?_ (DrawPre.cons ?_ (DrawPre.cons ?_ (DrawPre.cons ?_ (DrawPre.cons ?_ (DrawPre.cons ?_ (DrawPre.cons ?_ (DrawPre.cons ?_ (DrawPre.cons ?_ (DrawPre.cons ?_ (DrawPre.cons ?_ (DrawPre.cons ?_ (DrawPre.cons ?_ (DrawPre.cons ?_ (DrawPre.cons ?_ (DrawPre.cons ?_ (DrawPre.cons ?_ (DrawPre.cons ?_ (DrawPre.cons ?_ (DrawPre.cons ?_ (DrawPre.cons ?_ (DrawPre.cons ?_ (DrawPre.cons ?_ (DrawPre.cons ?_ (DrawPre.cons ?_ (DrawPre.cons ?_ (DrawPre.cons ?_ (DrawPre.cons ?_ DrawPre.nil)))))))))))))))))))))))))))) ?_
       ·
        intro D hn hd hcl hu hi
        refine TO.move rfl dc (dl_old (by rfl) rfl) ?_
        exact TX.quiet 0 hu hi rfl
       ·
        intro D hn hd hcl hu hi
        refine TO.bin rfl dc (dl_lookup (m := 0) hu rfl (hd 0 dc)) rfl bin_neq (TO.rewH (show Value.bool ((r4.2 : Int) != 0) = Value.bool true from congrArg Value.bool hb5) ?_)
        exact TX.quiet 1 hu hi rfl
       ·
        intro D hn hd hcl hu hi
        refine TO.move rfl dc (dl_lookup (m := 1) hu rfl (hd 1 dc)) ?_
        exact TX.quiet 2 hu hi rfl
       ·
        intro D hn hd hcl hu hi
        refine TO.skip (gd_F rfl (dl_lookup (m := 2) hu rfl (hd 2 dc))) dc ?_
        exact TX.quiet 3 hu hi rfl
       ·
        intro D hn hd hcl hu hi
        refine TO.skip (gd_F rfl (dl_lookup (m := 2) hu rfl (hd 2 dc))) dc ?_
        exact TX.quiet 4 hu hi rfl
       ·
        intro D hn hd hcl hu hi
        refine TO.skip (gd_F rfl (dl_lookup (m := 2) hu rfl (hd 2 dc))) dc ?_
        exact TX.quiet 5 hu hi rfl
       ·
        intro D hn hd hcl hu hi
        refine TO.skip (gd_F rfl (dl_lookup (m := 2) hu rfl (hd 2 dc))) dc ?_
        exact TX.quiet 6 hu hi rfl
       ·
        intro D hn hd hcl hu hi
        refine TO.skip (gd_U rfl (dl_lookup (m := 6) hu rfl (hd 6 dc))) dc ?_
        exact TX.quiet 7 hu hi rfl
       ·
        intro D hn hd hcl hu hi
        refine TO.skip (gd_U rfl (dl_lookup (m := 6) hu rfl (hd 6 dc))) dc ?_
        exact TX.quiet 8 hu hi rfl
       ·
        intro D hn hd hcl hu hi
        refine TO.skip (gd_U rfl (dl_lookup (m := 6) hu rfl (hd 6 dc))) dc ?_
        exact TX.quiet 9 hu hi rfl
       ·
        intro D hn hd hcl hu hi
        refine TO.skip (gd_U rfl (dl_lookup (m := 6) hu rfl (hd 6 dc))) dc ?_
        exact TX.quiet 10 hu hi rfl
       ·
        intro D hn hd hcl hu hi
        refine TO.skip (gd_U rfl (dl_lookup (m := 6) hu rfl (hd 6 dc))) dc ?_
        exact TX.quiet 11 hu hi rfl
       ·
        intro D hn hd hcl hu hi
        refine TO.skip (gd_U rfl (dl_lookup (m := 6) hu rfl (hd 6 dc))) dc ?_
        exact TX.quiet 12 hu hi rfl
       ·
        intro D hn hd hcl hu hi
        refine TO.skip (gd_U rfl (dl_lookup (m := 6) hu rfl (hd 6 dc))) dc ?_
        exact TX.quiet 13 hu hi rfl
       ·
        intro D hn hd hcl hu hi
        refine TO.skip (gd_U rfl (dl_lookup (m := 6) hu rfl (hd 6 dc))) dc ?_
        exact TX.quiet 14 hu hi rfl
       ·
        intro D hn hd hcl hu hi
        refine TO.skip (gd_F rfl (dl_lookup (m := 2) hu rfl (hd 2 dc))) dc ?_
        exact TX.quiet 15 hu hi rfl
       ·
        intro D hn hd hcl hu hi
        refine TO.pick (b := true) rfl dc (dl_lookup (m := 2) hu rfl (hd 2 dc)) rfl ?_
        exact TX.quiet 16 hu hi rfl
       ·
        intro D hn hd hcl hu hi
        refine TO.move rfl dc (dl_lookup (m := 16) hu rfl (hd 16 dc)) ?_
        exact TX.quiet 17 hu hi rfl
       ·
        intro D hn hd hcl hu hi
        refine TO.skip (gd_F rfl (dl_lookup (m := 17) hu rfl (hd 17 dc))) dc ?_
        exact TX.quiet 18 hu hi rfl
       ·
        intro D hn hd hcl hu hi
        refine TO.skip (gd_F rfl (dl_lookup (m := 17) hu rfl (hd 17 dc))) dc ?_
        exact TX.quiet 19 hu hi rfl
       ·
        intro D hn hd hcl hu hi
        refine TO.skip (gd_F rfl (dl_lookup (m := 17) hu rfl (hd 17 dc))) dc ?_
        exact TX.quiet 20 hu hi rfl
       ·
        intro D hn hd hcl hu hi
        refine TO.skip (gd_F rfl (dl_lookup (m := 17) hu rfl (hd 17 dc))) dc ?_
        exact TX.quiet 21 hu hi rfl
       ·
        intro D hn hd hcl hu hi
        refine TO.skip (gd_U rfl (dl_lookup (m := 21) hu rfl (hd 21 dc))) dc ?_
        exact TX.quiet 22 hu hi rfl
       ·
        intro D hn hd hcl hu hi
        refine TO.skip (gd_U rfl (dl_lookup (m := 21) hu rfl (hd 21 dc))) dc ?_
        exact TX.quiet 23 hu hi rfl
       ·
        intro D hn hd hcl hu hi
        refine TO.skip (gd_U rfl (dl_lookup (m := 21) hu rfl (hd 21 dc))) dc ?_
        exact TX.quiet 24 hu hi rfl
       ·
        intro D hn hd hcl hu hi
        refine TO.skip (gd_U rfl (dl_lookup (m := 21) hu rfl (hd 21 dc))) dc ?_
        exact TX.quiet 25 hu hi rfl
       ·
        intro D hn hd hcl hu hi
        refine TO.skip (gd_U rfl (dl_lookup (m := 21) hu rfl (hd 21 dc))) dc ?_
        exact TX.quiet 26 hu hi rfl
       ·
        intro D hn hd hcl hu hi
        refine TO.skip (gd_U rfl (dl_lookup (m := 21) hu rfl (hd 21 dc))) dc ?_
        exact TX.quiet 27 hu hi rfl
       refine TO.skip rfl dc (TO.skip rfl dc (TO.pick (b := true) rfl dc rfl rfl (TO.nil (TX.next (TC.condT rfl (TC.seq (TC.region (TO.assign rfl dc rfl (TO.nil (TX.next (TC.ret (TX.thenRet ?_))))))))))))
       cases h
       exact TX.fin (rs := [.tmp 2]) () (.inl rfl) Try.results9 (.cons (.tmp rfl) .nil) rfl Splits.nil
      ·
       have h := condF hb5 h
       refine TC.bySplit (b := decide ((0 : Int) < (r2.1.size : Int))) (fun hb6 => ?_) (fun hb6 => ?_)
       ·
        have h := condT hb6 h
        obtain ⟨q1, hq5, h⟩ := andE h
        refine TC.bySplit (b := !(eq_Gapi_Span r4.1 (⟨q1, (s2.size : Int)⟩ : Gapi_Span))) (fun hb7 => ?_) (fun hb7 => ?_)
        ·
         have h := condT hb7 h
         refine TC.drawN 28 [(0, 43, .int .i64 r4.2), (1, 44, .bool false), (2, 45, .bool false), (3, 46, .string r2.1), (4, 47, .int .i64 (r2.1.size : Int)), (5, 48, .bool true), (6, 49, .bool true), (7, 50, .agg #[.int .i64 r4.1.From, .int .i64 r4.1.To]), (8, 51, v1), (9, 52, .pointer (some ⟨vblk v1, (0 : Int).toNat * 1, none⟩)), (10, 53, .int .i64 q1), (11, 54, .string s2), (12, 55, .int .i64 (s2.size : Int)), (13, 56, .agg #[.int .i64 q1, .int .i64 (s2.size : Int)]), (14, 57, .bool true), (15, 58, .bool true), (16, 59, .bool true), (17, 60, .bool true), (18, 61, undef), (19, 62, undef), (20, 63, undef), (21, 64, undef), (22, 65, undef), (23, 66, undef), (24, 67, undef), (25, 68, undef), (26, 69, undef), (27, 70, undef)] mixed kr kr dc (by rfl) kr kr (DrawPre.cons ?_ (DrawPre.cons ?_ (DrawPre.cons ?_ (DrawPre.cons ?_ (DrawPre.cons ?_ (DrawPre.cons ?_ (DrawPre.cons ?_ (DrawPre.cons ?_ (DrawPre.cons ?_ (DrawPre.cons ?_ (DrawPre.cons ?_ (DrawPre.cons ?_ (DrawPre.cons ?_ (DrawPre.cons ?_ (DrawPre.cons ?_ (DrawPre.cons ?_ (DrawPre.cons ?_ (DrawPre.cons ?_ (DrawPre.cons ?_ (DrawPre.cons ?_ (DrawPre.cons ?_ (DrawPre.cons ?_ (DrawPre.cons ?_ (DrawPre.cons ?_ (DrawPre.cons ?_ (DrawPre.cons ?_ (DrawPre.cons ?_ (DrawPre.cons ?_ DrawPre.nil)))))))))))))))))))))))))))) ?_
         ·
          intro D hn hd hcl hu hi
          refine TO.move rfl dc (dl_old (by rfl) rfl) ?_
          exact TX.quiet 0 hu hi rfl
         ·
          intro D hn hd hcl hu hi
          refine TO.bin rfl dc (dl_lookup (m := 0) hu rfl (hd 0 dc)) rfl bin_neq (TO.rewH (show Value.bool ((r4.2 : Int) != 0) = Value.bool false from congrArg Value.bool hb5) ?_)
          exact TX.quiet 1 hu hi rfl
         ·
          intro D hn hd hcl hu hi
          refine TO.move rfl dc (dl_lookup (m := 1) hu rfl (hd 1 dc)) ?_
          exact TX.quiet 2 hu hi rfl
         ·
          intro D hn hd hcl hu hi
          refine TO.move (gd_T rfl (dl_lookup (m := 2) hu rfl (hd 2 dc))) dc (dl_old (by rfl) rfl) ?_
          exact TX.quiet 3 hu hi rfl
         ·
          intro D hn hd hcl hu hi
          refine TO.lenStr (gd_T rfl (dl_lookup (m := 2) hu rfl (hd 2 dc))) dc (dl_lookup (m := 3) hu rfl (hd 3 dc)) Try.underlying9 ?_
          exact TX.quiet 4 hu hi rfl
         ·
          intro D hn hd hcl hu hi
          refine TO.bin (gd_T rfl (dl_lookup (m := 2) hu rfl (hd 2 dc))) dc (dl_lookup (m := 4) hu rfl (hd 4 dc)) rfl bin_gtr (TO.rewH (show Value.bool (decide ((0 : Int) < (r2.1.size : Int))) = Value.bool true from congrArg Value.bool hb6) ?_)
          exact TX.quiet 5 hu hi rfl
         ·
          intro D hn hd hcl hu hi
          refine TO.move (gd_T rfl (dl_lookup (m := 2) hu rfl (hd 2 dc))) dc (dl_lookup (m := 5) hu rfl (hd 5 dc)) ?_
          exact TX.quiet 6 hu hi rfl
         ·
          intro D hn hd hcl hu hi
          refine TO.loads (k := 1) (cs := [.int .i64 r4.1.From, .int .i64 r4.1.To]) rw_29 (gd_T rfl (dl_lookup (m := 6) hu rfl (hd 6 dc))) dc (dl_old (by rfl) rfl) rfl rfl rfl ?_
          exact TX.quiet 7 hu hi rfl
         ·
          intro D hn hd hcl hu hi
          refine TO.move (gd_T rfl (dl_lookup (m := 6) hu rfl (hd 6 dc))) dc (dl_old (by rfl) rfl) ?_
          exact TX.quiet 8 hu hi rfl
         ·
          intro D hn hd hcl hu hi
          refine TO.indexVecI (k := 0) hq5 Try.underlying30 sz_3 (gd_T rfl (dl_lookup (m := 6) hu rfl (hd 6 dc))) dc (dl_lookup (m := 8) hu rfl (hd 8 dc)) rfl rfl rfl ?_
          exact TX.quiet 9 hu hi rfl
         ·
          intro D hn hd hcl hu hi
          refine TO.loadVec (i := (0 : Int).toNat) (j := 0) (k := 0) (q := q1) sc_3 encI_len (gd_T rfl (dl_lookup (m := 6) hu rfl (hd 6 dc))) dc (dl_lookup (m := 9) hu rfl (hd 9 dc)) rfl (getO_get hq5) rfl dc rfl ?_
          exact TX.quiet 10 hu hi rfl
         ·
          intro D hn hd hcl hu hi
          refine TO.move (gd_T rfl (dl_lookup (m := 6) hu rfl (hd 6 dc))) dc (dl_old (by rfl) rfl) ?_
          exact TX.quiet 11 hu hi rfl
         ·
          intro D hn hd hcl hu hi
          refine TO.lenStr (gd_T rfl (dl_lookup (m := 6) hu rfl (hd 6 dc))) dc (dl_lookup (m := 11) hu rfl (hd 11 dc)) Try.underlying9 ?_
          exact TX.quiet 12 hu hi rfl
         ·
          intro D hn hd hcl hu hi
          refine TO.build (v := .agg #[.int .i64 q1, .int .i64 (s2.size : Int)]) (ps := [(0, .tmp 53), (1, .tmp 55)]) (gd_T rfl (dl_lookup (m := 6) hu rfl (hd 6 dc))) dc (evP.cons (dl_lookup (m := 10) hu rfl (hd 10 dc)) (evP.cons (dl_lookup (m := 12) hu rfl (hd 12 dc)) evP.nil)) (fun _ => by kernel_rfl) ?_
          exact TX.quiet 13 hu hi rfl
         ·
          intro D hn hd hcl hu hi
          refine TO.bin (gd_T rfl (dl_lookup (m := 6) hu rfl (hd 6 dc))) dc (dl_lookup (m := 7) hu rfl (hd 7 dc)) (dl_lookup (m := 13) hu rfl (hd 13 dc)) (bin_neq_29 r4.1 (⟨q1, (s2.size : Int)⟩ : Gapi_Span)) (TO.rewH (show Value.bool (!(eq_Gapi_Span r4.1 (⟨q1, (s2.size : Int)⟩ : Gapi_Span))) = Value.bool true from congrArg Value.bool hb7) ?_)
          exact TX.quiet 14 hu hi rfl
         ·
          intro D hn hd hcl hu hi
          refine TO.pick (b := true) (gd_T rfl (dl_lookup (m := 2) hu rfl (hd 2 dc))) dc (dl_lookup (m := 6) hu rfl (hd 6 dc)) (dl_lookup (m := 14) hu rfl (hd 14 dc)) ?_
          exact TX.quiet 15 hu hi rfl
         ·
          intro D hn hd hcl hu hi
          refine TO.pick (b := false) rfl dc (dl_lookup (m := 2) hu rfl (hd 2 dc)) (dl_lookup (m := 15) hu rfl (hd 15 dc)) ?_
          exact TX.quiet 16 hu hi rfl
         ·
          intro D hn hd hcl hu hi
          refine TO.move rfl dc (dl_lookup (m := 16) hu rfl (hd 16 dc)) ?_
          exact TX.quiet 17 hu hi rfl
         ·
          intro D hn hd hcl hu hi
          refine TO.skip (gd_F rfl (dl_lookup (m := 17) hu rfl (hd 17 dc))) dc ?_
          exact TX.quiet 18 hu hi rfl
         ·
          intro D hn hd hcl hu hi
          refine TO.skip (gd_F rfl (dl_lookup (m := 17) hu rfl (hd 17 dc))) dc ?_
          exact TX.quiet 19 hu hi rfl
         ·
          intro D hn hd hcl hu hi
          refine TO.skip (gd_F rfl (dl_lookup (m := 17) hu rfl (hd 17 dc))) dc ?_
          exact TX.quiet 20 hu hi rfl
         ·
          intro D hn hd hcl hu hi
          refine TO.skip (gd_F rfl (dl_lookup (m := 17) hu rfl (hd 17 dc))) dc ?_
          exact TX.quiet 21 hu hi rfl
         ·
          intro D hn hd hcl hu hi
          refine TO.skip (gd_U rfl (dl_lookup (m := 21) hu rfl (hd 21 dc))) dc ?_
          exact TX.quiet 22 hu hi rfl
         ·
          intro D hn hd hcl hu hi
          refine TO.skip (gd_U rfl (dl_lookup (m := 21) hu rfl (hd 21 dc))) dc ?_
          exact TX.quiet 23 hu hi rfl
         ·
          intro D hn hd hcl hu hi
          refine TO.skip (gd_U rfl (dl_lookup (m := 21) hu rfl (hd 21 dc))) dc ?_
          exact TX.quiet 24 hu hi rfl
         ·
          intro D hn hd hcl hu hi
          refine TO.skip (gd_U rfl (dl_lookup (m := 21) hu rfl (hd 21 dc))) dc ?_
          exact TX.quiet 25 hu hi rfl
         ·
          intro D hn hd hcl hu hi
          refine TO.skip (gd_U rfl (dl_lookup (m := 21) hu rfl (hd 21 dc))) dc ?_
          exact TX.quiet 26 hu hi rfl
         ·
          intro D hn hd hcl hu hi
          refine TO.skip (gd_U rfl (dl_lookup (m := 21) hu rfl (hd 21 dc))) dc ?_
          exact TX.quiet 27 hu hi rfl
         refine TO.skip rfl dc (TO.skip rfl dc (TO.pick (b := true) rfl dc rfl rfl (TO.nil (TX.next (TC.condT rfl (TC.seq (TC.region (TO.assign rfl dc rfl (TO.nil (TX.next (TC.ret (TX.thenRet ?_))))))))))))
         cases h
         exact TX.fin (rs := [.tmp 2]) () (.inl rfl) Try.results9 (.cons (.tmp rfl) .nil) rfl Splits.nil
        ·
         have h := condF hb7 h
         refine TC.bySplit (b := ((r2.1.size : Int) : Int) == 0) (fun hb8 => ?_) (fun hb8 => ?_)
         ·
          have h := condT hb8 h
          refine TC.drawN 28 [(0, 43, .int .i64 r4.2), (1, 44, .bool false), (2, 45, .bool false), (3, 46, .string r2.1), (4, 47, .int .i64 (r2.1.size : Int)), (5, 48, .bool true), (6, 49, .bool true), (7, 50, .agg #[.int .i64 r4.1.From, .int .i64 r4.1.To]), (8, 51, v1), (9, 52, .pointer (some ⟨vblk v1, (0 : Int).toNat * 1, none⟩)), (10, 53, .int .i64 q1), (11, 54, .string s2), (12, 55, .int .i64 (s2.size : Int)), (13, 56, .agg #[.int .i64 q1, .int .i64 (s2.size : Int)]), (14, 57, .bool false), (15, 58, .bool false), (16, 59, .bool false), (17, 60, .bool false), (18, 61, .string r2.1), (19, 62, .int .i64 (r2.1.size : Int)), (20, 63, .bool true), (21, 64, .bool true), (22, 65, .agg #[.int .i64 r4.1.From, .int .i64 r4.1.To]), (23, 66, .string s2), (24, 67, .int .i64 (s2.size : Int)), (25, 68, .string s2), (26, 69, .int .i64 (s2.size : Int)), (27, 70, .agg #[.int .i64 (s2.size : Int), .int .i64 (s2.size : Int)])] mixed kr kr dc (by rfl) kr kr (DrawPre.cons ?_ (DrawPre.cons ?_ (DrawPre.cons ?_ (DrawPre.cons ?_ (DrawPre.cons ?_ (DrawPre.cons ?_ (DrawPre.cons ?_ (DrawPre.cons ?_ (DrawPre.cons ?_ (DrawPre.cons ?_ (DrawPre.cons ?_ (DrawPre.cons ?_ (DrawPre.cons ?_ (DrawPre.cons ?_ (DrawPre.cons ?_ (DrawPre.cons ?_ (DrawPre.cons ?_ (DrawPre.cons ?_ (DrawPre.cons ?_ (DrawPre.cons ?_ (DrawPre.cons ?_ (DrawPre.cons ?_ (DrawPre.cons ?_ (DrawPre.cons ?_ (DrawPre.cons ?_ (DrawPre.cons ?_ (DrawPre.cons ?_ (DrawPre.cons ?_ DrawPre.nil)))))))))))))))))))))))))))) ?_
          ·
           intro D hn hd hcl hu hi
           refine TO.move rfl dc (dl_old (by rfl) rfl) ?_
           exact TX.quiet 0 hu hi rfl
          ·
           intro D hn hd hcl hu hi
           refine TO.bin rfl dc (dl_lookup (m := 0) hu rfl (hd 0 dc)) rfl bin_neq (TO.rewH (show Value.bool ((r4.2 : Int) != 0) = Value.bool false from congrArg Value.bool hb5) ?_)
           exact TX.quiet 1 hu hi rfl
          ·
           intro D hn hd hcl hu hi
           refine TO.move rfl dc (dl_lookup (m := 1) hu rfl (hd 1 dc)) ?_
           exact TX.quiet 2 hu hi rfl
          ·
           intro D hn hd hcl hu hi
           refine TO.move (gd_T rfl (dl_lookup (m := 2) hu rfl (hd 2 dc))) dc (dl_old (by rfl) rfl) ?_
           exact TX.quiet 3 hu hi rfl
          ·
           intro D hn hd hcl hu hi
           refine TO.lenStr (gd_T rfl (dl_lookup (m := 2) hu rfl (hd 2 dc))) dc (dl_lookup (m := 3) hu rfl (hd 3 dc)) Try.underlying9 ?_
           exact TX.quiet 4 hu hi rfl
          ·
           intro D hn hd hcl hu hi
           refine TO.bin (gd_T rfl (dl_lookup (m := 2) hu rfl (hd 2 dc))) dc (dl_lookup (m := 4) hu rfl (hd 4 dc)) rfl bin_gtr (TO.rewH (show Value.bool (decide ((0 : Int) < (r2.1.size : Int))) = Value.bool true from congrArg Value.bool hb6) ?_)
           exact TX.quiet 5 hu hi rfl
          ·
           intro D hn hd hcl hu hi
           refine TO.move (gd_T rfl (dl_lookup (m := 2) hu rfl (hd 2 dc))) dc (dl_lookup (m := 5) hu rfl (hd 5 dc)) ?_
           exact TX.quiet 6 hu hi rfl
          ·
           intro D hn hd hcl hu hi
           refine TO.loads (k := 1) (cs := [.int .i64 r4.1.From, .int .i64 r4.1.To]) rw_29 (gd_T rfl (dl_lookup (m := 6) hu rfl (hd 6 dc))) dc (dl_old (by rfl) rfl) rfl rfl rfl ?_
           exact TX.quiet 7 hu hi rfl
          ·
           intro D hn hd hcl hu hi
           refine TO.move (gd_T rfl (dl_lookup (m := 6) hu rfl (hd 6 dc))) dc (dl_old (by rfl) rfl) ?_
           exact TX.quiet 8 hu hi rfl
          ·
           intro D hn hd hcl hu hi
           refine TO.indexVecI (k := 0) hq5 Try.underlying30 sz_3 (gd_T rfl (dl_lookup (m := 6) hu rfl (hd 6 dc))) dc (dl_lookup (m := 8) hu rfl (hd 8 dc)) rfl rfl rfl ?_
           exact TX.quiet 9 hu hi rfl
          ·
           intro D hn hd hcl hu hi
           refine TO.loadVec (i := (0 : Int).toNat) (j := 0) (k := 0) (q := q1) sc_3 encI_len (gd_T rfl (dl_lookup (m := 6) hu rfl (hd 6 dc))) dc (dl_lookup (m := 9) hu rfl (hd 9 dc)) rfl (getO_get hq5) rfl dc rfl ?_
           exact TX.quiet 10 hu hi rfl
          ·
           intro D hn hd hcl hu hi
           refine TO.move (gd_T rfl (dl_lookup (m := 6) hu rfl (hd 6 dc))) dc (dl_old (by rfl) rfl) ?_
           exact TX.quiet 11 hu hi rfl
          ·
           intro D hn hd hcl hu hi
           refine TO.lenStr (gd_T rfl (dl_lookup (m := 6) hu rfl (hd 6 dc))) dc (dl_lookup (m := 11) hu rfl (hd 11 dc)) Try.underlying9 ?_
           exact TX.quiet 12 hu hi rfl
          ·
           intro D hn hd hcl hu hi
           refine TO.build (v := .agg #[.int .i64 q1, .int .i64 (s2.size : Int)]) (ps := [(0, .tmp 53), (1, .tmp 55)]) (gd_T rfl (dl_lookup (m := 6) hu rfl (hd 6 dc))) dc (evP.cons (dl_lookup (m := 10) hu rfl (hd 10 dc)) (evP.cons (dl_lookup (m := 12) hu rfl (hd 12 dc)) evP.nil)) (fun _ => by kernel_rfl) ?_
           exact TX.quiet 13 hu hi rfl
          ·
           intro D hn hd hcl hu hi
           refine TO.bin (gd_T rfl (dl_lookup (m := 6) hu rfl (hd 6 dc))) dc (dl_lookup (m := 7) hu rfl (hd 7 dc)) (dl_lookup (m := 13) hu rfl (hd 13 dc)) (bin_neq_29 r4.1 (⟨q1, (s2.size : Int)⟩ : Gapi_Span)) (TO.rewH (show Value.bool (!(eq_Gapi_Span r4.1 (⟨q1, (s2.size : Int)⟩ : Gapi_Span))) = Value.bool false from congrArg Value.bool hb7) ?_)
           exact TX.quiet 14 hu hi rfl
          ·
           intro D hn hd hcl hu hi
           refine TO.pick (b := true) (gd_T rfl (dl_lookup (m := 2) hu rfl (hd 2 dc))) dc (dl_lookup (m := 6) hu rfl (hd 6 dc)) (dl_lookup (m := 14) hu rfl (hd 14 dc)) ?_
           exact TX.quiet 15 hu hi rfl
          ·
           intro D hn hd hcl hu hi
           refine TO.pick (b := false) rfl dc (dl_lookup (m := 2) hu rfl (hd 2 dc)) (dl_lookup (m := 15) hu rfl (hd 15 dc)) ?_
           exact TX.quiet 16 hu hi rfl
          ·
           intro D hn hd hcl hu hi
           refine TO.move rfl dc (dl_lookup (m := 16) hu rfl (hd 16 dc)) ?_
           exact TX.quiet 17 hu hi rfl
          ·
           intro D hn hd hcl hu hi
           refine TO.move (gd_T rfl (dl_lookup (m := 17) hu rfl (hd 17 dc))) dc (dl_old (by rfl) rfl) ?_
           exact TX.quiet 18 hu hi rfl
          ·
           intro D hn hd hcl hu hi
           refine TO.lenStr (gd_T rfl (dl_lookup (m := 17) hu rfl (hd 17 dc))) dc (dl_lookup (m := 18) hu rfl (hd 18 dc)) Try.underlying9 ?_
           exact TX.quiet 19 hu hi rfl
          ·
           intro D hn hd hcl hu hi
           refine TO.bin (gd_T rfl (dl_lookup (m := 17) hu rfl (hd 17 dc))) dc (dl_lookup (m := 19) hu rfl (hd 19 dc)) rfl bin_eql (TO.rewH (show Value.bool (((r2.1.size : Int) : Int) == 0) = Value.bool true from congrArg Value.bool hb8) ?_)
           exact TX.quiet 20 hu hi rfl
          ·
           intro D hn hd hcl hu hi
           refine TO.move (gd_T rfl (dl_lookup (m := 17) hu rfl (hd 17 dc))) dc (dl_lookup (m := 20) hu rfl (hd 20 dc)) ?_
           exact TX.quiet 21 hu hi rfl
          ·
           intro D hn hd hcl hu hi
           refine TO.loads (k := 1) (cs := [.int .i64 r4.1.From, .int .i64 r4.1.To]) rw_29 (gd_T rfl (dl_lookup (m := 21) hu rfl (hd 21 dc))) dc (dl_old (by rfl) rfl) rfl rfl rfl ?_
           exact TX.quiet 22 hu hi rfl
          ·
           intro D hn hd hcl hu hi
           refine TO.move (gd_T rfl (dl_lookup (m := 21) hu rfl (hd 21 dc))) dc (dl_old (by rfl) rfl) ?_
           exact TX.quiet 23 hu hi rfl
          ·
           intro D hn hd hcl hu hi
           refine TO.lenStr (gd_T rfl (dl_lookup (m := 21) hu rfl (hd 21 dc))) dc (dl_lookup (m := 23) hu rfl (hd 23 dc)) Try.underlying9 ?_
           exact TX.quiet 24 hu hi rfl
          ·
           intro D hn hd hcl hu hi
           refine TO.move (gd_T rfl (dl_lookup (m := 21) hu rfl (hd 21 dc))) dc (dl_old (by rfl) rfl) ?_
           exact TX.quiet 25 hu hi rfl
          ·
           intro D hn hd hcl hu hi
           refine TO.lenStr (gd_T rfl (dl_lookup (m := 21) hu rfl (hd 21 dc))) dc (dl_lookup (m := 25) hu rfl (hd 25 dc)) Try.underlying9 ?_
           exact TX.quiet 26 hu hi rfl
          ·
           intro D hn hd hcl hu hi
           refine TO.build (v := .agg #[.int .i64 (s2.size : Int), .int .i64 (s2.size : Int)]) (ps := [(0, .tmp 67), (1, .tmp 69)]) (gd_T rfl (dl_lookup (m := 21) hu rfl (hd 21 dc))) dc (evP.cons (dl_lookup (m := 24) hu rfl (hd 24 dc)) (evP.cons (dl_lookup (m := 26) hu rfl (hd 26 dc)) evP.nil)) (fun _ => by kernel_rfl) ?_
           exact TX.quiet 27 hu hi rfl
          refine TO.bin rfl dc rfl rfl (bin_neq_29 r4.1 (⟨(s2.size : Int), (s2.size : Int)⟩ : Gapi_Span)) (TO.pick (b := true) rfl dc rfl rfl (TO.pick (b := false) rfl dc rfl rfl (TO.nil (TX.next ?_))))
          refine TC.condB rfl (fun hb9 => ?_) (fun hb9 => ?_)
          ·
           have h := condT hb9 h
           refine TC.seq (TC.region (TO.assign rfl dc rfl (TO.nil (TX.next (TC.ret (TX.thenRet ?_))))))
           cases h
           exact TX.fin (rs := [.tmp 2]) () (.inl rfl) Try.results9 (.cons (.tmp rfl) .nil) rfl Splits.nil
          ·
           have h := condF hb9 h
           refine TC.skip ?_
           exact TX.meetD () h rfl (Sbs.cons rfl (Sbs.cons rfl (Sbs.cons rfl (Sbs.nil)))) (Splits.of [0] kr rfl)
         ·
          have h := condF hb8 h
          refine TC.drawN 28 [(0, 43, .int .i64 r4.2), (1, 44, .bool false), (2, 45, .bool false), (3, 46, .string r2.1), (4, 47, .int .i64 (r2.1.size : Int)), (5, 48, .bool true), (6, 49, .bool true), (7, 50, .agg #[.int .i64 r4.1.From, .int .i64 r4.1.To]), (8, 51, v1), (9, 52, .pointer (some ⟨vblk v1, (0 : Int).toNat * 1, none⟩)), (10, 53, .int .i64 q1), (11, 54, .string s2), (12, 55, .int .i64 (s2.size : Int)), (13, 56, .agg #[.int .i64 q1, .int .i64 (s2.size : Int)]), (14, 57, .bool false), (15, 58, .bool false), (16, 59, .bool false), (17, 60, .bool false), (18, 61, .string r2.1), (19, 62, .int .i64 (r2.1.size : Int)), (20, 63, .bool false), (21, 64, .bool false), (22, 65, undef), (23, 66, undef), (24, 67, undef), (25, 68, undef), (26, 69, undef), (27, 70, undef)] mixed kr kr dc (by rfl) kr kr (DrawPre.cons ?_ (DrawPre.cons ?_ (DrawPre.cons ?_ (DrawPre.cons ?_ (DrawPre.cons ?_ (DrawPre.cons ?_ (DrawPre.cons ?_ (DrawPre.cons ?_ (DrawPre.cons ?_ (DrawPre.cons ?_ (DrawPre.cons ?_ (DrawPre.cons ?_ (DrawPre.cons ?_ (DrawPre.cons ?_ (DrawPre.cons ?_ (DrawPre.cons ?_ (DrawPre.cons ?_ (DrawPre.cons ?_ (DrawPre.cons ?_ (DrawPre.cons ?_ (DrawPre.cons ?_ (DrawPre.cons ?_ (DrawPre.cons ?_ (DrawPre.cons ?_ (DrawPre.cons ?_ (DrawPre.cons ?_ (DrawPre.cons ?_ (DrawPre.cons ?_ DrawPre.nil)))))))))))))))))))))))))))) ?_
          ·
           intro D hn hd hcl hu hi
           refine TO.move rfl dc (dl_old (by rfl) rfl) ?_
           exact TX.quiet 0 hu hi rfl
          ·
           intro D hn hd hcl hu hi
           refine TO.bin rfl dc (dl_lookup (m := 0) hu rfl (hd 0 dc)) rfl bin_neq (TO.rewH (show Value.bool ((r4.2 : Int) != 0) = Value.bool false from congrArg Value.bool hb5) ?_)
           exact TX.quiet 1 hu hi rfl
          ·
           intro D hn hd hcl hu hi
           refine TO.move rfl dc (dl_lookup (m := 1) hu rfl (hd 1 dc)) ?_
           exact TX.quiet 2 hu hi rfl
          ·
           intro D hn hd hcl hu hi
           refine TO.move (gd_T rfl (dl_lookup (m := 2) hu rfl (hd 2 dc))) dc (dl_old (by rfl) rfl) ?_
           exact TX.quiet 3 hu hi rfl
          ·
           intro D hn hd hcl hu hi
           refine TO.lenStr (gd_T rfl (dl_lookup (m := 2) hu rfl (hd 2 dc))) dc (dl_lookup (m := 3) hu rfl (hd 3 dc)) Try.underlying9 ?_
           exact TX.quiet 4 hu hi rfl
          ·
           intro D hn hd hcl hu hi
           refine TO.bin (gd_T rfl (dl_lookup (m := 2) hu rfl (hd 2 dc))) dc (dl_lookup (m := 4) hu rfl (hd 4 dc)) rfl bin_gtr (TO.rewH (show Value.bool (decide ((0 : Int) < (r2.1.size : Int))) = Value.bool true from congrArg Value.bool hb6) ?_)
           exact TX.quiet 5 hu hi rfl
          ·
           intro D hn hd hcl hu hi
           refine TO.move (gd_T rfl (dl_lookup (m := 2) hu rfl (hd 2 dc))) dc (dl_lookup (m := 5) hu rfl (hd 5 dc)) ?_
           exact TX.quiet 6 hu hi rfl
          ·
           intro D hn hd hcl hu hi
           refine TO.loads (k := 1) (cs := [.int .i64 r4.1.From, .int .i64 r4.1.To]) rw_29 (gd_T rfl (dl_lookup (m := 6) hu rfl (hd 6 dc))) dc (dl_old (by rfl) rfl) rfl rfl rfl ?_
           exact TX.quiet 7 hu hi rfl
          ·
           intro D hn hd hcl hu hi
           refine TO.move (gd_T rfl (dl_lookup (m := 6) hu rfl (hd 6 dc))) dc (dl_old (by rfl) rfl) ?_
           exact TX.quiet 8 hu hi rfl
          ·
           intro D hn hd hcl hu hi
           refine TO.indexVecI (k := 0) hq5 Try.underlying30 sz_3 (gd_T rfl (dl_lookup (m := 6) hu rfl (hd 6 dc))) dc (dl_lookup (m := 8) hu rfl (hd 8 dc)) rfl rfl rfl ?_
           exact TX.quiet 9 hu hi rfl
          ·
           intro D hn hd hcl hu hi
           refine TO.loadVec (i := (0 : Int).toNat) (j := 0) (k := 0) (q := q1) sc_3 encI_len (gd_T rfl (dl_lookup (m := 6) hu rfl (hd 6 dc))) dc (dl_lookup (m := 9) hu rfl (hd 9 dc)) rfl (getO_get hq5) rfl dc rfl ?_
           exact TX.quiet 10 hu hi rfl
          ·
           intro D hn hd hcl hu hi
           refine TO.move (gd_T rfl (dl_lookup (m := 6) hu rfl (hd 6 dc))) dc (dl_old (by rfl) rfl) ?_
           exact TX.quiet 11 hu hi rfl
          ·
           intro D hn hd hcl hu hi
           refine TO.lenStr (gd_T rfl (dl_lookup (m := 6) hu rfl (hd 6 dc))) dc (dl_lookup (m := 11) hu rfl (hd 11 dc)) Try.underlying9 ?_
           exact TX.quiet 12 hu hi rfl
          ·
           intro D hn hd hcl hu hi
           refine TO.build (v := .agg #[.int .i64 q1, .int .i64 (s2.size : Int)]) (ps := [(0, .tmp 53), (1, .tmp 55)]) (gd_T rfl (dl_lookup (m := 6) hu rfl (hd 6 dc))) dc (evP.cons (dl_lookup (m := 10) hu rfl (hd 10 dc)) (evP.cons (dl_lookup (m := 12) hu rfl (hd 12 dc)) evP.nil)) (fun _ => by kernel_rfl) ?_
           exact TX.quiet 13 hu hi rfl
          ·
           intro D hn hd hcl hu hi
           refine TO.bin (gd_T rfl (dl_lookup (m := 6) hu rfl (hd 6 dc))) dc (dl_lookup (m := 7) hu rfl (hd 7 dc)) (dl_lookup (m := 13) hu rfl (hd 13 dc)) (bin_neq_29 r4.1 (⟨q1, (s2.size : Int)⟩ : Gapi_Span)) (TO.rewH (show Value.bool (!(eq_Gapi_Span r4.1 (⟨q1, (s2.size : Int)⟩ : Gapi_Span))) = Value.bool false from congrArg Value.bool hb7) ?_)
           exact TX.quiet 14 hu hi rfl
          ·
           intro D hn hd hcl hu hi
           refine TO.pick (b := true) (gd_T rfl (dl_lookup (m := 2) hu rfl (hd 2 dc))) dc (dl_lookup (m := 6) hu rfl (hd 6 dc)) (dl_lookup (m := 14) hu rfl (hd 14 dc)) ?_
           exact TX.quiet 15 hu hi rfl
          ·
           intro D hn hd hcl hu hi
           refine TO.pick (b := false) rfl dc (dl_lookup (m := 2) hu rfl (hd 2 dc)) (dl_lookup (m := 15) hu rfl (hd 15 dc)) ?_
           exact TX.quiet 16 hu hi rfl
          ·
           intro D hn hd hcl hu hi
           refine TO.move rfl dc (dl_lookup (m := 16) hu rfl (hd 16 dc)) ?_
           exact TX.quiet 17 hu hi rfl
          ·
           intro D hn hd hcl hu hi
           refine TO.move (gd_T rfl (dl_lookup (m := 17) hu rfl (hd 17 dc))) dc (dl_old (by rfl) rfl) ?_
           exact TX.quiet 18 hu hi rfl
          ·
           intro D hn hd hcl hu hi
           refine TO.lenStr (gd_T rfl (dl_lookup (m := 17) hu rfl (hd 17 dc))) dc (dl_lookup (m := 18) hu rfl (hd 18 dc)) Try.underlying9 ?_
           exact TX.quiet 19 hu hi rfl
          ·
           intro D hn hd hcl hu hi
           refine TO.bin (gd_T rfl (dl_lookup (m := 17) hu rfl (hd 17 dc))) dc (dl_lookup (m := 19) hu rfl (hd 19 dc)) rfl bin_eql (TO.rewH (show Value.bool (((r2.1.size : Int) : Int) == 0) = Value.bool false from congrArg Value.bool hb8) ?_)
           exact TX.quiet 20 hu hi rfl
          ·
           intro D hn hd hcl hu hi
           refine TO.move (gd_T rfl (dl_lookup (m := 17) hu rfl (hd 17 dc))) dc (dl_lookup (m := 20) hu rfl (hd 20 dc)) ?_
           exact TX.quiet 21 hu hi rfl
          ·
           intro D hn hd hcl hu hi
           refine TO.skip (gd_F rfl (dl_lookup (m := 21) hu rfl (hd 21 dc))) dc ?_
           exact TX.quiet 22 hu hi rfl
          ·
           intro D hn hd hcl hu hi
           refine TO.skip (gd_F rfl (dl_lookup (m := 21) hu rfl (hd 21 dc))) dc ?_
           exact TX.quiet 23 hu hi rfl
          ·
           intro D hn hd hcl hu hi
           refine TO.skip (gd_F rfl (dl_lookup (m := 21) hu rfl (hd 21 dc))) dc ?_
           exact TX.quiet 24 hu hi rfl
          ·
           intro D hn hd hcl hu hi
           refine TO.skip (gd_F rfl (dl_lookup (m := 21) hu rfl (hd 21 dc))) dc ?_
           exact TX.quiet 25 hu hi rfl
          ·
           intro D hn hd hcl hu hi
           refine TO.skip (gd_F rfl (dl_lookup (m := 21) hu rfl (hd 21 dc))) dc ?_
           exact TX.quiet 26 hu hi rfl
          ·
           intro D hn hd hcl hu hi
           refine TO.skip (gd_F rfl (dl_lookup (m := 21) hu rfl (hd 21 dc))) dc ?_
           exact TX.quiet 27 hu hi rfl
          refine TO.skip rfl dc (TO.pick (b := false) rfl dc rfl rfl (TO.pick (b := false) rfl dc rfl rfl (TO.nil (TX.next (TC.condF rfl (TC.skip ?_))))))
          exact TX.meetD () h rfl (Sbs.cons rfl (Sbs.cons rfl (Sbs.cons rfl (Sbs.nil)))) (Splits.of [0] kr rfl)
       ·
        have h := condF hb6 h
        refine TC.bySplit (b := ((r2.1.size : Int) : Int) == 0) (fun hb10 => ?_) (fun hb10 => ?_)
        ·
         have h := condT hb10 h
         refine TC.drawN 28 [(0, 43, .int .i64 r4.2), (1, 44, .bool false), (2, 45, .bool false), (3, 46, .string r2.1), (4, 47, .int .i64 (r2.1.size : Int)), (5, 48, .bool false), (6, 49, .bool false), (7, 50, undef), (8, 51, undef), (9, 52, undef), (10, 53, undef), (11, 54, undef), (12, 55, undef), (13, 56, undef), (14, 57, undef), (15, 58, .bool false), (16, 59, .bool false), (17, 60, .bool false), (18, 61, .string r2.1), (19, 62, .int .i64 (r2.1.size : Int)), (20, 63, .bool true), (21, 64, .bool true), (22, 65, .agg #[.int .i64 r4.1.From, .int .i64 r4.1.To]), (23, 66, .string s2), (24, 67, .int .i64 (s2.size : Int)), (25, 68, .string s2), (26, 69, .int .i64 (s2.size : Int)), (27, 70, .agg #[.int .i64 (s2.size : Int), .int .i64 (s2.size : Int)])] mixed kr kr dc (by rfl) kr kr (DrawPre.cons ?_ (DrawPre.cons ?_ (DrawPre.cons ?_ (DrawPre.cons ?_ (DrawPre.cons ?_ (DrawPre.cons ?_ (DrawPre.cons ?_ (DrawPre.cons ?_ (DrawPre.cons ?_ (DrawPre.cons ?_ (DrawPre.cons ?_ (DrawPre.cons ?_ (DrawPre.cons ?_ (DrawPre.cons ?_ (DrawPre.cons ?_ (DrawPre.cons ?_ (DrawPre.cons ?_ (DrawPre.cons ?_ (DrawPre.cons ?_ (DrawPre.cons ?_ (DrawPre.cons ?_ (DrawPre.cons ?_ (DrawPre.cons ?_ (DrawPre.cons ?_ (DrawPre.cons ?_ (DrawPre.cons ?_ (DrawPre.cons ?_ (DrawPre.cons ?_ DrawPre.nil)))))))))))))))))))))))))))) ?_
         ·
          intro D hn hd hcl hu hi
          refine TO.move rfl dc (dl_old (by rfl) rfl) ?_
          exact TX.quiet 0 hu hi rfl
         ·
          intro D hn hd hcl hu hi
          refine TO.bin rfl dc (dl_lookup (m := 0) hu rfl (hd 0 dc)) rfl bin_neq (TO.rewH (show Value.bool ((r4.2 : Int) != 0) = Value.bool false from congrArg Value.bool hb5) ?_)
          exact TX.quiet 1 hu hi rfl
         ·
          intro D hn hd hcl hu hi
          refine TO.move rfl dc (dl_lookup (m := 1) hu rfl (hd 1 dc)) ?_
          exact TX.quiet 2 hu hi rfl
         ·
          intro D hn hd hcl hu hi
          refine TO.move (gd_T rfl (dl_lookup (m := 2) hu rfl (hd 2 dc))) dc (dl_old (by rfl) rfl) ?_
          exact TX.quiet 3 hu hi rfl
         ·
          intro D hn hd hcl hu hi
          refine TO.lenStr (gd_T rfl (dl_lookup (m := 2) hu rfl (hd 2 dc))) dc (dl_lookup (m := 3) hu rfl (hd 3 dc)) Try.underlying9 ?_
          exact TX.quiet 4 hu hi rfl
         ·
          intro D hn hd hcl hu hi
          refine TO.bin (gd_T rfl (dl_lookup (m := 2) hu rfl (hd 2 dc))) dc (dl_lookup (m := 4) hu rfl (hd 4 dc)) rfl bin_gtr (TO.rewH (show Value.bool (decide ((0 : Int) < (r2.1.size : Int))) = Value.bool false from congrArg Value.bool hb6) ?_)
          exact TX.quiet 5 hu hi rfl
         ·
          intro D hn hd hcl hu hi
          refine TO.move (gd_T rfl (dl_lookup (m := 2) hu rfl (hd 2 dc))) dc (dl_lookup (m := 5) hu rfl (hd 5 dc)) ?_
          exact TX.quiet 6 hu hi rfl
         ·
          intro D hn hd hcl hu hi
          refine TO.skip (gd_F rfl (dl_lookup (m := 6) hu rfl (hd 6 dc))) dc ?_
          exact TX.quiet 7 hu hi rfl
         ·
          intro D hn hd hcl hu hi
          refine TO.skip (gd_F rfl (dl_lookup (m := 6) hu rfl (hd 6 dc))) dc ?_
          exact TX.quiet 8 hu hi rfl
         ·
          intro D hn hd hcl hu hi
          refine TO.skip (gd_F rfl (dl_lookup (m := 6) hu rfl (hd 6 dc))) dc ?_
          exact TX.quiet 9 hu hi rfl
         ·
          intro D hn hd hcl hu hi
          refine TO.skip (gd_F rfl (dl_lookup (m := 6) hu rfl (hd 6 dc))) dc ?_
          exact TX.quiet 10 hu hi rfl
         ·
          intro D hn hd hcl hu hi
          refine TO.skip (gd_F rfl (dl_lookup (m := 6) hu rfl (hd 6 dc))) dc ?_
          exact TX.quiet 11 hu hi rfl
         ·
          intro D hn hd hcl hu hi
          refine TO.skip (gd_F rfl (dl_lookup (m := 6) hu rfl (hd 6 dc))) dc ?_
          exact TX.quiet 12 hu hi rfl
         ·
          intro D hn hd hcl hu hi
          refine TO.skip (gd_F rfl (dl_lookup (m := 6) hu rfl (hd 6 dc))) dc ?_
          exact TX.quiet 13 hu hi rfl
         ·
          intro D hn hd hcl hu hi
          refine TO.skip (gd_F rfl (dl_lookup (m := 6) hu rfl (hd 6 dc))) dc ?_
          exact TX.quiet 14 hu hi rfl
         ·
          intro D hn hd hcl hu hi
          refine TO.pick (b := false) (gd_T rfl (dl_lookup (m := 2) hu rfl (hd 2 dc))) dc (dl_lookup (m := 6) hu rfl (hd 6 dc)) rfl ?_
          exact TX.quiet 15 hu hi rfl
         ·
          intro D hn hd hcl hu hi
          refine TO.pick (b := false) rfl dc (dl_lookup (m := 2) hu rfl (hd 2 dc)) (dl_lookup (m := 15) hu rfl (hd 15 dc)) ?_
          exact TX.quiet 16 hu hi rfl
         ·
          intro D hn hd hcl hu hi
          refine TO.move rfl dc (dl_lookup (m := 16) hu rfl (hd 16 dc)) ?_
          exact TX.quiet 17 hu hi rfl
         ·
          intro D hn hd hcl hu hi
          refine TO.move (gd_T rfl (dl_lookup (m := 17) hu rfl (hd 17 dc))) dc (dl_old (by rfl) rfl) ?_
          exact TX.quiet 18 hu hi rfl
         ·
          intro D hn hd hcl hu hi
          refine TO.lenStr (gd_T rfl (dl_lookup (m := 17) hu rfl (hd 17 dc))) dc (dl_lookup (m := 18) hu rfl (hd 18 dc)) Try.underlying9 ?_
          exact TX.quiet 19 hu hi rfl
         ·
          intro D hn hd hcl hu hi
          refine TO.bin (gd_T rfl (dl_lookup (m := 17) hu rfl (hd 17 dc))) dc (dl_lookup (m := 19) hu rfl (hd 19 dc)) rfl bin_eql (TO.rewH (show Value.bool (((r2.1.size : Int) : Int) == 0) = Value.bool true from congrArg Value.bool hb10) ?_)
          exact TX.quiet 20 hu hi rfl
         ·
          intro D hn hd hcl hu hi
          refine TO.move (gd_T rfl (dl_lookup (m := 17) hu rfl (hd 17 dc))) dc (dl_lookup (m := 20) hu rfl (hd 20 dc)) ?_
          exact TX.quiet 21 hu hi rfl
         ·
          intro D hn hd hcl hu hi
          refine TO.loads (k := 1) (cs := [.int .i64 r4.1.From, .int .i64 r4.1.To]) rw_29 (gd_T rfl (dl_lookup (m := 21) hu rfl (hd 21 dc))) dc (dl_old (by rfl) rfl) rfl rfl rfl ?_
          exact TX.quiet 22 hu hi rfl
         ·
          intro D hn hd hcl hu hi
          refine TO.move (gd_T rfl (dl_lookup (m := 21) hu rfl (hd 21 dc))) dc (dl_old (by rfl) rfl) ?_
          exact TX.quiet 23 hu hi rfl
         ·
          intro D hn hd hcl hu hi
          refine TO.lenStr (gd_T rfl (dl_lookup (m := 21) hu rfl (hd 21 dc))) dc (dl_lookup (m := 23) hu rfl (hd 23 dc)) Try.underlying9 ?_
          exact TX.quiet 24 hu hi rfl
         ·
          intro D hn hd hcl hu hi
          refine TO.move (gd_T rfl (dl_lookup (m := 21) hu rfl (hd 21 dc))) dc (dl_old (by rfl) rfl) ?_
          exact TX.quiet 25 hu hi rfl
         ·
          intro D hn hd hcl hu hi
          refine TO.lenStr (gd_T rfl (dl_lookup (m := 21) hu rfl (hd 21 dc))) dc (dl_lookup (m := 25) hu rfl (hd 25 dc)) Try.underlying9 ?_
          exact TX.quiet 26 hu hi rfl
         ·
          intro D hn hd hcl hu hi
          refine TO.build (v := .agg #[.int .i64 (s2.size : Int), .int .i64 (s2.size : Int)]) (ps := [(0, .tmp 67), (1, .tmp 69)]) (gd_T rfl (dl_lookup (m := 21) hu rfl (hd 21 dc))) dc (evP.cons (dl_lookup (m := 24) hu rfl (hd 24 dc)) (evP.cons (dl_lookup (m := 26) hu rfl (hd 26 dc)) evP.nil)) (fun _ => by kernel_rfl) ?_
          exact TX.quiet 27 hu hi rfl
         refine TO.bin rfl dc rfl rfl (bin_neq_29 r4.1 (⟨(s2.size : Int), (s2.size : Int)⟩ : Gapi_Span)) (TO.pick (b := true) rfl dc rfl rfl (TO.pick (b := false) rfl dc rfl rfl (TO.nil (TX.next ?_))))
         refine TC.condB rfl (fun hb11 => ?_) (fun hb11 => ?_)
         ·
          have h := condT hb11 h
          refine TC.seq (TC.region (TO.assign rfl dc rfl (TO.nil (TX.next (TC.ret (TX.thenRet ?_))))))
          cases h
          exact TX.fin (rs := [.tmp 2]) () (.inl rfl) Try.results9 (.cons (.tmp rfl) .nil) rfl Splits.nil
         ·
          have h := condF hb11 h
          refine TC.skip ?_
          exact TX.meetD () h rfl (Sbs.cons rfl (Sbs.cons rfl (Sbs.cons rfl (Sbs.nil)))) (Splits.of [0] kr rfl)
        ·
         have h := condF hb10 h
         refine TC.drawN 28 [(0, 43, .int .i64 r4.2), (1, 44, .bool false), (2, 45, .bool false), (3, 46, .string r2.1), (4, 47, .int .i64 (r2.1.size : Int)), (5, 48, .bool false), (6, 49, .bool false), (7, 50, undef), (8, 51, undef), (9, 52, undef), (10, 53, undef), (11, 54, undef), (12, 55, undef), (13, 56, undef), (14, 57, undef), (15, 58, .bool false), (16, 59, .bool false), (17, 60, .bool false), (18, 61, .string r2.1), (19, 62, .int .i64 (r2.1.size : Int)), (20, 63, .bool false), (21, 64, .bool false), (22, 65, undef), (23, 66, undef), (24, 67, undef), (25, 68, undef), (26, 69, undef), (27, 70, undef)] mixed kr kr dc (by rfl) kr kr (DrawPre.cons ?_ (DrawPre.cons ?_ (DrawPre.cons ?_ (DrawPre.cons ?_ (DrawPre.cons ?_ (DrawPre.cons ?_ (DrawPre.cons ?_ (DrawPre.cons ?_ (DrawPre.cons ?_ (DrawPre.cons ?_ (DrawPre.cons ?_ (DrawPre.cons ?_ (DrawPre.cons ?_ (DrawPre.cons ?_ (DrawPre.cons ?_ (DrawPre.cons ?_ (DrawPre.cons ?_ (DrawPre.cons ?_ (DrawPre.cons ?_ (DrawPre.cons ?_ (DrawPre.cons ?_ (DrawPre.cons ?_ (DrawPre.cons ?_ (DrawPre.cons ?_ (DrawPre.cons ?_ (DrawPre.cons ?_ (DrawPre.cons ?_ (DrawPre.cons ?_ DrawPre.nil)))))))))))))))))))))))))))) ?_
         ·
          intro D hn hd hcl hu hi
          refine TO.move rfl dc (dl_old (by rfl) rfl) ?_
          exact TX.quiet 0 hu hi rfl
         ·
          intro D hn hd hcl hu hi
          refine TO.bin rfl dc (dl_lookup (m := 0) hu rfl (hd 0 dc)) rfl bin_neq (TO.rewH (show Value.bool ((r4.2 : Int) != 0) = Value.bool false from congrArg Value.bool hb5) ?_)
          exact TX.quiet 1 hu hi rfl
         ·
          intro D hn hd hcl hu hi
          refine TO.move rfl dc (dl_lookup (m := 1) hu rfl (hd 1 dc)) ?_
          exact TX.quiet 2 hu hi rfl
         ·
          intro D hn hd hcl hu hi
          refine TO.move (gd_T rfl (dl_lookup (m := 2) hu rfl (hd 2 dc))) dc (dl_old (by rfl) rfl) ?_
          exact TX.quiet 3 hu hi rfl
         ·
          intro D hn hd hcl hu hi
          refine TO.lenStr (gd_T rfl (dl_lookup (m := 2) hu rfl (hd 2 dc))) dc (dl_lookup (m := 3) hu rfl (hd 3 dc)) Try.underlying9 ?_
          exact TX.quiet 4 hu hi rfl
         ·
          intro D hn hd hcl hu hi
          refine TO.bin (gd_T rfl (dl_lookup (m := 2) hu rfl (hd 2 dc))) dc (dl_lookup (m := 4) hu rfl (hd 4 dc)) rfl bin_gtr (TO.rewH (show Value.bool (decide ((0 : Int) < (r2.1.size : Int))) = Value.bool false from congrArg Value.bool hb6) ?_)
          exact TX.quiet 5 hu hi rfl
         ·
          intro D hn hd hcl hu hi
          refine TO.move (gd_T rfl (dl_lookup (m := 2) hu rfl (hd 2 dc))) dc (dl_lookup (m := 5) hu rfl (hd 5 dc)) ?_
          exact TX.quiet 6 hu hi rfl
         ·
          intro D hn hd hcl hu hi
          refine TO.skip (gd_F rfl (dl_lookup (m := 6) hu rfl (hd 6 dc))) dc ?_
          exact TX.quiet 7 hu hi rfl
         ·
          intro D hn hd hcl hu hi
          refine TO.skip (gd_F rfl (dl_lookup (m := 6) hu rfl (hd 6 dc))) dc ?_
          exact TX.quiet 8 hu hi rfl
         ·
          intro D hn hd hcl hu hi
          refine TO.skip (gd_F rfl (dl_lookup (m := 6) hu rfl (hd 6 dc))) dc ?_
          exact TX.quiet 9 hu hi rfl
         ·
          intro D hn hd hcl hu hi
          refine TO.skip (gd_F rfl (dl_lookup (m := 6) hu rfl (hd 6 dc))) dc ?_
          exact TX.quiet 10 hu hi rfl
         ·
          intro D hn hd hcl hu hi
          refine TO.skip (gd_F rfl (dl_lookup (m := 6) hu rfl (hd 6 dc))) dc ?_
          exact TX.quiet 11 hu hi rfl
         ·
          intro D hn hd hcl hu hi
          refine TO.skip (gd_F rfl (dl_lookup (m := 6) hu rfl (hd 6 dc))) dc ?_
          exact TX.quiet 12 hu hi rfl
         ·
          intro D hn hd hcl hu hi
          refine TO.skip (gd_F rfl (dl_lookup (m := 6) hu rfl (hd 6 dc))) dc ?_
          exact TX.quiet 13 hu hi rfl
         ·
          intro D hn hd hcl hu hi
          refine TO.skip (gd_F rfl (dl_lookup (m := 6) hu rfl (hd 6 dc))) dc ?_
          exact TX.quiet 14 hu hi rfl
         ·
          intro D hn hd hcl hu hi
          refine TO.pick (b := false) (gd_T rfl (dl_lookup (m := 2) hu rfl (hd 2 dc))) dc (dl_lookup (m := 6) hu rfl (hd 6 dc)) rfl ?_
          exact TX.quiet 15 hu hi rfl
         ·
          intro D hn hd hcl hu hi
          refine TO.pick (b := false) rfl dc (dl_lookup (m := 2) hu rfl (hd 2 dc)) (dl_lookup (m := 15) hu rfl (hd 15 dc)) ?_
          exact TX.quiet 16 hu hi rfl
         ·
          intro D hn hd hcl hu hi
          refine TO.move rfl dc (dl_lookup (m := 16) hu rfl (hd 16 dc)) ?_
          exact TX.quiet 17 hu hi rfl
         ·
          intro D hn hd hcl hu hi
          refine TO.move (gd_T rfl (dl_lookup (m := 17) hu rfl (hd 17 dc))) dc (dl_old (by rfl) rfl) ?_
          exact TX.quiet 18 hu hi rfl
         ·
          intro D hn hd hcl hu hi
          refine TO.lenStr (gd_T rfl (dl_lookup (m := 17) hu rfl (hd 17 dc))) dc (dl_lookup (m := 18) hu rfl (hd 18 dc)) Try.underlying9 ?_
          exact TX.quiet 19 hu hi rfl
         ·
          intro D hn hd hcl hu hi
          refine TO.bin (gd_T rfl (dl_lookup (m := 17) hu rfl (hd 17 dc))) dc (dl_lookup (m := 19) hu rfl (hd 19 dc)) rfl bin_eql (TO.rewH (show Value.bool (((r2.1.size : Int) : Int) == 0) = Value.bool false from congrArg Value.bool hb10) ?_)
          exact TX.quiet 20 hu hi rfl
         ·
          intro D hn hd hcl hu hi
          refine TO.move (gd_T rfl (dl_lookup (m := 17) hu rfl (hd 17 dc))) dc (dl_lookup (m := 20) hu rfl (hd 20 dc)) ?_
          exact TX.quiet 21 hu hi rfl
         ·
          intro D hn hd hcl hu hi
          refine TO.skip (gd_F rfl (dl_lookup (m := 21) hu rfl (hd 21 dc))) dc ?_
          exact TX.quiet 22 hu hi rfl
         ·
          intro D hn hd hcl hu hi
          refine TO.skip (gd_F rfl (dl_lookup (m := 21) hu rfl (hd 21 dc))) dc ?_
          exact TX.quiet 23 hu hi rfl
         ·
          intro D hn hd hcl hu hi
          refine TO.skip (gd_F rfl (dl_lookup (m := 21) hu rfl (hd 21 dc))) dc ?_
          exact TX.quiet 24 hu hi rfl
         ·
          intro D hn hd hcl hu hi
          refine TO.skip (gd_F rfl (dl_lookup (m := 21) hu rfl (hd 21 dc))) dc ?_
          exact TX.quiet 25 hu hi rfl
         ·
          intro D hn hd hcl hu hi
          refine TO.skip (gd_F rfl (dl_lookup (m := 21) hu rfl (hd 21 dc))) dc ?_
          exact TX.quiet 26 hu hi rfl
         ·
          intro D hn hd hcl hu hi
          refine TO.skip (gd_F rfl (dl_lookup (m := 21) hu rfl (hd 21 dc))) dc ?_
          exact TX.quiet 27 hu hi rfl
         refine TO.skip rfl dc (TO.pick (b := false) rfl dc rfl rfl (TO.pick (b := false) rfl dc rfl rfl (TO.nil (TX.next (TC.condF rfl (TC.skip ?_))))))
         exact TX.meetD () h rfl (Sbs.cons rfl (Sbs.cons rfl (Sbs.cons rfl (Sbs.nil)))) (Splits.of [0] kr rfl)
     ·
      rintro _ h
      rw [hj2] at h
      show TC _ _ _ _ _ ([]) _ _ [(0, .string s2), (3, .string r2.1), (4, v1)] [vec (encI (.i64)) 3 1 v1 r2.2]
      obtain ⟨j3, hj3, h⟩ := joinE h
      refine TC.cutN (β := Unit) 0 rfl (fun b => j3 = some r) (fun b => []) (fun b => [(0, .string s2), (3, .string r2.1), (4, v1)]) (fun b => [vec (encI (.i64)) 3 1 v1 r2.2]) (fun cut => ?_) ?_
      ·
       refine cut (TC.seq (TC.region (TO.move rfl dc rfl (TO.lenVec (k := 0) rfl dc rfl rfl Try.underlying30 (TO.move rfl dc rfl (TO.nil (TX.next (TC.block ?_))))))))
       refine TC.loopD (β := Nat × Int) (fun b => loopG (fun _ => none) (law04_FoldWay_s1 s2 r2 j3) b.1 b.2 = some r) (fun b => []) (fun b => [(0, .string s2), (3, .string r2.1), (4, v1), (74, v1), (75, .int .i64 (r2.2.length : Int)), (76, .int .i64 b.2)]) (fun b => [vec (encI (.i64)) 3 1 v1 r2.2]) (fun b => b.1) (fuel, 0) h rfl (Sbs.cons rfl (Sbs.cons rfl (Sbs.cons rfl (Sbs.cons rfl (Sbs.cons rfl (Sbs.cons rfl (Sbs.nil))))))) (Splits.of [0] kr rfl) ?_
       rintro ⟨n1, x3⟩ h
       cases n1 with
       | zero => exact noneE h
       | succ n1 =>
        obtain ⟨ag1, hag1⟩ : ∃ ag, ag = loopG (fun _ => none) (law04_FoldWay_s1 s2 r2 j3) n1 := ⟨_, rfl⟩
        have h : law04_FoldWay_s1 s2 r2 j3 ag1 x3 = some r := by rw [hag1]; exact h
        unfold law04_FoldWay_s1 at h
        show TC _ _ _ _ _ ([]) _ _ [(0, .string s2), (3, .string r2.1), (4, v1), (74, v1), (75, .int .i64 (r2.2.length : Int)), (76, .int .i64 x3)] [vec (encI (.i64)) 3 1 v1 r2.2]
        refine TC.seq (TC.region (TO.bin rfl dc rfl rfl bin_lss (TO.nil (TX.next (TC.seq ?_)))))
        refine TC.condB rfl (fun hb12 => ?_) (fun hb12 => ?_)
        ·
         have h := condT hb12 h
         refine TC.skip (TX.next ?_)
         obtain ⟨j4, hj4, h⟩ := joinE h
         refine TC.cutN (β := Int × Bool × Int × Bool × Int × Bool × Bool) 0 rfl (fun b => j4 b.1 b.2.1 b.2.2.1 b.2.2.2.1 b.2.2.2.2.1 b.2.2.2.2.2.1 b.2.2.2.2.2.2 = some r) (fun b => []) (fun b => [(0, .string s2), (3, .string r2.1), (4, v1), (74, v1), (75, .int .i64 (r2.2.length : Int)), (76, .int .i64 x3), (93, .int .i64 b.1), (94, .bool b.2.1), (97, .int .i64 b.2.2.1), (98, .string s2), (99, .int .i64 (s2.size : Int)), (100, .bool b.2.2.2.1), (103, .string s2), (104, .int .i64 b.2.2.2.2.1), (105, .bool b.2.2.2.2.2.1), (106, .bool b.2.2.2.2.2.2)]) (fun b => [vec (encI (.i64)) 3 1 v1 r2.2]) (fun cut => ?_) ?_
         ·
          refine cut (TC.block (TC.seq (TC.region (TO.move rfl dc rfl ?_))))
          obtain ⟨q2, hq6, h⟩ := andE h
          refine TO.indexVecI (k := 0) hq6 Try.underlying30 sz_3 rfl dc rfl rfl rfl rfl (TO.loadVec (i := (x3 : Int).toNat) (j := 0) (k := 0) (q := q2) sc_3 encI_len rfl dc rfl rfl (getO_get hq6) rfl dc rfl (TO.assign rfl dc rfl (TO.assign rfl dc rfl (TO.nil (TX.next (TC.seq (TC.region (TO.move rfl dc rfl (TO.bin rfl dc rfl rfl bin_gtr (TO.move rfl dc rfl ?_))))))))))
          refine TO.split (s := 83) rfl (fun hb13 => ?_) (fun hb13 => ?_)
          ·
           have h := condT hb13 h
           refine TO.move rfl dc rfl (TO.move rfl dc rfl (TO.move rfl dc rfl ?_))
           obtain ⟨hg2, h⟩ := grdE h
           refine TO.bin rfl dc rfl rfl (bin_sub (r := x3 - 1) (IntWalk.i64_in _ hg2)) ?_
           obtain ⟨q3, hq7, h⟩ := andE h
           refine TO.indexVecI (k := 0) hq7 Try.underlying30 sz_3 rfl dc rfl rfl rfl rfl (TO.loadVec (i := (x3 - 1 : Int).toNat) (j := 0) (k := 0) (q := q3) sc_3 encI_len rfl dc rfl rfl (getO_get hq7) rfl dc rfl (TO.bin rfl dc rfl rfl bin_lss (TO.pick (b := true) rfl dc rfl rfl (TO.move rfl dc rfl ?_))))
           refine TO.split (s := 92) rfl (fun hb14 => ?_) (fun hb14 => ?_)
           ·
            have h := condT hb14 h
            refine TO.skip rfl dc (TO.skip rfl dc (TO.pick (b := true) rfl dc rfl rfl (TO.move rfl dc rfl (TO.skip rfl dc (TO.skip rfl dc (TO.skip rfl dc (TO.skip rfl dc (TO.pick (b := true) rfl dc rfl rfl (TO.move rfl dc rfl (TO.skip rfl dc (TO.skip rfl dc (TO.skip rfl dc (TO.skip rfl dc ?_)))))))))))))
            refine TO.pick (b := true) rfl dc rfl rfl (TO.nil (TX.next (TC.condT rfl (TC.seq (TC.region (TO.assign rfl dc rfl (TO.nil (TX.next (TC.ret (TX.blockRet (TX.thenRet (TX.thenRet (TX.blockRet ?_)))))))))))))
            refine TX.thenRet ?_
            cases h
            exact TX.fin (rs := [.tmp 2]) () (.inl rfl) Try.results9 (.cons (.tmp rfl) .nil) rfl Splits.nil
           ·
            have h := condF hb14 h
            refine TO.move rfl dc rfl (TO.bin rfl dc rfl rfl bin_lss (TO.pick (b := false) rfl dc rfl rfl (TO.move rfl dc rfl ?_)))
            refine TO.split (s := 96) rfl (fun hb15 => ?_) (fun hb15 => ?_)
            ·
             have h := condT hb15 h
             refine TO.skip rfl dc (TO.skip rfl dc (TO.skip rfl dc (TO.skip rfl dc (TO.pick (b := true) rfl dc rfl rfl (TO.move rfl dc rfl (TO.skip rfl dc (TO.skip rfl dc (TO.skip rfl dc (TO.skip rfl dc (TO.pick (b := true) rfl dc rfl rfl (TO.nil (TX.next (TC.condT rfl ?_)))))))))))))
             refine TC.seq (TC.region (TO.assign rfl dc rfl (TO.nil (TX.next (TC.ret (TX.blockRet (TX.thenRet (TX.thenRet (TX.blockRet (TX.thenRet ?_))))))))))
             cases h
             exact TX.fin (rs := [.tmp 2]) () (.inl rfl) Try.results9 (.cons (.tmp rfl) .nil) rfl Splits.nil
            ·
             have h := condF hb15 h
             refine TO.move rfl dc rfl (TO.move rfl dc rfl (TO.lenStr rfl dc rfl Try.underlying9 (TO.bin rfl dc rfl rfl bin_geq (TO.pick (b := false) rfl dc rfl rfl (TO.move rfl dc rfl ?_)))))
             refine TO.split (s := 102) rfl (fun hb16 => ?_) (fun hb16 => ?_)
             ·
              have h := condT hb16 h
              refine TO.skip rfl dc (TO.skip rfl dc (TO.skip rfl dc (TO.skip rfl dc (TO.pick (b := true) rfl dc rfl rfl (TO.nil (TX.next (TC.condT rfl (TC.seq (TC.region (TO.assign rfl dc rfl (TO.nil (TX.next (TC.ret ?_)))))))))))))
              refine TX.blockRet (TX.thenRet (TX.thenRet (TX.blockRet (TX.thenRet ?_))))
              cases h
              exact TX.fin (rs := [.tmp 2]) () (.inl rfl) Try.results9 (.cons (.tmp rfl) .nil) rfl Splits.nil
             ·
              have h := condF hb16 h
              refine TO.move rfl dc rfl (TO.move rfl dc rfl ?_)
              obtain ⟨r5, hq8, h⟩ := andE h
              refine TO.callP (v := .bool r5) (vs := [.string s2, .int .i64 q2]) rfl dc rfl rfl rfl en_38 (runes_Boundary_fn hq8) (TO.un rfl dc rfl un_not (TO.pick (b := false) rfl dc rfl rfl (TO.nil (TX.next ?_))))
              refine TC.condB rfl (fun hb17 => ?_) (fun hb17 => ?_)
              ·
               have h := condT hb17 h
               refine TC.seq (TC.region (TO.assign rfl dc rfl (TO.nil (TX.next (TC.ret (TX.blockRet (TX.thenRet (TX.thenRet (TX.blockRet (TX.thenRet ?_))))))))))
               cases h
               exact TX.fin (rs := [.tmp 2]) () (.inl rfl) Try.results9 (.cons (.tmp rfl) .nil) rfl Splits.nil
              ·
               have h := condF hb17 h
               refine TC.skip (TX.blockNormal ?_)
               exact TX.meetD (q2, decide ((q2 : Int) < 0), q2, decide (((s2.size : Int) : Int) ≤ q2), q2, r5, !r5) h rfl (Sbs.cons rfl (Sbs.cons rfl (Sbs.cons rfl (Sbs.cons rfl (Sbs.cons rfl (Sbs.cons rfl (Sbs.cons rfl (Sbs.cons rfl (Sbs.cons rfl (Sbs.cons rfl (Sbs.cons rfl (Sbs.cons rfl (Sbs.cons rfl (Sbs.cons rfl (Sbs.cons rfl (Sbs.cons rfl (Sbs.nil))))))))))))))))) (Splits.of [0] kr rfl)
          ·
           have h := condF hb13 h
           refine TO.skip rfl dc (TO.skip rfl dc (TO.skip rfl dc (TO.skip rfl dc (TO.skip rfl dc (TO.skip rfl dc (TO.skip rfl dc (TO.pick (b := false) rfl dc rfl rfl (TO.move rfl dc rfl (TO.move rfl dc rfl (TO.bin rfl dc rfl rfl bin_lss (TO.pick (b := false) rfl dc rfl rfl (TO.move rfl dc rfl ?_))))))))))))
           refine TO.split (s := 96) rfl (fun hb18 => ?_) (fun hb18 => ?_)
           ·
            have h := condT hb18 h
            refine TO.skip rfl dc (TO.skip rfl dc (TO.skip rfl dc (TO.skip rfl dc (TO.pick (b := true) rfl dc rfl rfl (TO.move rfl dc rfl (TO.skip rfl dc (TO.skip rfl dc (TO.skip rfl dc (TO.skip rfl dc (TO.pick (b := true) rfl dc rfl rfl (TO.nil (TX.next (TC.condT rfl ?_)))))))))))))
            refine TC.seq (TC.region (TO.assign rfl dc rfl (TO.nil (TX.next (TC.ret (TX.blockRet (TX.thenRet (TX.thenRet (TX.blockRet (TX.thenRet ?_))))))))))
            cases h
            exact TX.fin (rs := [.tmp 2]) () (.inl rfl) Try.results9 (.cons (.tmp rfl) .nil) rfl Splits.nil
           ·
            have h := condF hb18 h
            refine TO.move rfl dc rfl (TO.move rfl dc rfl (TO.lenStr rfl dc rfl Try.underlying9 (TO.bin rfl dc rfl rfl bin_geq (TO.pick (b := false) rfl dc rfl rfl (TO.move rfl dc rfl ?_)))))
            refine TO.split (s := 102) rfl (fun hb19 => ?_) (fun hb19 => ?_)
            ·
             have h := condT hb19 h
             refine TO.skip rfl dc (TO.skip rfl dc (TO.skip rfl dc (TO.skip rfl dc (TO.pick (b := true) rfl dc rfl rfl (TO.nil (TX.next (TC.condT rfl (TC.seq (TC.region (TO.assign rfl dc rfl (TO.nil (TX.next (TC.ret ?_)))))))))))))
             refine TX.blockRet (TX.thenRet (TX.thenRet (TX.blockRet (TX.thenRet ?_))))
             cases h
             exact TX.fin (rs := [.tmp 2]) () (.inl rfl) Try.results9 (.cons (.tmp rfl) .nil) rfl Splits.nil
            ·
             have h := condF hb19 h
             refine TO.move rfl dc rfl (TO.move rfl dc rfl ?_)
             obtain ⟨r6, hq9, h⟩ := andE h
             refine TO.callP (v := .bool r6) (vs := [.string s2, .int .i64 q2]) rfl dc rfl rfl rfl en_38 (runes_Boundary_fn hq9) (TO.un rfl dc rfl un_not (TO.pick (b := false) rfl dc rfl rfl (TO.nil (TX.next ?_))))
             refine TC.condB rfl (fun hb20 => ?_) (fun hb20 => ?_)
             ·
              have h := condT hb20 h
              refine TC.seq (TC.region (TO.assign rfl dc rfl (TO.nil (TX.next (TC.ret (TX.blockRet (TX.thenRet (TX.thenRet (TX.blockRet (TX.thenRet ?_))))))))))
              cases h
              exact TX.fin (rs := [.tmp 2]) () (.inl rfl) Try.results9 (.cons (.tmp rfl) .nil) rfl Splits.nil
             ·
              have h := condF hb20 h
              refine TC.skip (TX.blockNormal ?_)
              exact TX.meetD (q2, decide ((q2 : Int) < 0), q2, decide (((s2.size : Int) : Int) ≤ q2), q2, r6, !r6) h rfl (Sbs.cons rfl (Sbs.cons rfl (Sbs.cons rfl (Sbs.cons rfl (Sbs.cons rfl (Sbs.cons rfl (Sbs.cons rfl (Sbs.cons rfl (Sbs.cons rfl (Sbs.cons rfl (Sbs.cons rfl (Sbs.cons rfl (Sbs.cons rfl (Sbs.cons rfl (Sbs.cons rfl (Sbs.cons rfl (Sbs.nil))))))))))))))))) (Splits.of [0] kr rfl)
         ·
          rintro ⟨x4, x5, x6, x7, x8, x9, x10⟩ h
          rw [hj4] at h
          show TC _ _ _ _ _ ([]) _ _ [(0, .string s2), (3, .string r2.1), (4, v1), (74, v1), (75, .int .i64 (r2.2.length : Int)), (76, .int .i64 x3), (93, .int .i64 x4), (94, .bool x5), (97, .int .i64 x6), (98, .string s2), (99, .int .i64 (s2.size : Int)), (100, .bool x7), (103, .string s2), (104, .int .i64 x8), (105, .bool x9), (106, .bool x10)] [vec (encI (.i64)) 3 1 v1 r2.2]
          refine TC.region ?_
          obtain ⟨hg3, h⟩ := grdE h
          refine TO.bin rfl dc rfl rfl (bin_add (r := x3 + 1) (IntWalk.i64_in _ hg3)) (TO.move rfl dc rfl (TO.nil ?_))
          subst hag1
          exact TX.againD (n1, x3 + 1) h (Nat.lt_succ_self _) rfl (Sbs.cons rfl (Sbs.cons rfl (Sbs.cons rfl (Sbs.cons rfl (Sbs.cons rfl (Sbs.cons rfl (Sbs.nil))))))) (Splits.of [0] kr rfl)
        ·
         have h := condF hb12 h
         refine TC.exit (TX.thenExit (TX.thenExit (TX.blockHere ?_)))
         exact TX.meetD () h rfl (Sbs.cons rfl (Sbs.cons rfl (Sbs.cons rfl (Sbs.nil)))) (Splits.of [0] kr rfl)
      ·
       rintro _ h
       rw [hj3] at h
       show TC _ _ _ _ _ ([]) _ _ [(0, .string s2), (3, .string r2.1), (4, v1)] [vec (encI (.i64)) 3 1 v1 r2.2]
       obtain ⟨j5, hj5, h⟩ := joinE h
       refine TC.cutN (β := Unit) 0 rfl (fun b => j5 = some r) (fun b => []) (fun b => [(0, .string s2), (3, .string r2.1), (4, v1)]) (fun b => [vec (encI (.i64)) 3 1 v1 r2.2]) (fun cut => ?_) ?_
       ·
        refine cut (TC.seq (TC.region (TO.move rfl dc rfl (TO.lenStr rfl dc rfl Try.underlying9 (TO.bin rfl dc rfl rfl bin_gtr (TO.move rfl dc rfl ?_))))))
        refine TO.split (s := 112) rfl (fun hb21 => ?_) (fun hb21 => ?_)
        ·
         have h := condT hb21 h
         refine TO.move rfl dc rfl ?_
         obtain ⟨q4, hq10, h⟩ := andE h
         refine TO.indexVecI (k := 0) hq10 Try.underlying30 sz_3 rfl dc rfl rfl rfl rfl (TO.loadVec (i := (0 : Int).toNat) (j := 0) (k := 0) (q := q4) sc_3 encI_len rfl dc rfl rfl (getO_get hq10) rfl dc rfl (TO.bin rfl dc rfl rfl bin_neq (TO.pick (b := true) rfl dc rfl rfl (TO.nil (TX.next ?_)))))
         refine TC.condB rfl (fun hb22 => ?_) (fun hb22 => ?_)
         ·
          have h := condT hb22 h
          refine TC.seq (TC.region (TO.assign rfl dc rfl (TO.nil (TX.next (TC.ret (TX.thenRet ?_))))))
          cases h
          exact TX.fin (rs := [.tmp 2]) () (.inl rfl) Try.results9 (.cons (.tmp rfl) .nil) rfl Splits.nil
         ·
          have h := condF hb22 h
          refine TC.skip ?_
          exact TX.meetD () h rfl (Sbs.cons rfl (Sbs.cons rfl (Sbs.cons rfl (Sbs.nil)))) (Splits.of [0] kr rfl)
        ·
         have h := condF hb21 h
         refine TO.skip rfl dc (TO.skip rfl dc (TO.skip rfl dc (TO.skip rfl dc (TO.pick (b := false) rfl dc rfl rfl (TO.nil (TX.next (TC.condF rfl (TC.skip ?_))))))))
         exact TX.meetD () h rfl (Sbs.cons rfl (Sbs.cons rfl (Sbs.cons rfl (Sbs.nil)))) (Splits.of [0] kr rfl)
       ·
        rintro _ h
        rw [hj5] at h
        show TC _ _ _ _ _ ([]) _ _ [(0, .string s2), (3, .string r2.1), (4, v1)] [vec (encI (.i64)) 3 1 v1 r2.2]
        obtain ⟨j6, hj6, h⟩ := joinE h
        refine TC.cutN (β := Unit) 0 rfl (fun b => j6 = some r) (fun b => []) (fun b => []) (fun b => []) (fun cut => ?_) ?_
        ·
         refine cut (TC.seq (TC.region (TO.move rfl dc rfl ?_)))
         refine TO.rangeStr Try.underlying9 rfl dc rfl (fun b2 => ?_)
         refine TO.nil (TX.next (TC.block ?_))
         refine TC.loopD (β := Nat × Nat) (fun b => loopG (fun _ => none) (law04_FoldWay_s2 s2 r2 j6) b.1 b.2 = some r) (fun b => []) (fun b => [(0, .string s2), (3, .string r2.1), (4, v1), (119, .pointer (some ⟨b2, 0, none⟩))]) (fun b => [vec (encI (.i64)) 3 1 v1 r2.2, obj b2 (.stringIter r2.1 (posAt r2.1 b.2))]) (fun b => b.1) (fuel, 0) h rfl (Sbs.cons rfl (Sbs.cons rfl (Sbs.cons rfl (Sbs.cons rfl (Sbs.nil))))) (Splits.of [0, 1] kr rfl) ?_
         rintro ⟨n2, m3⟩ h
         cases n2 with
         | zero => exact noneE h
         | succ n2 =>
          obtain ⟨ag2, hag2⟩ : ∃ ag, ag = loopG (fun _ => none) (law04_FoldWay_s2 s2 r2 j6) n2 := ⟨_, rfl⟩
          have h : law04_FoldWay_s2 s2 r2 j6 ag2 m3 = some r := by rw [hag2]; exact h
          unfold law04_FoldWay_s2 at h
          show TC _ _ _ _ _ ([]) _ _ [(0, .string s2), (3, .string r2.1), (4, v1), (119, .pointer (some ⟨b2, 0, none⟩))] [vec (encI (.i64)) 3 1 v1 r2.2, obj b2 (.stringIter r2.1 (posAt r2.1 m3))]
          refine TC.seq (TC.region ?_)
          refine TO.bySplit (b := decide (m3 < (pcs r2.1.data.toList).length)) (fun hb23 => ?_) (fun hb23 => ?_)
          ·
           have h := condT hb23 h
           obtain ⟨p1, hq11, h⟩ := andE h
           refine TO.nextStr (k := 1) (m := m3) (p := p1) rfl dc rfl rfl hq11 (TO.extract rfl dc rfl rfl (TO.nil (TX.next (TC.seq (TC.condT rfl (TC.skip (TX.next (TC.block (TC.seq (TC.region (TO.extract rfl dc rfl rfl (TO.assign rfl dc rfl (TO.nil ?_)))))))))))))
           refine TX.next (TC.seq (TC.seq (TC.region (TO.move rfl dc rfl (TO.bin rfl dc rfl rfl bin_gtr (TO.nil (TX.next ?_)))))))
           refine TC.condB rfl (fun hb24 => ?_) (fun hb24 => ?_)
           ·
            have h := condT hb24 h
            refine TC.exit (TX.thenExit (TX.blockOn dc (TX.thenExit (TX.blockHere ?_))))
            exact TX.meetD () h rfl (Sbs.nil) Splits.nil
           ·
            have h := condF hb24 h
            refine TC.skip (TX.next (TC.seq (TC.region (TO.move rfl dc rfl (TO.move rfl dc rfl (TO.move rfl dc rfl (TO.lenStr rfl dc rfl Try.underlying9 ?_)))))))
            refine TO.build (v := .agg #[.int .i64 (p1.i : Int), .int .i64 (r2.1.size : Int)]) (ps := [(0, .tmp 127), (1, .tmp 129)]) rfl dc rfl (fun _ => by kernel_rfl) ?_
            obtain ⟨r7, hq12, h⟩ := andE h
            refine TO.callP (v := .tuple #[.agg #[.int .i64 r7.1.From, .int .i64 r7.1.To], .int .i64 r7.2]) (vs := [.string s2, .agg #[.int .i64 (p1.i : Int), .int .i64 (r2.1.size : Int)]]) rfl dc rfl rfl rfl en_20 (fold_Back_fn (span1 := (⟨(p1.i : Int), (r2.1.size : Int)⟩ : Gapi_Span)) hq12) (TO.move rfl dc rfl (TO.extract rfl dc rfl rfl (TO.extract rfl dc rfl rfl ?_)))
            refine TO.alloc zr_29 rfl dc (fun b3 => ?_)
            show TO _ _ _ _ _ _ _ _ _ _ [vec (encI (.i64)) 3 1 v1 r2.2, obj b2 (.stringIter r2.1 (posAt r2.1 (m3 + 1))), cells b3 [.int .i64 0, .int .i64 0] 29]
            refine TO.stores (k := 2) (vs := [.int .i64 r7.1.From, .int .i64 r7.1.To]) (l' := [.int .i64 r7.1.From, .int .i64 r7.1.To]) sz_29 rfl rfl rfl rfl rfl (show _ ≤ _ by simp) rfl rfl (TO.assign rfl dc rfl (TO.nil (TX.next (TC.seq ?_))))
            refine TC.bySplit (b := (r7.2 : Int) != 0) (fun hb25 => ?_) (fun hb25 => ?_)
            ·
             have h := condT hb25 h
             refine TC.drawN 11 [(0, 134, .int .i64 r7.2), (1, 135, .bool true), (2, 136, .bool true), (3, 137, undef), (4, 138, undef), (5, 139, undef), (6, 140, undef), (7, 141, undef), (8, 142, undef), (9, 143, undef), (10, 144, undef)] mixed kr kr dc (by rfl) kr kr (DrawPre.cons ?_ (DrawPre.cons ?_ (DrawPre.cons ?_ (DrawPre.cons ?_ (DrawPre.cons ?_ (DrawPre.cons ?_ (DrawPre.cons ?_ (DrawPre.cons ?_ (DrawPre.cons ?_ (DrawPre.cons ?_ (DrawPre.cons ?_ DrawPre.nil))))))))))) ?_
             ·
              intro D hn hd hcl hu hi
              refine TO.move rfl dc (dl_old (by rfl) rfl) ?_
              exact TX.quiet 0 hu hi rfl
             ·
              intro D hn hd hcl hu hi
              refine TO.bin rfl dc (dl_lookup (m := 0) hu rfl (hd 0 dc)) rfl bin_neq (TO.rewH (show Value.bool ((r7.2 : Int) != 0) = Value.bool true from congrArg Value.bool hb25) ?_)
              exact TX.quiet 1 hu hi rfl
             ·
              intro D hn hd hcl hu hi
              refine TO.move rfl dc (dl_lookup (m := 1) hu rfl (hd 1 dc)) ?_
              exact TX.quiet 2 hu hi rfl
             ·
              intro D hn hd hcl hu hi
              refine TO.skip (gd_F rfl (dl_lookup (m := 2) hu rfl (hd 2 dc))) dc ?_
              exact TX.quiet 3 hu hi rfl
             ·
              intro D hn hd hcl hu hi
              refine TO.skip (gd_F rfl (dl_lookup (m := 2) hu rfl (hd 2 dc))) dc ?_
              exact TX.quiet 4 hu hi rfl
             ·
              intro D hn hd hcl hu hi
              refine TO.skip (gd_F rfl (dl_lookup (m := 2) hu rfl (hd 2 dc))) dc ?_
              exact TX.quiet 5 hu hi rfl
             ·
              intro D hn hd hcl hu hi
              refine TO.skip (gd_F rfl (dl_lookup (m := 2) hu rfl (hd 2 dc))) dc ?_
              exact TX.quiet 6 hu hi rfl
             ·
              intro D hn hd hcl hu hi
              refine TO.skip (gd_F rfl (dl_lookup (m := 2) hu rfl (hd 2 dc))) dc ?_
              exact TX.quiet 7 hu hi rfl
             ·
              intro D hn hd hcl hu hi
              refine TO.skip (gd_F rfl (dl_lookup (m := 2) hu rfl (hd 2 dc))) dc ?_
              exact TX.quiet 8 hu hi rfl
             ·
              intro D hn hd hcl hu hi
              refine TO.skip (gd_F rfl (dl_lookup (m := 2) hu rfl (hd 2 dc))) dc ?_
              exact TX.quiet 9 hu hi rfl
             ·
              intro D hn hd hcl hu hi
              refine TO.skip (gd_F rfl (dl_lookup (m := 2) hu rfl (hd 2 dc))) dc ?_
              exact TX.quiet 10 hu hi rfl
             refine TO.skip rfl dc (TO.pick (b := true) rfl dc rfl rfl (TO.nil (TX.next (TC.condT rfl (TC.seq (TC.region (TO.assign rfl dc rfl (TO.nil (TX.next (TC.ret (TX.blockRet (TX.thenRet (TX.blockRet ?_)))))))))))))
             refine TX.thenRet ?_
             cases h
             exact TX.fin (rs := [.tmp 2]) () (.inl rfl) Try.results9 (.cons (.tmp rfl) .nil) rfl Splits.nil
            ·
             have h := condF hb25 h
             obtain ⟨q5, hq13, h⟩ := andE h
             refine TC.drawN 11 [(0, 134, .int .i64 r7.2), (1, 135, .bool false), (2, 136, .bool false), (3, 137, .agg #[.int .i64 r7.1.From, .int .i64 r7.1.To]), (4, 138, v1), (5, 139, .int .i64 (p1.i : Int)), (6, 140, .pointer (some ⟨vblk v1, ((p1.i : Int) : Int).toNat * 1, none⟩)), (7, 141, .int .i64 q5), (8, 142, .string s2), (9, 143, .int .i64 (s2.size : Int)), (10, 144, .agg #[.int .i64 q5, .int .i64 (s2.size : Int)])] mixed kr kr dc (by rfl) kr kr (DrawPre.cons ?_ (DrawPre.cons ?_ (DrawPre.cons ?_ (DrawPre.cons ?_ (DrawPre.cons ?_ (DrawPre.cons ?_ (DrawPre.cons ?_ (DrawPre.cons ?_ (DrawPre.cons ?_ (DrawPre.cons ?_ (DrawPre.cons ?_ DrawPre.nil))))))))))) ?_
             ·
              intro D hn hd hcl hu hi
              refine TO.move rfl dc (dl_old (by rfl) rfl) ?_
              exact TX.quiet 0 hu hi rfl
             ·
              intro D hn hd hcl hu hi
              refine TO.bin rfl dc (dl_lookup (m := 0) hu rfl (hd 0 dc)) rfl bin_neq (TO.rewH (show Value.bool ((r7.2 : Int) != 0) = Value.bool false from congrArg Value.bool hb25) ?_)
              exact TX.quiet 1 hu hi rfl
             ·
              intro D hn hd hcl hu hi
              refine TO.move rfl dc (dl_lookup (m := 1) hu rfl (hd 1 dc)) ?_
              exact TX.quiet 2 hu hi rfl
             ·
              intro D hn hd hcl hu hi
              refine TO.loads (k := 2) (cs := [.int .i64 r7.1.From, .int .i64 r7.1.To]) rw_29 (gd_T rfl (dl_lookup (m := 2) hu rfl (hd 2 dc))) dc (dl_old (by rfl) rfl) rfl rfl rfl ?_
              exact TX.quiet 3 hu hi rfl
             ·
              intro D hn hd hcl hu hi
              refine TO.move (gd_T rfl (dl_lookup (m := 2) hu rfl (hd 2 dc))) dc (dl_old (by rfl) rfl) ?_
              exact TX.quiet 4 hu hi rfl
             ·
              intro D hn hd hcl hu hi
              refine TO.move (gd_T rfl (dl_lookup (m := 2) hu rfl (hd 2 dc))) dc (dl_old (by rfl) rfl) ?_
              exact TX.quiet 5 hu hi rfl
             ·
              intro D hn hd hcl hu hi
              refine TO.indexVecI (k := 0) hq13 Try.underlying30 sz_3 (gd_T rfl (dl_lookup (m := 2) hu rfl (hd 2 dc))) dc (dl_lookup (m := 4) hu rfl (hd 4 dc)) (dl_lookup (m := 5) hu rfl (hd 5 dc)) rfl rfl ?_
              exact TX.quiet 6 hu hi rfl
             ·
              intro D hn hd hcl hu hi
              refine TO.loadVec (i := ((p1.i : Int) : Int).toNat) (j := 0) (k := 0) (q := q5) sc_3 encI_len (gd_T rfl (dl_lookup (m := 2) hu rfl (hd 2 dc))) dc (dl_lookup (m := 6) hu rfl (hd 6 dc)) rfl (getO_get hq13) rfl dc rfl ?_
              exact TX.quiet 7 hu hi rfl
             ·
              intro D hn hd hcl hu hi
              refine TO.move (gd_T rfl (dl_lookup (m := 2) hu rfl (hd 2 dc))) dc (dl_old (by rfl) rfl) ?_
              exact TX.quiet 8 hu hi rfl
             ·
              intro D hn hd hcl hu hi
              refine TO.lenStr (gd_T rfl (dl_lookup (m := 2) hu rfl (hd 2 dc))) dc (dl_lookup (m := 8) hu rfl (hd 8 dc)) Try.underlying9 ?_
              exact TX.quiet 9 hu hi rfl
             ·
              intro D hn hd hcl hu hi
              refine TO.build (v := .agg #[.int .i64 q5, .int .i64 (s2.size : Int)]) (ps := [(0, .tmp 141), (1, .tmp 143)]) (gd_T rfl (dl_lookup (m := 2) hu rfl (hd 2 dc))) dc (evP.cons (dl_lookup (m := 7) hu rfl (hd 7 dc)) (evP.cons (dl_lookup (m := 9) hu rfl (hd 9 dc)) evP.nil)) (fun _ => by kernel_rfl) ?_
              exact TX.quiet 10 hu hi rfl
             refine TO.bin rfl dc rfl rfl (bin_neq_29 r7.1 (⟨q5, (s2.size : Int)⟩ : Gapi_Span)) (TO.pick (b := false) rfl dc rfl rfl (TO.nil (TX.next ?_)))
             refine TC.condB rfl (fun hb26 => ?_) (fun hb26 => ?_)
             ·
              have h := condT hb26 h
              refine TC.seq (TC.region (TO.assign rfl dc rfl (TO.nil (TX.next (TC.ret (TX.blockRet (TX.thenRet (TX.blockRet (TX.thenRet ?_)))))))))
              cases h
              exact TX.fin (rs := [.tmp 2]) () (.inl rfl) Try.results9 (.cons (.tmp rfl) .nil) rfl Splits.nil
             ·
              have h := condF hb26 h
              refine TC.skip (TX.blockNormal ?_)
              subst hag2
              exact TX.againD (n2, m3 + 1) h (Nat.lt_succ_self _) rfl (Sbs.cons rfl (Sbs.cons rfl (Sbs.cons rfl (Sbs.cons rfl (Sbs.nil))))) (Splits.of [0, 1] kr rfl)
          ·
           have h := condF hb23 h
           refine TO.nextEnd (k := 1) (m := m3) rfl dc rfl rfl (Nat.le_of_not_lt (of_decide_eq_false hb23)) (TO.extract rfl dc rfl rfl (TO.nil (TX.next (TC.seq (TC.condF rfl (TC.exit (TX.thenExit (TX.thenExit (TX.blockHere ?_)))))))))
           exact TX.meetD () h rfl (Sbs.nil) Splits.nil
        ·
         rintro _ h
         rw [hj6] at h
         show TC _ _ _ _ _ ([]) _ _ [] []
         refine TC.seq (TC.region ?_)
         obtain ⟨r8, hq14, h⟩ := andE h
         refine TO.callP (v := .bool r8) (vs := []) rfl dc rfl rfl rfl en_12 (law04_wakes_fn hq14) (TO.assign rfl dc rfl (TO.nil (TX.next (TC.ret ?_))))
         cases h
         exact TX.fin (rs := [.tmp 2]) () (.inl rfl) Try.results9 (.cons (.tmp rfl) .nil) rfl Splits.nil
end Go.Proofs.Ythjkafeklflgbaa
namespace Go.Proofs.Ythjkafeklflgbaa
open Go.RowKit Go.Lib
set_option linter.unusedVariables false
set_option linter.unusedSimpArgs false
theorem way_all (s : ByteArray) (hs : s.size ≤ 65536) (i : Nat) (hi : i ≤ (foldS s).size) (a : Int) (ha : (trS s ++ [(s.size : Int)])[i]? = some a) : fold_Back_v s ⟨(i : Int), ((foldS s).size : Int)⟩ = some (⟨a, (s.size : Int)⟩, 0) := by
  rw [back_v s _ hs]
  have hl := trS_len s
  unfold backS
  rw [if_neg (by simp only; omega)]
  have h2 : (trS s ++ [(s.size : Int)])[(foldS s).size]? = some (s.size : Int) := by rw [← hl]; simp
  simp only [Int.toNat_natCast]
  rw [ha, h2]; rfl
theorem cut4096 {R : Type} {K : ByteArray → Option R} {X : Option R} (s : ByteArray) (h : ∀ x : ByteArray, x.size ≤ 4096 → K x = X) : joinK (fun (j1 : ByteArray → Option R) => bcond (decide ((4096 : Int) < (s.size : Int))) (grd (0 ≤ (0 : Int) ∧ (0 : Int) ≤ 4096 ∧ (4096 : Int) ≤ (s.size : Int)) <| j1 (cutB s 0 4096)) (j1 s)) K = X := by
  by_cases hh : (4096 : Int) < (s.size : Int)
  · exact condTI (decide_eq_true hh) (grdI ⟨by omega, by omega, by omega⟩ (h _ (cut_le' s 4096)))
  · exact condFI (decide_eq_false hh) (h s (by omega))
theorem foldWay_v (s : ByteArray) : law04_FoldWay_v s = some true := by
  unfold law04_FoldWay_v
  refine thenI wakes_v (condFI rfl (cut4096 s fun s hs => ?_))
  have hl := trS_len s
  have hz := foldS_size s (by omega)
  refine thenI (trace_v s (by omega)) (condFI (by simp only; rw [hl]; simp) (thenI (fold_v s (by omega)) (condFI (by simp) (joinI ?_))))
  simp only
  -- gone back from the whole
  have hwhole : ∃ a, (trS s ++ [(s.size : Int)])[0]? = some a ∧ (0 < (foldS s).size → (trS s)[0]? = some a) ∧ ((foldS s).size = 0 → a = (s.size : Int)) := by
    cases hq : trS s with
    | nil => exact ⟨_, rfl, fun h => by rw [hq] at hl; simp at hl; omega, fun _ => rfl⟩
    | cons a l => exact ⟨a, rfl, fun _ => rfl, fun h => by rw [hq] at hl; simp at hl; omega⟩
  obtain ⟨a, ha, ha1, ha2⟩ := hwhole
  have hb := way_all s (by omega) 0 (Nat.zero_le _) a ha
  refine thenI hb (condFI rfl ?_)
  suffices rest : ∀ X : Option Bool, X = some true → (bcond (decide ((0 : Int) < ((foldS s).size : Int))) (andThen (getO (trS s) 0) fun (q1 : Int) => bcond (!(eq_Gapi_Span (⟨a, (s.size : Int)⟩ : Gapi_Span) (⟨q1, (s.size : Int)⟩ : Gapi_Span))) (some false)
      (bcond ((((foldS s).size : Int) : Int) == 0) (bcond (!(eq_Gapi_Span (⟨a, (s.size : Int)⟩ : Gapi_Span) (⟨(s.size : Int), (s.size : Int)⟩ : Gapi_Span))) (some false) X) X))
      (bcond ((((foldS s).size : Int) : Int) == 0) (bcond (!(eq_Gapi_Span (⟨a, (s.size : Int)⟩ : Gapi_Span) (⟨(s.size : Int), (s.size : Int)⟩ : Gapi_Span))) (some false) X) X)) = some true by
    refine rest _ (joinI ?_)
    -- each place
    have each : ∀ X : Option Bool, loopG (fun _ => none) (law04_FoldWay_s1 s (foldS s, trS s) X) fuel 0 = X := by
      intro X
      have := seek (xs := trS s) (F := law04_FoldWay_s1 s (foldS s, trS s) X) (bot := fun _ => none) (g := fun _ => none) (J := X) (fun ag k q hq => by
        have hk := lp_lt' hq
        obtain ⟨p, hp, hpq⟩ := trS_mem (List.mem_of_getElem? hq)
        obtain ⟨hB, hlt⟩ := piece_at hp (by omega)
        have hbd : runes_Boundary_v s q = some true := by rw [hpq]; exact hB
        unfold law04_FoldWay_s1
        refine condTI (lp_lt hq) (joinI (thenI (lp_get hq) ?_))
        have fin : (bcond (decide ((q : Int) < 0)) (some false) (bcond (decide (((s.size : Int) : Int) ≤ q)) (some false) (andThen (runes_Boundary_v s q) fun (r5 : Bool) => bcond (!r5) (some false) (grd (I64 ((k : Int) + 1)) <| ag ((k : Int) + 1))))) = ag ((k : Int) + 1) :=
          condFI (decide_eq_false (by omega)) (condFI (decide_eq_false (by omega)) (thenI hbd (condFI rfl (grdI (lp_i64 (by omega)) rfl))))
        by_cases h0 : 0 < k
        · have hx : (trS s)[k - 1]? = some (trS s)[k - 1] := List.getElem?_eq_getElem (by omega)
          refine condTI (decide_eq_true (by omega)) (grdI ⟨by omega, by omega⟩ (thenI (getO_of (n := k - 1) (by omega) hx) (condFI (decide_eq_false ?_) fin)))
          have hso := trS_sorted s
          rw [List.pairwise_iff_getElem] at hso
          have := hso (k - 1) k (by omega) hk (by omega)
          have e := (List.getElem?_eq_some_iff.1 hq).2
          omega
        · exact condFI (decide_eq_false (by omega)) fin) (fun ag => by unfold law04_FoldWay_s1; exact condFI lp_ge rfl) (n := fuel) (big_fuel (by omega))
      rw [this]
      have : (trS s).findSome? (fun _ => (none : Option (Option Bool))) = none := by simp
      rw [this]; rfl
    rw [each]
    refine joinI ?_
    have last : ∀ X : Option Bool, loopG (fun _ => none) (law04_FoldWay_s2 s (foldS s, trS s) X) fuel 0 = X := by
      intro X
      have hc := pcs_count_le (foldS s)
      have key : ∀ (n m : Nat), m ≤ (pcs (foldS s).data.toList).length → (pcs (foldS s).data.toList).length - m < n → loopG (fun _ => none) (law04_FoldWay_s2 s (foldS s, trS s) X) n m = X := by
        intro n
        induction n with
        | zero => intro m _ h; omega
        | succ n ih =>
          intro m hm hn
          rw [loopI]
          generalize loopG (fun _ => none) (law04_FoldWay_s2 s (foldS s, trS s) X) n = ag at ih ⊢
          unfold law04_FoldWay_s2
          by_cases h : m < (pcs (foldS s).data.toList).length
          · have hx : (pcs (foldS s).data.toList)[m]? = some (pcs (foldS s).data.toList)[m] := List.getElem?_eq_getElem h
            have hm' := List.mem_of_getElem? hx
            generalize (pcs (foldS s).data.toList)[m] = p at hx hm'
            have hf := pcs_fit hm'
            obtain ⟨g1, g2, hok⟩ := pcs_pos (foldS s).data.toList p hm'
            have hw := hok.pos
            have hg : (trS s)[p.i]? = some (trS s)[p.i] := List.getElem?_eq_getElem (by omega)
            refine condTI (decide_eq_true h) (thenI hx ?_)
            by_cases h2 : (200 : Int) < (p.i : Int)
            · exact condTI (decide_eq_true h2) rfl
            · refine condFI (decide_eq_false h2) (thenI (way_all s (by omega) p.i (by omega) ((trS s)[p.i]'(by omega)) (by rw [List.getElem?_append_left (by omega)]; exact hg)) (condFI rfl (thenI (lp_get hg) (condFI ?_ (ih (m + 1) (by omega) (by omega))))))
              rw [(eq_Gapi_Span_iff _ _).2 rfl]; rfl
          · exact condFI (decide_eq_false h) rfl
      exact key fuel 0 (Nat.zero_le _) (by have := big_fuel (n := (pcs (foldS s).data.toList).length) (by omega); omega)
    have fin : (joinK (fun (j6 : Option Bool) => loopG (fun _ => none) (law04_FoldWay_s2 s (foldS s, trS s) j6) fuel 0) (andThen (law04_wakes_v) fun (r8 : Bool) => some r8)) = some true := joinI ((last _).trans (thenI wakes_v rfl))
    by_cases h : 0 < (foldS s).size
    · exact condTI (decide_eq_true (by omega)) (thenI (getO_of (n := 0) rfl (trS_head (by omega) (by omega))) (condFI rfl fin))
    · exact condFI (decide_eq_false (by omega)) fin
  intro X hX
  have heq : ∀ b c d e : Int, b = d → c = e → (!(eq_Gapi_Span (⟨b, c⟩ : Gapi_Span) (⟨d, e⟩ : Gapi_Span))) = false := fun b c d e h1 h2 => by subst h1; subst h2; rw [(eq_Gapi_Span_iff _ _).2 rfl]; rfl
  by_cases h : 0 < (foldS s).size
  · refine condTI (decide_eq_true (by omega)) (thenI (getO_of (n := 0) rfl (ha1 h)) (condFI (heq _ _ _ _ rfl rfl) (condFI (by rw [beq_eq_false_iff_ne]; omega) hX)))
  · exact condFI (decide_eq_false (by omega)) (condTI (by rw [beq_iff_eq]; omega) (condFI (heq _ _ _ _ (ha2 (by omega)) rfl) hX))
theorem foldWay_any (s : ByteArray) (w : World) (h0 : s.size ≤ 140737488351232) : Calls Try.prog 9 #[.string s] w fun e w' => e = .returned (.bool true) ∧ Below w.heap.size w w' :=
  law04_FoldWay_fn (foldWay_v s) w
end Go.Proofs.Ythjkafeklflgbaa
