/-
  Texts laid together: LfA, Pcs, Tok, PlA, Ql, PcW, Cls, ClsW, ClsW2, Vow, RefW, RefW3. Nothing is assumed.
-/
import Derived.Test.YtlamcpgnmeileaaFb2
import Derived.Test.YtlamcpgnmeileaaProg
import Derived.Test.YtlamcpgnmeileaaFb1
namespace Go.Proofs.Ytlamcpgnmeileaa
open Go.RowKit Go.Lib
set_option linter.unusedVariables false
set_option linter.unusedSimpArgs false
def ref01_None_v (r1 : Int) : Option Bool := bcond (decide ((r1 : Int) < 0)) ( some true
) ( bcond (decide ((1114111 : Int) < r1)) ( some true
) ( bcond (decide ((55296 : Int) ≤ r1)) ( some (decide ((r1 : Int) ≤ 57343))
) ( some false
)
)
)
set_option maxRecDepth 100000 in
set_option maxHeartbeats 4000000 in
theorem ref01_None_fn {r1 : Int} {r : Bool} (h : ref01_None_v r1 = some r) : FnP Try.prog 99 [.int .i32 r1] (.bool r) := by
 unfold ref01_None_v at h
 refine FnP.intro Try.func99 rfl Try.ntmps99 (by simp) ?_
 intro w0 K
 refine TC.seq (TC.region (TO.assign rfl dc rfl (TO.nil (TX.next (TC.seq (TC.region (TO.move rfl dc rfl (TO.bin rfl dc rfl rfl bin_lss (TO.move rfl dc rfl ?_)))))))))
 refine TO.split (s := 5) rfl (fun hb1 => ?_) (fun hb1 => ?_)
 ·
  have h := condT hb1 h
  refine TO.skip rfl dc (TO.skip rfl dc (TO.pick (b := true) rfl dc rfl rfl (TO.move rfl dc rfl (TO.skip rfl dc (TO.skip rfl dc (TO.skip rfl dc (TO.skip rfl dc (TO.skip rfl dc (TO.skip rfl dc (TO.pick (b := true) rfl dc rfl rfl (TO.assign rfl dc rfl (TO.nil (TX.next ?_)))))))))))))
  refine TC.ret ?_
  cases h
  exact TX.fin (rs := [.tmp 2]) () (.inl rfl) Try.results99 (.cons (.tmp rfl) .nil) rfl Splits.nil
 ·
  have h := condF hb1 h
  refine TO.move rfl dc rfl (TO.bin rfl dc rfl rfl bin_gtr (TO.pick (b := false) rfl dc rfl rfl (TO.move rfl dc rfl ?_)))
  refine TO.split (s := 9) rfl (fun hb2 => ?_) (fun hb2 => ?_)
  ·
   have h := condT hb2 h
   refine TO.skip rfl dc (TO.skip rfl dc (TO.skip rfl dc (TO.skip rfl dc (TO.skip rfl dc (TO.skip rfl dc (TO.pick (b := true) rfl dc rfl rfl (TO.assign rfl dc rfl (TO.nil (TX.next (TC.ret ?_))))))))))
   cases h
   exact TX.fin (rs := [.tmp 2]) () (.inl rfl) Try.results99 (.cons (.tmp rfl) .nil) rfl Splits.nil
  ·
   have h := condF hb2 h
   refine TO.move rfl dc rfl (TO.bin rfl dc rfl rfl bin_geq (TO.move rfl dc rfl ?_))
   refine TO.split (s := 12) rfl (fun hb3 => ?_) (fun hb3 => ?_)
   ·
    have h := condT hb3 h
    refine TO.move rfl dc rfl (TO.bin rfl dc rfl rfl bin_leq (TO.pick (b := true) rfl dc rfl rfl (TO.pick (b := false) rfl dc rfl rfl (TO.assign rfl dc rfl (TO.nil (TX.next (TC.ret ?_)))))))
    cases h
    exact TX.fin (rs := [.tmp 2]) () (.inl rfl) Try.results99 (.cons (.tmp rfl) .nil) rfl Splits.nil
   ·
    have h := condF hb3 h
    refine TO.skip rfl dc (TO.skip rfl dc (TO.pick (b := false) rfl dc rfl rfl (TO.pick (b := false) rfl dc rfl rfl (TO.assign rfl dc rfl (TO.nil (TX.next (TC.ret ?_)))))))
    cases h
    exact TX.fin (rs := [.tmp 2]) () (.inl rfl) Try.results99 (.cons (.tmp rfl) .nil) rfl Splits.nil
def ref01_Width_v (r1 : Int) : Option Int := andThen (ref01_None_v r1) fun (r2 : Bool) => bcond (r2) ( some 0
) ( bcond (decide ((r1 : Int) < 128)) ( some 1
) ( bcond (decide ((r1 : Int) < 2048)) ( some 2
) ( bcond (decide ((r1 : Int) < 65536)) ( some 3
) ( some 4
)
)
)
)
set_option maxRecDepth 100000 in
set_option maxHeartbeats 4000000 in
theorem ref01_Width_fn {r1 : Int} {r : Int} (h : ref01_Width_v r1 = some r) : FnP Try.prog 100 [.int .i32 r1] (.int .i64 r) := by
 unfold ref01_Width_v at h
 refine FnP.intro Try.func100 rfl Try.ntmps100 (by simp) ?_
 intro w0 K
 refine TC.seq (TC.region (TO.assign rfl dc rfl (TO.nil (TX.next (TC.seq (TC.block (TC.seq (TC.region (TO.move rfl dc rfl ?_)))))))))
 obtain ⟨r2, hq1, h⟩ := andE h
 refine TO.callP (v := .bool r2) (vs := [.int .i32 r1]) rfl dc rfl rfl rfl en_99 (ref01_None_fn hq1) (TO.assign rfl dc rfl (TO.nil (TX.next ?_)))
 refine TC.condB rfl (fun hb1 => ?_) (fun hb1 => ?_)
 ·
  have h := condT hb1 h
  refine TC.seq (TC.region (TO.assign rfl dc rfl (TO.nil (TX.next (TC.ret (TX.blockRet (TX.thenRet ?_)))))))
  cases h
  exact TX.fin (rs := [.tmp 2]) () (.inl rfl) Try.results100 (.cons (.tmp rfl) .nil) rfl Splits.nil
 ·
  have h := condF hb1 h
  refine TC.seq (TC.region (TO.move rfl dc rfl (TO.bin rfl dc rfl rfl bin_lss (TO.assign rfl dc rfl (TO.nil (TX.next ?_))))))
  refine TC.condB rfl (fun hb2 => ?_) (fun hb2 => ?_)
  ·
   have h := condT hb2 h
   refine TC.seq (TC.region (TO.assign rfl dc rfl (TO.nil (TX.next (TC.ret (TX.blockRet (TX.thenRet ?_)))))))
   cases h
   exact TX.fin (rs := [.tmp 2]) () (.inl rfl) Try.results100 (.cons (.tmp rfl) .nil) rfl Splits.nil
  ·
   have h := condF hb2 h
   refine TC.seq (TC.region (TO.move rfl dc rfl (TO.bin rfl dc rfl rfl bin_lss (TO.assign rfl dc rfl (TO.nil (TX.next ?_))))))
   refine TC.condB rfl (fun hb3 => ?_) (fun hb3 => ?_)
   ·
    have h := condT hb3 h
    refine TC.seq (TC.region (TO.assign rfl dc rfl (TO.nil (TX.next (TC.ret (TX.blockRet (TX.thenRet ?_)))))))
    cases h
    exact TX.fin (rs := [.tmp 2]) () (.inl rfl) Try.results100 (.cons (.tmp rfl) .nil) rfl Splits.nil
   ·
    have h := condF hb3 h
    refine TC.seq (TC.region (TO.move rfl dc rfl (TO.bin rfl dc rfl rfl bin_lss (TO.assign rfl dc rfl (TO.nil (TX.next ?_))))))
    refine TC.condB rfl (fun hb4 => ?_) (fun hb4 => ?_)
    ·
     have h := condT hb4 h
     refine TC.seq (TC.region (TO.assign rfl dc rfl (TO.nil (TX.next (TC.ret (TX.blockRet (TX.thenRet ?_)))))))
     cases h
     exact TX.fin (rs := [.tmp 2]) () (.inl rfl) Try.results100 (.cons (.tmp rfl) .nil) rfl Splits.nil
    ·
     have h := condF hb4 h
     refine TC.skip (TX.blockNormal (TX.next (TC.seq (TC.region (TO.assign rfl dc rfl (TO.nil (TX.next (TC.ret ?_))))))))
     cases h
     exact TX.fin (rs := [.tmp 2]) () (.inl rfl) Try.results100 (.cons (.tmp rfl) .nil) rfl Splits.nil
def ref01_Encode_s1 (j2 : Int → (List Int) → Option ByteArray) (ag1 : Int → (List Int) → Int → Option ByteArray) (r8 : Int) (b5 : List Int) (i3 : Int) : Option ByteArray := bcond (decide ((0 : Int) < i3)) ( grd (I32 (128 + (Int.tmod r8 64))) <| andThen (getO b5 i3) fun (q1 : Int) => grd (I32 (Int.tdiv r8 64)) <| grd (I64 (i3 - 1)) <| ag1 (Int.tdiv r8 64) (b5.set (i3 : Int).toNat (IntKind.u8.wrap (128 + (Int.tmod r8 64)))) (i3 - 1)
) ( j2 r8 b5
)
def ref01_Encode_v (r1 : Int) : Option ByteArray := joinK (fun (j1 : Int → Option ByteArray) => andThen (ref01_None_v r1) fun (r3 : Bool) => bcond (r3) ( j1 65533
) ( j1 r1
)
) (fun (r2 : Int) => andThen (ref01_Width_v r2) fun (r4 : Int) => bcond ((r4 : Int) == 1) ( grd (∀ x ∈ ([IntKind.u8.wrap r2] : List Int), U8 x) <| some (bytesOf ([IntKind.u8.wrap r2] : List Int))
) ( joinK (fun (j2 : Int → (List Int) → Option ByteArray) => grd (0 ≤ r4 ∧ r4 ≤ 2147483648) <| grd (I64 (r4 - 1)) <| loopG (fun _ _ _ => none) (ref01_Encode_s1 j2) fuel r2 (List.replicate (r4 : Int).toNat 0) (r4 - 1)
) (fun (r5 : Int) (b2 : List Int) => grd (I64 (8 - r4)) <| grd (0 ≤ (8 - r4)) <| grd (I64 (256 - (shlI .i64 1 (8 - r4)))) <| grd (I64 r5) <| grd (I64 ((256 - (shlI .i64 1 (8 - r4))) + r5)) <| andThen (getO b2 0) fun (q2 : Int) => grd (∀ x ∈ b2.set (0 : Int).toNat (IntKind.u8.wrap ((256 - (shlI .i64 1 (8 - r4))) + r5)), U8 x) <| some (bytesOf (b2.set (0 : Int).toNat (IntKind.u8.wrap ((256 - (shlI .i64 1 (8 - r4))) + r5))))
)
)
)
set_option maxRecDepth 100000 in
set_option maxHeartbeats 4000000 in
theorem ref01_Encode_fn {r1 : Int} {r : ByteArray} (h : ref01_Encode_v r1 = some r) : FnP Try.prog 91 [.int .i32 r1] (.string r) := by
 unfold ref01_Encode_v at h
 refine FnP.intro Try.func91 rfl Try.ntmps91 (by simp) ?_
 intro w0 K
 obtain ⟨j1, hj1, h⟩ := joinE h
 refine TC.cutN (β := Int) 1 rfl (fun b => j1 b = some r) (fun b => []) (fun b => [(0, .int .i32 b)]) (fun b => []) (fun cut => ?_) ?_
 ·
  refine TC.seq (TC.region (TO.assign rfl dc rfl (TO.nil (TX.next (cut (TC.seq (TC.region (TO.move rfl dc rfl ?_))))))))
  obtain ⟨r3, hq1, h⟩ := andE h
  refine TO.callP (v := .bool r3) (vs := [.int .i32 r1]) rfl dc rfl rfl rfl en_99 (ref01_None_fn hq1) (TO.nil (TX.next ?_))
  refine TC.condB rfl (fun hb1 => ?_) (fun hb1 => ?_)
  ·
   have h := condT hb1 h
   refine TC.region (TO.assign rfl dc rfl (TO.nil ?_))
   exact TX.meetD 65533 h rfl (Sbs.cons rfl (Sbs.nil)) Splits.nil
  ·
   have h := condF hb1 h
   refine TC.skip ?_
   exact TX.meetD r1 h rfl (Sbs.cons rfl (Sbs.nil)) Splits.nil
 ·
  rintro r2 h
  rw [hj1] at h
  show TC _ _ _ _ _ ([]) _ _ [(0, .int .i32 r2)] []
  refine TC.seq (TC.region (TO.move rfl dc rfl ?_))
  obtain ⟨r4, hq2, h⟩ := andE h
  refine TO.callP (v := .int .i64 r4) (vs := [.int .i32 r2]) rfl dc rfl rfl rfl en_100 (ref01_Width_fn hq2) (TO.assign rfl dc rfl (TO.nil (TX.next (TC.seq (TC.seq (TC.region (TO.move rfl dc rfl (TO.bin rfl dc rfl rfl bin_eql (TO.nil (TX.next ?_))))))))))
  refine TC.condB rfl (fun hb2 => ?_) (fun hb2 => ?_)
  ·
   have h := condT hb2 h
   refine TC.seq (TC.region (TO.move rfl dc rfl (TO.conv rfl dc rfl (conv_wrap Try.underlying21 Try.underlying5) ?_)))
   refine TO.buildSlice (cs := [.int .u8 (IntKind.u8.wrap r2)]) (te := 5) (ps := [(0, .tmp 13)]) rfl dc rfl (fun _ => by kernel_rfl) (fun b1 => ?_)
   refine TO.toVec ([IntKind.u8.wrap r2] : List Int) (k := 0) rfl encI_len rfl (show 1 ≤ maxLen by decide) ?_
   show TO _ _ _ _ _ _ _ _ _ _ [vec (encI (.u8)) 5 1 (.slice (some ⟨b1, 0, none⟩) 1 1) ([IntKind.u8.wrap r2] : List Int)]
   obtain ⟨hg1, h⟩ := grdE h
   refine TO.rewE (k := 0) rfl (vec_byt hg1) ?_
   show TO _ _ _ _ _ _ _ _ _ _ [byt 5 (.slice (some ⟨b1, 0, none⟩) 1 1) (bytesOf ([IntKind.u8.wrap r2] : List Int))]
   refine TO.bytStr (k := 0) rfl dc rfl rfl Try.underlying82 Try.underlying5 Try.underlying9 (TO.assign rfl dc rfl (TO.nil (TX.next (TC.ret (TX.thenRet ?_)))))
   cases h
   exact TX.fin (rs := [.tmp 2]) () (.inl rfl) Try.results91 (.cons (.tmp rfl) .nil) rfl Splits.nil
  ·
   have h := condF hb2 h
   refine TC.skip (TX.next ?_)
   obtain ⟨j2, hj2, h⟩ := joinE h
   refine TC.cutN (β := Int × (List Int) × Value) 1 rfl (fun b => j2 b.1 b.2.1 = some r) (fun b => []) (fun b => [(0, .int .i32 b.1), (3, .int .i64 r4), (4, b.2.2)]) (fun b => [vec (encI (.u8)) 5 1 b.2.2 b.2.1]) (fun cut => ?_) ?_
   ·
    refine TC.seq (TC.region (TO.move rfl dc rfl ?_))
    obtain ⟨hg2, h⟩ := grdE h
    refine TO.makeVec (z := 0) Try.underlying82 el_5 zr_5 encI_len rfl dc rfl hg2 (fun v2 => ?_)
    refine TO.assign rfl dc rfl (TO.nil (TX.next (cut (TC.seq (TC.region (TO.move rfl dc rfl ?_))))))
    obtain ⟨hg3, h⟩ := grdE h
    refine TO.bin rfl dc rfl rfl (bin_sub (r := r4 - 1) (IntWalk.i64_in _ hg3)) (TO.assign rfl dc rfl (TO.nil (TX.next (TC.block ?_))))
    refine TC.loopD (β := Nat × Int × (List Int) × Int) (fun b => loopG (fun _ _ _ => none) (ref01_Encode_s1 j2) b.1 b.2.1 b.2.2.1 b.2.2.2 = some r) (fun b => []) (fun b => [(0, .int .i32 b.2.1), (3, .int .i64 r4), (4, v2), (5, .int .i64 b.2.2.2)]) (fun b => [vec (encI (.u8)) 5 1 v2 b.2.2.1]) (fun b => b.1) (fuel, r2, List.replicate (r4 : Int).toNat 0, r4 - 1) h rfl (Sbs.cons rfl (Sbs.cons rfl (Sbs.cons rfl (Sbs.cons rfl (Sbs.nil))))) (Splits.of [0] kr rfl) ?_
    rintro ⟨n1, r8, b5, i3⟩ h
    cases n1 with
    | zero => exact noneE h
    | succ n1 =>
     obtain ⟨ag1, hag1⟩ : ∃ ag, ag = loopG (fun _ _ _ => none) (ref01_Encode_s1 j2) n1 := ⟨_, rfl⟩
     have h : ref01_Encode_s1 j2 ag1 r8 b5 i3 = some r := by rw [hag1]; exact h
     unfold ref01_Encode_s1 at h
     show TC _ _ _ _ _ ([]) _ _ [(0, .int .i32 r8), (3, .int .i64 r4), (4, v2), (5, .int .i64 i3)] [vec (encI (.u8)) 5 1 v2 b5]
     refine TC.seq (TC.seq (TC.region (TO.move rfl dc rfl (TO.bin rfl dc rfl rfl bin_gtr (TO.nil (TX.next ?_))))))
     refine TC.condB rfl (fun hb3 => ?_) (fun hb3 => ?_)
     ·
      have h := condT hb3 h
      refine TC.skip (TX.next (TC.seq (TC.block (TC.seq (TC.region (TO.move rfl dc rfl (TO.move rfl dc rfl (TO.move rfl dc rfl (TO.bin rfl dc rfl rfl (bin_rem dc rfl) ?_)))))))))
      obtain ⟨hg4, h⟩ := grdE h
      refine TO.bin rfl dc rfl rfl (bin_add (r := 128 + (Int.tmod r8 64)) (IntWalk.i32_in _ hg4)) (TO.conv rfl dc rfl (conv_wrap Try.underlying21 Try.underlying5) ?_)
      obtain ⟨q1, hq3, h⟩ := andE h
      refine TO.indexVecI (k := 0) hq3 Try.underlying82 sz_5 rfl dc rfl rfl rfl rfl ?_
      refine TO.storeVec (i := (i3 : Int).toNat) (j := 0) (k := 0) (q := q1) (q' := IntKind.u8.wrap (128 + (Int.tmod r8 64))) sz_5 encI_len rfl rfl rfl rfl (getO_get hq3) rfl dc rfl (fun _ _ => rfl) ?_
      refine TO.nil (TX.next (TC.region (TO.move rfl dc rfl ?_)))
      obtain ⟨hg5, h⟩ := grdE h
      refine TO.bin rfl dc rfl rfl (bin_quo dc (IntWalk.i32_in _ hg5)) (TO.assign rfl dc rfl (TO.nil (TX.blockNormal (TX.next (TC.region (TO.move rfl dc rfl ?_))))))
      obtain ⟨hg6, h⟩ := grdE h
      refine TO.bin rfl dc rfl rfl (bin_sub (r := i3 - 1) (IntWalk.i64_in _ hg6)) (TO.assign rfl dc rfl (TO.nil ?_))
      subst hag1
      exact TX.againD (n1, Int.tdiv r8 64, b5.set (i3 : Int).toNat (IntKind.u8.wrap (128 + (Int.tmod r8 64))), i3 - 1) h (Nat.lt_succ_self _) rfl (Sbs.cons rfl (Sbs.cons rfl (Sbs.cons rfl (Sbs.cons rfl (Sbs.nil))))) (Splits.of [0] kr rfl)
     ·
      have h := condF hb3 h
      refine TC.exit (TX.thenExit (TX.thenExit (TX.blockHere ?_)))
      exact TX.meetD (r8, b5, v2) h rfl (Sbs.cons rfl (Sbs.cons rfl (Sbs.cons rfl (Sbs.nil)))) (Splits.of [0] kr rfl)
   ·
    rintro ⟨r5, b2, v1⟩ h
    rw [hj2] at h
    show TC _ _ _ _ _ ([]) _ _ [(0, .int .i32 r5), (3, .int .i64 r4), (4, v1)] [vec (encI (.u8)) 5 1 v1 b2]
    refine TC.seq (TC.region (TO.move rfl dc rfl (TO.move rfl dc rfl ?_)))
    obtain ⟨hg7, h⟩ := grdE h
    refine TO.bin rfl dc rfl rfl (bin_sub (r := 8 - r4) (IntWalk.i64_in _ hg7)) ?_
    obtain ⟨hg8, h⟩ := grdE h
    refine TO.bin rfl dc rfl rfl (bin_shl hg8) ?_
    obtain ⟨hg9, h⟩ := grdE h
    refine TO.bin rfl dc rfl rfl (bin_sub (r := 256 - (shlI .i64 1 (8 - r4))) (IntWalk.i64_in _ hg9)) (TO.move rfl dc rfl ?_)
    obtain ⟨hg10, h⟩ := grdE h
    refine TO.conv rfl dc rfl (conv_int (r := r5) Try.underlying21 Try.underlying3 (IntWalk.i64_in _ hg10)) ?_
    obtain ⟨hg11, h⟩ := grdE h
    refine TO.bin rfl dc rfl rfl (bin_add (r := (256 - (shlI .i64 1 (8 - r4))) + r5) (IntWalk.i64_in _ hg11)) (TO.conv rfl dc rfl (conv_wrap Try.underlying3 Try.underlying5) ?_)
    obtain ⟨q2, hq4, h⟩ := andE h
    refine TO.indexVecI (k := 0) hq4 Try.underlying82 sz_5 rfl dc rfl rfl rfl rfl ?_
    refine TO.storeVec (i := (0 : Int).toNat) (j := 0) (k := 0) (q := q2) (q' := IntKind.u8.wrap ((256 - (shlI .i64 1 (8 - r4))) + r5)) sz_5 encI_len rfl rfl rfl rfl (getO_get hq4) rfl dc rfl (fun _ _ => rfl) ?_
    refine TO.nil (TX.next (TC.seq (TC.region (TO.move rfl dc rfl ?_))))
    obtain ⟨hg12, h⟩ := grdE h
    refine TO.rewE (k := 0) rfl (vec_byt hg12) ?_
    show TO _ _ _ _ _ _ _ _ _ _ [byt 5 v1 (bytesOf (b2.set (0 : Int).toNat (IntKind.u8.wrap ((256 - (shlI .i64 1 (8 - r4))) + r5))))]
    refine TO.bytStr (k := 0) rfl dc rfl rfl Try.underlying82 Try.underlying5 Try.underlying9 (TO.assign rfl dc rfl (TO.nil (TX.next (TC.ret ?_))))
    cases h
    exact TX.fin (rs := [.tmp 2]) () (.inl rfl) Try.results91 (.cons (.tmp rfl) .nil) rfl Splits.nil
def ref01_Form_s2 (s1 : ByteArray) (at1 : Int) (n3 : Int) (j4 : Int → Option (Int × Int)) (ag2 : Int → Int → Option (Int × Int)) (r5 : Int) (i3 : Int) : Option (Int × Int) := bcond (decide ((i3 : Int) < n3)) ( grd (I32 (r5 * 64)) <| grd (I64 (at1 + i3)) <| andThen (getB s1 (at1 + i3)) fun (c2 : Int) => grd (I32 c2) <| grd (I32 ((r5 * 64) + c2)) <| grd (I32 (((r5 * 64) + c2) - 128)) <| grd (I64 (i3 + 1)) <| ag2 (((r5 * 64) + c2) - 128) (i3 + 1)
) ( j4 r5
)
def ref01_Form_s1 (s1 : ByteArray) (at1 : Int) (j1 : Option (Int × Int)) (ag1 : Int → Option (Int × Int)) (n3 : Int) : Option (Int × Int) := bcond (decide ((n3 : Int) ≤ 4)) ( grd (I64 (at1 + n3)) <| bcond (decide (((at1 + n3) : Int) ≤ (s1.size : Int))) ( joinK (fun (j2 : Option (Int × Int)) => joinK (fun (j3 : Int → Option (Int × Int)) => andThen (getB s1 at1) fun (c1 : Int) => grd (I32 c1) <| bcond (decide ((1 : Int) < n3)) ( grd (I64 (8 - n3)) <| grd (0 ≤ (8 - n3)) <| grd (I32 (256 - (shlI .i32 1 (8 - n3)))) <| grd (I32 (c1 - (256 - (shlI .i32 1 (8 - n3))))) <| j3 (c1 - (256 - (shlI .i32 1 (8 - n3))))
) ( j3 c1
)
) (fun (r1 : Int) => joinK (fun (j4 : Int → Option (Int × Int)) => loopG (fun _ _ => none) (ref01_Form_s2 s1 at1 n3 j4) fuel r1 1
) (fun (r2 : Int) => andThen (ref01_None_v r2) fun (r6 : Bool) => bcond (!r6) ( andThen (ref01_Width_v r2) fun (r7 : Int) => bcond ((r7 : Int) == n3) ( andThen (ref01_Encode_v r2) fun (r8 : ByteArray) => grd (I64 (at1 + n3)) <| grd (0 ≤ (at1 : Int) ∧ (at1 : Int) ≤ (at1 + n3) ∧ (at1 + n3 : Int) ≤ (s1.size : Int)) <| bcond (decide (r8 = cutB s1 at1 (at1 + n3))) ( some (r2, n3)
) ( j2
)
) ( j2
)
) ( j2
)
)
)
) ( grd (I64 (n3 + 1)) <| ag1 (n3 + 1)
)
) ( j1
)
) ( j1
)
def ref01_Form_v (s1 : ByteArray) (at1 : Int) : Option (Int × Int) := joinK (fun (j1 : Option (Int × Int)) => loopG (fun _ => none) (ref01_Form_s1 s1 at1 j1) fuel 1
) ( some (0, 0)
)
set_option maxRecDepth 100000 in
set_option maxHeartbeats 4000000 in
theorem ref01_Form_fn {s1 : ByteArray} {at1 : Int} {r : (Int × Int)} (h : ref01_Form_v s1 at1 = some r) : FnP Try.prog 93 [.string s1, .int .i64 at1] (.tuple #[.int .i32 r.1, .int .i64 r.2]) := by
 unfold ref01_Form_v at h
 refine FnP.intro Try.func93 rfl Try.ntmps93 (by simp) ?_
 intro w0 K
 obtain ⟨j1, hj1, h⟩ := joinE h
 refine TC.cutN (β := Unit) 1 rfl (fun b => j1 = some r) (fun b => []) (fun b => []) (fun b => []) (fun cut => ?_) ?_
 ·
  refine TC.seq (TC.region (TO.assign rfl dc rfl (TO.assign rfl dc rfl (TO.nil (TX.next (cut (TC.seq (TC.region (TO.assign rfl dc rfl (TO.nil (TX.next (TC.block ?_))))))))))))
  refine TC.loopD (β := Nat × Int) (fun b => loopG (fun _ => none) (ref01_Form_s1 s1 at1 j1) b.1 b.2 = some r) (fun b => []) (fun b => [(0, .string s1), (1, .int .i64 at1), (6, .int .i64 b.2)]) (fun b => []) (fun b => b.1) (fuel, 1) h rfl (Sbs.cons rfl (Sbs.cons rfl (Sbs.cons rfl (Sbs.nil)))) Splits.nil ?_
  rintro ⟨n4, n3⟩ h
  cases n4 with
  | zero => exact noneE h
  | succ n4 =>
   obtain ⟨ag1, hag1⟩ : ∃ ag, ag = loopG (fun _ => none) (ref01_Form_s1 s1 at1 j1) n4 := ⟨_, rfl⟩
   have h : ref01_Form_s1 s1 at1 j1 ag1 n3 = some r := by rw [hag1]; exact h
   unfold ref01_Form_s1 at h
   show TC _ _ _ _ _ ([]) _ _ [(0, .string s1), (1, .int .i64 at1), (6, .int .i64 n3)] []
   refine TC.seq (TC.seq (TC.region (TO.move rfl dc rfl (TO.bin rfl dc rfl rfl bin_leq (TO.move rfl dc rfl ?_)))))
   refine TO.split (s := 11) rfl (fun hb1 => ?_) (fun hb1 => ?_)
   ·
    have h := condT hb1 h
    refine TO.move rfl dc rfl (TO.move rfl dc rfl ?_)
    obtain ⟨hg1, h⟩ := grdE h
    refine TO.bin rfl dc rfl rfl (bin_add (r := at1 + n3) (IntWalk.i64_in _ hg1)) (TO.move rfl dc rfl (TO.lenStr rfl dc rfl Try.underlying9 (TO.bin rfl dc rfl rfl bin_leq (TO.pick (b := true) rfl dc rfl rfl (TO.nil (TX.next ?_))))))
    refine TC.condB rfl (fun hb2 => ?_) (fun hb2 => ?_)
    ·
     have h := condT hb2 h
     refine TC.skip (TX.next ?_)
     obtain ⟨j2, hj2, h⟩ := joinE h
     refine TC.cutN (β := Unit) 0 rfl (fun b => j2 = some r) (fun b => []) (fun b => [(0, .string s1), (1, .int .i64 at1), (6, .int .i64 n3), (12, .int .i64 at1), (13, .int .i64 n3), (14, .int .i64 (at1 + n3)), (15, .string s1), (16, .int .i64 (s1.size : Int)), (17, .bool (decide (((at1 + n3) : Int) ≤ (s1.size : Int))))]) (fun b => []) (fun cut => ?_) ?_
     ·
      refine cut (TC.block ?_)
      obtain ⟨j3, hj3, h⟩ := joinE h
      refine TC.cutN (β := Int) 1 rfl (fun b => j3 b = some r) (fun b => []) (fun b => [(0, .string s1), (1, .int .i64 at1), (6, .int .i64 n3), (7, .int .i32 b), (12, .int .i64 at1), (13, .int .i64 n3), (14, .int .i64 (at1 + n3)), (15, .string s1), (16, .int .i64 (s1.size : Int)), (17, .bool (decide (((at1 + n3) : Int) ≤ (s1.size : Int))))]) (fun b => []) (fun cut => ?_) ?_
      ·
       refine TC.seq (TC.region (TO.move rfl dc rfl (TO.move rfl dc rfl ?_)))
       obtain ⟨c1, hq1, h⟩ := andE h
       refine TO.index rfl dc rfl rfl (index_stringI Try.underlying9 hq1) ?_
       obtain ⟨hg2, h⟩ := grdE h
       refine TO.conv rfl dc rfl (conv_int (r := c1) Try.underlying5 Try.underlying21 (IntWalk.i32_in _ hg2)) (TO.assign rfl dc rfl (TO.nil (TX.next (cut (TC.seq (TC.region (TO.move rfl dc rfl (TO.bin rfl dc rfl rfl bin_gtr (TO.nil (TX.next ?_))))))))))
       refine TC.condB rfl (fun hb3 => ?_) (fun hb3 => ?_)
       ·
        have h := condT hb3 h
        refine TC.region (TO.move rfl dc rfl (TO.move rfl dc rfl ?_))
        obtain ⟨hg3, h⟩ := grdE h
        refine TO.bin rfl dc rfl rfl (bin_sub (r := 8 - n3) (IntWalk.i64_in _ hg3)) ?_
        obtain ⟨hg4, h⟩ := grdE h
        refine TO.bin rfl dc rfl rfl (bin_shl hg4) ?_
        obtain ⟨hg5, h⟩ := grdE h
        refine TO.bin rfl dc rfl rfl (bin_sub (r := 256 - (shlI .i32 1 (8 - n3))) (IntWalk.i32_in _ hg5)) ?_
        obtain ⟨hg6, h⟩ := grdE h
        refine TO.bin rfl dc rfl rfl (bin_sub (r := c1 - (256 - (shlI .i32 1 (8 - n3)))) (IntWalk.i32_in _ hg6)) (TO.assign rfl dc rfl (TO.nil ?_))
        exact TX.meetD (c1 - (256 - (shlI .i32 1 (8 - n3)))) h rfl (Sbs.cons rfl (Sbs.cons rfl (Sbs.cons rfl (Sbs.cons rfl (Sbs.cons rfl (Sbs.cons rfl (Sbs.cons rfl (Sbs.cons rfl (Sbs.cons rfl (Sbs.cons rfl (Sbs.nil))))))))))) Splits.nil
       ·
        have h := condF hb3 h
        refine TC.skip ?_
        exact TX.meetD c1 h rfl (Sbs.cons rfl (Sbs.cons rfl (Sbs.cons rfl (Sbs.cons rfl (Sbs.cons rfl (Sbs.cons rfl (Sbs.cons rfl (Sbs.cons rfl (Sbs.cons rfl (Sbs.cons rfl (Sbs.nil))))))))))) Splits.nil
      ·
       rintro r1 h
       rw [hj3] at h
       show TC _ _ _ _ _ ([]) _ _ [(0, .string s1), (1, .int .i64 at1), (6, .int .i64 n3), (7, .int .i32 r1), (12, .int .i64 at1), (13, .int .i64 n3), (14, .int .i64 (at1 + n3)), (15, .string s1), (16, .int .i64 (s1.size : Int)), (17, .bool (decide (((at1 + n3) : Int) ≤ (s1.size : Int))))] []
       obtain ⟨j4, hj4, h⟩ := joinE h
       refine TC.cutN (β := Int) 0 rfl (fun b => j4 b = some r) (fun b => []) (fun b => [(0, .string s1), (1, .int .i64 at1), (6, .int .i64 n3), (7, .int .i32 b), (12, .int .i64 at1), (13, .int .i64 n3), (14, .int .i64 (at1 + n3)), (15, .string s1), (16, .int .i64 (s1.size : Int)), (17, .bool (decide (((at1 + n3) : Int) ≤ (s1.size : Int))))]) (fun b => []) (fun cut => ?_) ?_
       ·
        refine cut (TC.seq (TC.region (TO.assign rfl dc rfl (TO.nil (TX.next (TC.block ?_))))))
        refine TC.loopD (β := Nat × Int × Int) (fun b => loopG (fun _ _ => none) (ref01_Form_s2 s1 at1 n3 j4) b.1 b.2.1 b.2.2 = some r) (fun b => []) (fun b => [(0, .string s1), (1, .int .i64 at1), (6, .int .i64 n3), (7, .int .i32 b.2.1), (8, .int .i64 b.2.2), (12, .int .i64 at1), (13, .int .i64 n3), (14, .int .i64 (at1 + n3)), (15, .string s1), (16, .int .i64 (s1.size : Int)), (17, .bool (decide (((at1 + n3) : Int) ≤ (s1.size : Int))))]) (fun b => []) (fun b => b.1) (fuel, r1, 1) h rfl (Sbs.cons rfl (Sbs.cons rfl (Sbs.cons rfl (Sbs.cons rfl (Sbs.cons rfl (Sbs.cons rfl (Sbs.cons rfl (Sbs.cons rfl (Sbs.cons rfl (Sbs.cons rfl (Sbs.cons rfl (Sbs.nil)))))))))))) Splits.nil ?_
        rintro ⟨n5, r5, i3⟩ h
        cases n5 with
        | zero => exact noneE h
        | succ n5 =>
         obtain ⟨ag2, hag2⟩ : ∃ ag, ag = loopG (fun _ _ => none) (ref01_Form_s2 s1 at1 n3 j4) n5 := ⟨_, rfl⟩
         have h : ref01_Form_s2 s1 at1 n3 j4 ag2 r5 i3 = some r := by rw [hag2]; exact h
         unfold ref01_Form_s2 at h
         show TC _ _ _ _ _ ([]) _ _ [(0, .string s1), (1, .int .i64 at1), (6, .int .i64 n3), (7, .int .i32 r5), (8, .int .i64 i3), (12, .int .i64 at1), (13, .int .i64 n3), (14, .int .i64 (at1 + n3)), (15, .string s1), (16, .int .i64 (s1.size : Int)), (17, .bool (decide (((at1 + n3) : Int) ≤ (s1.size : Int))))] []
         refine TC.seq (TC.seq (TC.region (TO.move rfl dc rfl (TO.move rfl dc rfl (TO.bin rfl dc rfl rfl bin_lss (TO.nil (TX.next ?_)))))))
         refine TC.condB rfl (fun hb4 => ?_) (fun hb4 => ?_)
         ·
          have h := condT hb4 h
          refine TC.skip (TX.next (TC.seq (TC.block (TC.region (TO.move rfl dc rfl ?_)))))
          obtain ⟨hg7, h⟩ := grdE h
          refine TO.bin rfl dc rfl rfl (bin_mul (r := r5 * 64) (IntWalk.i32_in _ hg7)) (TO.move rfl dc rfl (TO.move rfl dc rfl (TO.move rfl dc rfl ?_)))
          obtain ⟨hg8, h⟩ := grdE h
          refine TO.bin rfl dc rfl rfl (bin_add (r := at1 + i3) (IntWalk.i64_in _ hg8)) ?_
          obtain ⟨c2, hq2, h⟩ := andE h
          refine TO.index rfl dc rfl rfl (index_stringI Try.underlying9 hq2) ?_
          obtain ⟨hg9, h⟩ := grdE h
          refine TO.conv rfl dc rfl (conv_int (r := c2) Try.underlying5 Try.underlying21 (IntWalk.i32_in _ hg9)) ?_
          obtain ⟨hg10, h⟩ := grdE h
          refine TO.bin rfl dc rfl rfl (bin_add (r := (r5 * 64) + c2) (IntWalk.i32_in _ hg10)) ?_
          obtain ⟨hg11, h⟩ := grdE h
          refine TO.bin rfl dc rfl rfl (bin_sub (r := ((r5 * 64) + c2) - 128) (IntWalk.i32_in _ hg11)) (TO.assign rfl dc rfl (TO.nil (TX.blockNormal (TX.next (TC.region (TO.move rfl dc rfl ?_))))))
          obtain ⟨hg12, h⟩ := grdE h
          refine TO.bin rfl dc rfl rfl (bin_add (r := i3 + 1) (IntWalk.i64_in _ hg12)) (TO.assign rfl dc rfl (TO.nil ?_))
          subst hag2
          exact TX.againD (n5, ((r5 * 64) + c2) - 128, i3 + 1) h (Nat.lt_succ_self _) rfl (Sbs.cons rfl (Sbs.cons rfl (Sbs.cons rfl (Sbs.cons rfl (Sbs.cons rfl (Sbs.cons rfl (Sbs.cons rfl (Sbs.cons rfl (Sbs.cons rfl (Sbs.cons rfl (Sbs.cons rfl (Sbs.nil)))))))))))) Splits.nil
         ·
          have h := condF hb4 h
          refine TC.exit (TX.thenExit (TX.thenExit (TX.blockHere ?_)))
          exact TX.meetD r5 h rfl (Sbs.cons rfl (Sbs.cons rfl (Sbs.cons rfl (Sbs.cons rfl (Sbs.cons rfl (Sbs.cons rfl (Sbs.cons rfl (Sbs.cons rfl (Sbs.cons rfl (Sbs.cons rfl (Sbs.nil))))))))))) Splits.nil
       ·
        rintro r2 h
        rw [hj4] at h
        show TC _ _ _ _ _ ([]) _ _ [(0, .string s1), (1, .int .i64 at1), (6, .int .i64 n3), (7, .int .i32 r2), (12, .int .i64 at1), (13, .int .i64 n3), (14, .int .i64 (at1 + n3)), (15, .string s1), (16, .int .i64 (s1.size : Int)), (17, .bool (decide (((at1 + n3) : Int) ≤ (s1.size : Int))))] []
        refine TC.seq ?_
        obtain ⟨r6, hq3, h⟩ := andE h
        refine TC.bySplit (b := !r6) (fun hb5 => ?_) (fun hb5 => ?_)
        ·
         have h := condT hb5 h
         obtain ⟨r7, hq4, h⟩ := andE h
         refine TC.bySplit (b := (r7 : Int) == n3) (fun hb6 => ?_) (fun hb6 => ?_)
         ·
          have h := condT hb6 h
          obtain ⟨r8, hq5, h⟩ := andE h
          obtain ⟨hg13, h⟩ := grdE h
          obtain ⟨hg14, h⟩ := grdE h
          refine TC.drawN 18 [(0, 48, .int .i32 r2), (1, 49, .bool r6), (2, 50, .bool true), (3, 51, .bool true), (4, 52, .int .i32 r2), (5, 53, .int .i64 r7), (6, 54, .int .i64 n3), (7, 55, .bool true), (8, 56, .bool true), (9, 57, .bool true), (10, 58, .int .i32 r2), (11, 59, .string r8), (12, 60, .string s1), (13, 61, .int .i64 at1), (14, 62, .int .i64 at1), (15, 63, .int .i64 n3), (16, 64, .int .i64 (at1 + n3)), (17, 65, .string (cutB s1 at1 (at1 + n3)))] mixed kr kr dc (by rfl) kr kr (DrawPre.cons ?_ (DrawPre.cons ?_ (DrawPre.cons ?_ (DrawPre.cons ?_ (DrawPre.cons ?_ (DrawPre.cons ?_ (DrawPre.cons ?_ (DrawPre.cons ?_ (DrawPre.cons ?_ (DrawPre.cons ?_ (DrawPre.cons ?_ (DrawPre.cons ?_ (DrawPre.cons ?_ (DrawPre.cons ?_ (DrawPre.cons ?_ (DrawPre.cons ?_ (DrawPre.cons ?_ (DrawPre.cons ?_ DrawPre.nil)))))))))))))))))) ?_
          ·
           intro D hn hd hcl hu hi
           refine TO.move rfl dc (dl_old (by rfl) rfl) ?_
           exact TX.quiet 0 hu hi rfl
          ·
           intro D hn hd hcl hu hi
           refine TO.callP (v := .bool r6) (vs := [.int .i32 r2]) rfl dc rfl (evL.cons (dl_lookup (m := 0) hu rfl (hd 0 dc)) evL.nil) rfl en_99 (ref01_None_fn hq3) ?_
           exact TX.quiet 1 hu hi rfl
          ·
           intro D hn hd hcl hu hi
           refine TO.un rfl dc (dl_lookup (m := 1) hu rfl (hd 1 dc)) un_not (TO.rewH (show Value.bool (!r6) = Value.bool true from congrArg Value.bool hb5) ?_)
           exact TX.quiet 2 hu hi rfl
          ·
           intro D hn hd hcl hu hi
           refine TO.move rfl dc (dl_lookup (m := 2) hu rfl (hd 2 dc)) ?_
           exact TX.quiet 3 hu hi rfl
          ·
           intro D hn hd hcl hu hi
           refine TO.move (gd_T rfl (dl_lookup (m := 3) hu rfl (hd 3 dc))) dc (dl_old (by rfl) rfl) ?_
           exact TX.quiet 4 hu hi rfl
          ·
           intro D hn hd hcl hu hi
           refine TO.callP (v := .int .i64 r7) (vs := [.int .i32 r2]) (gd_T rfl (dl_lookup (m := 3) hu rfl (hd 3 dc))) dc rfl (evL.cons (dl_lookup (m := 4) hu rfl (hd 4 dc)) evL.nil) rfl en_100 (ref01_Width_fn hq4) ?_
           exact TX.quiet 5 hu hi rfl
          ·
           intro D hn hd hcl hu hi
           refine TO.move (gd_T rfl (dl_lookup (m := 3) hu rfl (hd 3 dc))) dc (dl_old (by rfl) rfl) ?_
           exact TX.quiet 6 hu hi rfl
          ·
           intro D hn hd hcl hu hi
           refine TO.bin (gd_T rfl (dl_lookup (m := 3) hu rfl (hd 3 dc))) dc (dl_lookup (m := 5) hu rfl (hd 5 dc)) (dl_lookup (m := 6) hu rfl (hd 6 dc)) bin_eql (TO.rewH (show Value.bool ((r7 : Int) == n3) = Value.bool true from congrArg Value.bool hb6) ?_)
           exact TX.quiet 7 hu hi rfl
          ·
           intro D hn hd hcl hu hi
           refine TO.pick (b := true) rfl dc (dl_lookup (m := 3) hu rfl (hd 3 dc)) (dl_lookup (m := 7) hu rfl (hd 7 dc)) ?_
           exact TX.quiet 8 hu hi rfl
          ·
           intro D hn hd hcl hu hi
           refine TO.move rfl dc (dl_lookup (m := 8) hu rfl (hd 8 dc)) ?_
           exact TX.quiet 9 hu hi rfl
          ·
           intro D hn hd hcl hu hi
           refine TO.move (gd_T rfl (dl_lookup (m := 9) hu rfl (hd 9 dc))) dc (dl_old (by rfl) rfl) ?_
           exact TX.quiet 10 hu hi rfl
          ·
           intro D hn hd hcl hu hi
           refine TO.callP (v := .string r8) (vs := [.int .i32 r2]) (gd_T rfl (dl_lookup (m := 9) hu rfl (hd 9 dc))) dc rfl (evL.cons (dl_lookup (m := 10) hu rfl (hd 10 dc)) evL.nil) rfl en_91 (ref01_Encode_fn hq5) ?_
           exact TX.quiet 11 hu hi rfl
          ·
           intro D hn hd hcl hu hi
           refine TO.move (gd_T rfl (dl_lookup (m := 9) hu rfl (hd 9 dc))) dc (dl_old (by rfl) rfl) ?_
           exact TX.quiet 12 hu hi rfl
          ·
           intro D hn hd hcl hu hi
           refine TO.move (gd_T rfl (dl_lookup (m := 9) hu rfl (hd 9 dc))) dc (dl_old (by rfl) rfl) ?_
           exact TX.quiet 13 hu hi rfl
          ·
           intro D hn hd hcl hu hi
           refine TO.move (gd_T rfl (dl_lookup (m := 9) hu rfl (hd 9 dc))) dc (dl_old (by rfl) rfl) ?_
           exact TX.quiet 14 hu hi rfl
          ·
           intro D hn hd hcl hu hi
           refine TO.move (gd_T rfl (dl_lookup (m := 9) hu rfl (hd 9 dc))) dc (dl_old (by rfl) rfl) ?_
           exact TX.quiet 15 hu hi rfl
          ·
           intro D hn hd hcl hu hi
           refine TO.bin (gd_T rfl (dl_lookup (m := 9) hu rfl (hd 9 dc))) dc (dl_lookup (m := 14) hu rfl (hd 14 dc)) (dl_lookup (m := 15) hu rfl (hd 15 dc)) (bin_add (r := at1 + n3) (IntWalk.i64_in _ hg13)) ?_
           exact TX.quiet 16 hu hi rfl
          ·
           intro D hn hd hcl hu hi
           refine TO.slice (gd_T rfl (dl_lookup (m := 9) hu rfl (hd 9 dc))) dc (dl_lookup (m := 12) hu rfl (hd 12 dc)) (evO.some (dl_lookup (m := 13) hu rfl (hd 13 dc))) (evO.some (dl_lookup (m := 16) hu rfl (hd 16 dc))) (slice_stringI (i := at1) (j := at1 + n3) Try.underlying9 (.inr rfl) (.inr rfl) hg14) ?_
           exact TX.quiet 17 hu hi rfl
          refine TO.bin rfl dc rfl rfl bin_seql (TO.pick (b := true) rfl dc rfl rfl (TO.nil (TX.next ?_)))
          refine TC.condB rfl (fun hb7 => ?_) (fun hb7 => ?_)
          ·
           have h := condT hb7 h
           refine TC.seq (TC.region (TO.move rfl dc rfl (TO.move rfl dc rfl (TO.assign rfl dc rfl (TO.assign rfl dc rfl (TO.nil (TX.next (TC.ret (TX.blockRet (TX.thenRet (TX.thenRet (TX.blockRet (TX.thenRet ?_)))))))))))))
           cases h
           exact TX.fin (rs := [.tmp 4, .tmp 5]) () (.inl rfl) Try.results93 (.cons (.tmp rfl) (.cons (.tmp rfl) .nil)) rfl Splits.nil
          ·
           have h := condF hb7 h
           refine TC.skip (TX.blockNormal ?_)
           exact TX.meetD () h rfl (Sbs.cons rfl (Sbs.cons rfl (Sbs.cons rfl (Sbs.cons rfl (Sbs.cons rfl (Sbs.cons rfl (Sbs.cons rfl (Sbs.cons rfl (Sbs.cons rfl (Sbs.nil)))))))))) Splits.nil
         ·
          have h := condF hb6 h
          refine TC.drawN 18 [(0, 48, .int .i32 r2), (1, 49, .bool r6), (2, 50, .bool true), (3, 51, .bool true), (4, 52, .int .i32 r2), (5, 53, .int .i64 r7), (6, 54, .int .i64 n3), (7, 55, .bool false), (8, 56, .bool false), (9, 57, .bool false), (10, 58, undef), (11, 59, undef), (12, 60, undef), (13, 61, undef), (14, 62, undef), (15, 63, undef), (16, 64, undef), (17, 65, undef)] mixed kr kr dc (by rfl) kr kr (DrawPre.cons ?_ (DrawPre.cons ?_ (DrawPre.cons ?_ (DrawPre.cons ?_ (DrawPre.cons ?_ (DrawPre.cons ?_ (DrawPre.cons ?_ (DrawPre.cons ?_ (DrawPre.cons ?_ (DrawPre.cons ?_ (DrawPre.cons ?_ (DrawPre.cons ?_ (DrawPre.cons ?_ (DrawPre.cons ?_ (DrawPre.cons ?_ (DrawPre.cons ?_ (DrawPre.cons ?_ (DrawPre.cons ?_ DrawPre.nil)))))))))))))))))) ?_
          ·
           intro D hn hd hcl hu hi
           refine TO.move rfl dc (dl_old (by rfl) rfl) ?_
           exact TX.quiet 0 hu hi rfl
          ·
           intro D hn hd hcl hu hi
           refine TO.callP (v := .bool r6) (vs := [.int .i32 r2]) rfl dc rfl (evL.cons (dl_lookup (m := 0) hu rfl (hd 0 dc)) evL.nil) rfl en_99 (ref01_None_fn hq3) ?_
           exact TX.quiet 1 hu hi rfl
          ·
           intro D hn hd hcl hu hi
           refine TO.un rfl dc (dl_lookup (m := 1) hu rfl (hd 1 dc)) un_not (TO.rewH (show Value.bool (!r6) = Value.bool true from congrArg Value.bool hb5) ?_)
           exact TX.quiet 2 hu hi rfl
          ·
           intro D hn hd hcl hu hi
           refine TO.move rfl dc (dl_lookup (m := 2) hu rfl (hd 2 dc)) ?_
           exact TX.quiet 3 hu hi rfl
          ·
           intro D hn hd hcl hu hi
           refine TO.move (gd_T rfl (dl_lookup (m := 3) hu rfl (hd 3 dc))) dc (dl_old (by rfl) rfl) ?_
           exact TX.quiet 4 hu hi rfl
          ·
           intro D hn hd hcl hu hi
           refine TO.callP (v := .int .i64 r7) (vs := [.int .i32 r2]) (gd_T rfl (dl_lookup (m := 3) hu rfl (hd 3 dc))) dc rfl (evL.cons (dl_lookup (m := 4) hu rfl (hd 4 dc)) evL.nil) rfl en_100 (ref01_Width_fn hq4) ?_
           exact TX.quiet 5 hu hi rfl
          ·
           intro D hn hd hcl hu hi
           refine TO.move (gd_T rfl (dl_lookup (m := 3) hu rfl (hd 3 dc))) dc (dl_old (by rfl) rfl) ?_
           exact TX.quiet 6 hu hi rfl
          ·
           intro D hn hd hcl hu hi
           refine TO.bin (gd_T rfl (dl_lookup (m := 3) hu rfl (hd 3 dc))) dc (dl_lookup (m := 5) hu rfl (hd 5 dc)) (dl_lookup (m := 6) hu rfl (hd 6 dc)) bin_eql (TO.rewH (show Value.bool ((r7 : Int) == n3) = Value.bool false from congrArg Value.bool hb6) ?_)
           exact TX.quiet 7 hu hi rfl
          ·
           intro D hn hd hcl hu hi
           refine TO.pick (b := true) rfl dc (dl_lookup (m := 3) hu rfl (hd 3 dc)) (dl_lookup (m := 7) hu rfl (hd 7 dc)) ?_
           exact TX.quiet 8 hu hi rfl
          ·
           intro D hn hd hcl hu hi
           refine TO.move rfl dc (dl_lookup (m := 8) hu rfl (hd 8 dc)) ?_
           exact TX.quiet 9 hu hi rfl
          ·
           intro D hn hd hcl hu hi
           refine TO.skip (gd_F rfl (dl_lookup (m := 9) hu rfl (hd 9 dc))) dc ?_
           exact TX.quiet 10 hu hi rfl
          ·
           intro D hn hd hcl hu hi
           refine TO.skip (gd_F rfl (dl_lookup (m := 9) hu rfl (hd 9 dc))) dc ?_
           exact TX.quiet 11 hu hi rfl
          ·
           intro D hn hd hcl hu hi
           refine TO.skip (gd_F rfl (dl_lookup (m := 9) hu rfl (hd 9 dc))) dc ?_
           exact TX.quiet 12 hu hi rfl
          ·
           intro D hn hd hcl hu hi
           refine TO.skip (gd_F rfl (dl_lookup (m := 9) hu rfl (hd 9 dc))) dc ?_
           exact TX.quiet 13 hu hi rfl
          ·
           intro D hn hd hcl hu hi
           refine TO.skip (gd_F rfl (dl_lookup (m := 9) hu rfl (hd 9 dc))) dc ?_
           exact TX.quiet 14 hu hi rfl
          ·
           intro D hn hd hcl hu hi
           refine TO.skip (gd_F rfl (dl_lookup (m := 9) hu rfl (hd 9 dc))) dc ?_
           exact TX.quiet 15 hu hi rfl
          ·
           intro D hn hd hcl hu hi
           refine TO.skip (gd_F rfl (dl_lookup (m := 9) hu rfl (hd 9 dc))) dc ?_
           exact TX.quiet 16 hu hi rfl
          ·
           intro D hn hd hcl hu hi
           refine TO.skip (gd_F rfl (dl_lookup (m := 9) hu rfl (hd 9 dc))) dc ?_
           exact TX.quiet 17 hu hi rfl
          refine TO.skip rfl dc (TO.pick (b := false) rfl dc rfl rfl (TO.nil (TX.next (TC.condF rfl (TC.skip (TX.blockNormal ?_))))))
          exact TX.meetD () h rfl (Sbs.cons rfl (Sbs.cons rfl (Sbs.cons rfl (Sbs.cons rfl (Sbs.cons rfl (Sbs.cons rfl (Sbs.cons rfl (Sbs.cons rfl (Sbs.cons rfl (Sbs.nil)))))))))) Splits.nil
        ·
         have h := condF hb5 h
         refine TC.drawN 18 [(0, 48, .int .i32 r2), (1, 49, .bool r6), (2, 50, .bool false), (3, 51, .bool false), (4, 52, undef), (5, 53, undef), (6, 54, undef), (7, 55, undef), (8, 56, .bool false), (9, 57, .bool false), (10, 58, undef), (11, 59, undef), (12, 60, undef), (13, 61, undef), (14, 62, undef), (15, 63, undef), (16, 64, undef), (17, 65, undef)] mixed kr kr dc (by rfl) kr kr (DrawPre.cons ?_ (DrawPre.cons ?_ (DrawPre.cons ?_ (DrawPre.cons ?_ (DrawPre.cons ?_ (DrawPre.cons ?_ (DrawPre.cons ?_ (DrawPre.cons ?_ (DrawPre.cons ?_ (DrawPre.cons ?_ (DrawPre.cons ?_ (DrawPre.cons ?_ (DrawPre.cons ?_ (DrawPre.cons ?_ (DrawPre.cons ?_ (DrawPre.cons ?_ (DrawPre.cons ?_ (DrawPre.cons ?_ DrawPre.nil)))))))))))))))))) ?_
         ·
          intro D hn hd hcl hu hi
          refine TO.move rfl dc (dl_old (by rfl) rfl) ?_
          exact TX.quiet 0 hu hi rfl
         ·
          intro D hn hd hcl hu hi
          refine TO.callP (v := .bool r6) (vs := [.int .i32 r2]) rfl dc rfl (evL.cons (dl_lookup (m := 0) hu rfl (hd 0 dc)) evL.nil) rfl en_99 (ref01_None_fn hq3) ?_
          exact TX.quiet 1 hu hi rfl
         ·
          intro D hn hd hcl hu hi
          refine TO.un rfl dc (dl_lookup (m := 1) hu rfl (hd 1 dc)) un_not (TO.rewH (show Value.bool (!r6) = Value.bool false from congrArg Value.bool hb5) ?_)
          exact TX.quiet 2 hu hi rfl
         ·
          intro D hn hd hcl hu hi
          refine TO.move rfl dc (dl_lookup (m := 2) hu rfl (hd 2 dc)) ?_
          exact TX.quiet 3 hu hi rfl
         ·
          intro D hn hd hcl hu hi
          refine TO.skip (gd_F rfl (dl_lookup (m := 3) hu rfl (hd 3 dc))) dc ?_
          exact TX.quiet 4 hu hi rfl
         ·
          intro D hn hd hcl hu hi
          refine TO.skip (gd_F rfl (dl_lookup (m := 3) hu rfl (hd 3 dc))) dc ?_
          exact TX.quiet 5 hu hi rfl
         ·
          intro D hn hd hcl hu hi
          refine TO.skip (gd_F rfl (dl_lookup (m := 3) hu rfl (hd 3 dc))) dc ?_
          exact TX.quiet 6 hu hi rfl
         ·
          intro D hn hd hcl hu hi
          refine TO.skip (gd_F rfl (dl_lookup (m := 3) hu rfl (hd 3 dc))) dc ?_
          exact TX.quiet 7 hu hi rfl
         ·
          intro D hn hd hcl hu hi
          refine TO.pick (b := false) rfl dc (dl_lookup (m := 3) hu rfl (hd 3 dc)) rfl ?_
          exact TX.quiet 8 hu hi rfl
         ·
          intro D hn hd hcl hu hi
          refine TO.move rfl dc (dl_lookup (m := 8) hu rfl (hd 8 dc)) ?_
          exact TX.quiet 9 hu hi rfl
         ·
          intro D hn hd hcl hu hi
          refine TO.skip (gd_F rfl (dl_lookup (m := 9) hu rfl (hd 9 dc))) dc ?_
          exact TX.quiet 10 hu hi rfl
         ·
          intro D hn hd hcl hu hi
          refine TO.skip (gd_F rfl (dl_lookup (m := 9) hu rfl (hd 9 dc))) dc ?_
          exact TX.quiet 11 hu hi rfl
         ·
          intro D hn hd hcl hu hi
          refine TO.skip (gd_F rfl (dl_lookup (m := 9) hu rfl (hd 9 dc))) dc ?_
          exact TX.quiet 12 hu hi rfl
         ·
          intro D hn hd hcl hu hi
          refine TO.skip (gd_F rfl (dl_lookup (m := 9) hu rfl (hd 9 dc))) dc ?_
          exact TX.quiet 13 hu hi rfl
         ·
          intro D hn hd hcl hu hi
          refine TO.skip (gd_F rfl (dl_lookup (m := 9) hu rfl (hd 9 dc))) dc ?_
          exact TX.quiet 14 hu hi rfl
         ·
          intro D hn hd hcl hu hi
          refine TO.skip (gd_F rfl (dl_lookup (m := 9) hu rfl (hd 9 dc))) dc ?_
          exact TX.quiet 15 hu hi rfl
         ·
          intro D hn hd hcl hu hi
          refine TO.skip (gd_F rfl (dl_lookup (m := 9) hu rfl (hd 9 dc))) dc ?_
          exact TX.quiet 16 hu hi rfl
         ·
          intro D hn hd hcl hu hi
          refine TO.skip (gd_F rfl (dl_lookup (m := 9) hu rfl (hd 9 dc))) dc ?_
          exact TX.quiet 17 hu hi rfl
         refine TO.skip rfl dc (TO.pick (b := false) rfl dc rfl rfl (TO.nil (TX.next (TC.condF rfl (TC.skip (TX.blockNormal ?_))))))
         exact TX.meetD () h rfl (Sbs.cons rfl (Sbs.cons rfl (Sbs.cons rfl (Sbs.cons rfl (Sbs.cons rfl (Sbs.cons rfl (Sbs.cons rfl (Sbs.cons rfl (Sbs.cons rfl (Sbs.nil)))))))))) Splits.nil
     ·
      rintro _ h
      rw [hj2] at h
      show TC _ _ _ _ _ ([]) _ _ [(0, .string s1), (1, .int .i64 at1), (6, .int .i64 n3), (12, .int .i64 at1), (13, .int .i64 n3), (14, .int .i64 (at1 + n3)), (15, .string s1), (16, .int .i64 (s1.size : Int)), (17, .bool (decide (((at1 + n3) : Int) ≤ (s1.size : Int))))] []
      refine TC.region (TO.move rfl dc rfl ?_)
      obtain ⟨hg15, h⟩ := grdE h
      refine TO.bin rfl dc rfl rfl (bin_add (r := n3 + 1) (IntWalk.i64_in _ hg15)) (TO.assign rfl dc rfl (TO.nil ?_))
      subst hag1
      exact TX.againD (n4, n3 + 1) h (Nat.lt_succ_self _) rfl (Sbs.cons rfl (Sbs.cons rfl (Sbs.cons rfl (Sbs.nil)))) Splits.nil
    ·
     have h := condF hb2 h
     refine TC.exit (TX.thenExit (TX.thenExit (TX.blockHere ?_)))
     exact TX.meetD () h rfl (Sbs.nil) Splits.nil
   ·
    have h := condF hb1 h
    refine TO.skip rfl dc (TO.skip rfl dc (TO.skip rfl dc (TO.skip rfl dc (TO.skip rfl dc (TO.skip rfl dc (TO.pick (b := false) rfl dc rfl rfl (TO.nil (TX.next (TC.condF rfl (TC.exit (TX.thenExit (TX.thenExit (TX.blockHere ?_)))))))))))))
    exact TX.meetD () h rfl (Sbs.nil) Splits.nil
 ·
  rintro _ h
  rw [hj1] at h
  show TC _ _ _ _ _ ([]) _ _ [] []
  refine TC.seq (TC.region (TO.assign rfl dc rfl (TO.assign rfl dc rfl (TO.nil (TX.next (TC.ret ?_))))))
  cases h
  exact TX.fin (rs := [.tmp 4, .tmp 5]) () (.inl rfl) Try.results93 (.cons (.tmp rfl) (.cons (.tmp rfl) .nil)) rfl Splits.nil
def ref01_At_v (s1 : ByteArray) (at1 : Int) : Option Gapi_Piece := andThen (ref01_Form_v s1 at1) fun (r1 : (Int × Int)) => bcond (decide ((0 : Int) < r1.2)) ( some (⟨at1, r1.2, r1.1, false⟩ : Gapi_Piece)
) ( some (⟨at1, 1, 65533, true⟩ : Gapi_Piece)
)
set_option maxRecDepth 100000 in
set_option maxHeartbeats 4000000 in
theorem ref01_At_fn {s1 : ByteArray} {at1 : Int} {r : Gapi_Piece} (h : ref01_At_v s1 at1 = some r) : FnP Try.prog 78 [.string s1, .int .i64 at1] (.agg #[.int .i64 r.At, .int .i64 r.Width, .int .i32 r.Rune, .bool r.Broken]) := by
 unfold ref01_At_v at h
 refine FnP.intro Try.func78 rfl Try.ntmps78 (by simp) ?_
 intro w0 K
 refine TC.seq (TC.region ?_)
 refine TO.alloc zr_55 rfl dc (fun b1 => ?_)
 refine TO.nil (TX.next (TC.seq (TC.seq (TC.region (TO.move rfl dc rfl (TO.move rfl dc rfl ?_))))))
 obtain ⟨r1, hq1, h⟩ := andE h
 refine TO.callP (v := .tuple #[.int .i32 r1.1, .int .i64 r1.2]) (vs := [.string s1, .int .i64 at1]) rfl dc rfl rfl rfl en_93 (ref01_Form_fn hq1) (TO.move rfl dc rfl (TO.extract rfl dc rfl rfl (TO.extract rfl dc rfl rfl (TO.assign rfl dc rfl (TO.assign rfl dc rfl (TO.nil (TX.next (TC.seq (TC.region (TO.move rfl dc rfl (TO.bin rfl dc rfl rfl bin_gtr (TO.nil (TX.next ?_)))))))))))))
 refine TC.condB rfl (fun hb1 => ?_) (fun hb1 => ?_)
 ·
  have h := condT hb1 h
  refine TC.seq (TC.region (TO.move rfl dc rfl (TO.move rfl dc rfl (TO.move rfl dc rfl ?_))))
  refine TO.build (v := .agg #[.int .i64 at1, .int .i64 r1.2, .int .i32 r1.1, .bool false]) (ps := [(0, .tmp 15), (1, .tmp 16), (2, .tmp 17)]) rfl dc rfl (fun _ => by kernel_rfl) ?_
  refine TO.stores (k := 0) (vs := [.int .i64 at1, .int .i64 r1.2, .int .i32 r1.1, .bool false]) (l' := [.int .i64 at1, .int .i64 r1.2, .int .i32 r1.1, .bool false]) sz_55 rfl rfl rfl rfl rfl (show _ ≤ _ by simp) rfl rfl ?_
  show TO _ _ _ _ _ _ _ _ _ _ [cells b1 [.int .i64 at1, .int .i64 r1.2, .int .i32 r1.1, .bool false] 55]
  refine TO.nil (TX.next (TC.ret (TX.thenRet ?_)))
  cases h
  exact TX.fin (rs := [.cell 4 55]) () (.inl rfl) Try.results78 (.cons (.cells rw_55 (k := 0) rfl rfl rfl) .nil) rfl Splits.nil
 ·
  have h := condF hb1 h
  refine TC.skip (TX.next (TC.seq (TC.region (TO.move rfl dc rfl ?_))))
  refine TO.build (v := .agg #[.int .i64 at1, .int .i64 1, .int .i32 65533, .bool true]) (ps := [(0, .tmp 19), (1, .const (.int .i64 1)), (2, .const (.int .i32 65533)), (3, .const (.bool true))]) rfl dc rfl (fun _ => by kernel_rfl) ?_
  refine TO.stores (k := 0) (vs := [.int .i64 at1, .int .i64 1, .int .i32 65533, .bool true]) (l' := [.int .i64 at1, .int .i64 1, .int .i32 65533, .bool true]) sz_55 rfl rfl rfl rfl rfl (show _ ≤ _ by simp) rfl rfl ?_
  show TO _ _ _ _ _ _ _ _ _ _ [cells b1 [.int .i64 at1, .int .i64 1, .int .i32 65533, .bool true] 55]
  refine TO.nil (TX.next (TC.ret ?_))
  cases h
  exact TX.fin (rs := [.cell 4 55]) () (.inl rfl) Try.results78 (.cons (.cells rw_55 (k := 0) rfl rfl rfl) .nil) rfl Splits.nil
def ref01_Pieces_s1 (s1 : ByteArray) (j1 : (List Gapi_Piece) → Option (List Gapi_Piece)) (ag1 : (List Gapi_Piece) → Int → Option (List Gapi_Piece)) (l4 : List Gapi_Piece) (at3 : Int) : Option (List Gapi_Piece) := bcond (decide ((at3 : Int) < (s1.size : Int))) ( andThen (ref01_At_v s1 at3) fun (r1 : Gapi_Piece) => grd (l4.length + 1 ≤ 2147483648) <| grd (I64 (at3 + r1.Width)) <| ag1 (l4 ++ [r1]) (at3 + r1.Width)
) ( j1 l4
)
def ref01_Pieces_v (s1 : ByteArray) : Option (List Gapi_Piece) := joinK (fun (j1 : (List Gapi_Piece) → Option (List Gapi_Piece)) => loopG (fun _ _ => none) (ref01_Pieces_s1 s1 j1) fuel ([] : List Gapi_Piece) 0
) (fun (l1 : List Gapi_Piece) => some l1
)
set_option maxRecDepth 100000 in
set_option maxHeartbeats 4000000 in
theorem ref01_Pieces_fn {s1 : ByteArray} {r : (List Gapi_Piece)} (h : ref01_Pieces_v s1 = some r) : Fn Try.prog 55 [.string s1] [] (fun v0 : Value => v0) (fun v0 => [vec enc_Gapi_Piece 55 4 v0 r]) := by
 unfold ref01_Pieces_v at h
 refine Fn.intro Try.func55 rfl Try.ntmps55 (by simp) ?_
 intro w0 K
 obtain ⟨j1, hj1, h⟩ := joinE h
 refine TC.cutN (β := (List Gapi_Piece) × Value) 2 rfl (fun b => j1 b.1 = some r) (fun b => []) (fun b => [(3, b.2)]) (fun b => [vec enc_Gapi_Piece 55 4 b.2 b.1]) (fun cut => ?_) ?_
 ·
  refine TC.seq (TC.region (TO.assign rfl dc rfl (TO.nil (TX.next (TC.seq (TC.region (TO.assign rfl dc rfl (TO.nil (TX.next (cut (TC.seq (TC.region (TO.assign rfl dc rfl ?_)))))))))))))
  refine TO.nil (TX.next (TC.block (TC.newVec (enc := enc_Gapi_Piece) (e := 55) (size := 4) ?_)))
  show TC _ _ _ _ _ _ _ _ _ [vec enc_Gapi_Piece 55 4 (.slice none 0 0) ([] : List Gapi_Piece)]
  refine TC.loopD (β := Nat × (List Gapi_Piece) × Int × Value) (fun b => loopG (fun _ _ => none) (ref01_Pieces_s1 s1 j1) b.1 b.2.1 b.2.2.1 = some r) (fun b => []) (fun b => [(0, .string s1), (3, b.2.2.2), (4, .int .i64 b.2.2.1)]) (fun b => [vec enc_Gapi_Piece 55 4 b.2.2.2 b.2.1]) (fun b => b.1) (fuel, ([] : List Gapi_Piece), 0, (.slice none 0 0)) h rfl (Sbs.cons rfl (Sbs.cons rfl (Sbs.cons rfl (Sbs.nil)))) (Splits.of [0] kr rfl) ?_
  rintro ⟨n1, l4, at3, v4⟩ h
  cases n1 with
  | zero => exact noneE h
  | succ n1 =>
   obtain ⟨ag1, hag1⟩ : ∃ ag, ag = loopG (fun _ _ => none) (ref01_Pieces_s1 s1 j1) n1 := ⟨_, rfl⟩
   have h : ref01_Pieces_s1 s1 j1 ag1 l4 at3 = some r := by rw [hag1]; exact h
   unfold ref01_Pieces_s1 at h
   show TC _ _ _ _ _ ([]) _ _ [(0, .string s1), (3, v4), (4, .int .i64 at3)] [vec enc_Gapi_Piece 55 4 v4 l4]
   refine TC.seq (TC.seq (TC.region (TO.move rfl dc rfl (TO.move rfl dc rfl (TO.lenStr rfl dc rfl Try.underlying9 (TO.bin rfl dc rfl rfl bin_lss (TO.nil (TX.next ?_))))))))
   refine TC.condB rfl (fun hb1 => ?_) (fun hb1 => ?_)
   ·
    have h := condT hb1 h
    refine TC.skip (TX.next (TC.block (TC.seq (TC.region (TO.move rfl dc rfl (TO.move rfl dc rfl ?_))))))
    obtain ⟨r1, hq1, h⟩ := andE h
    refine TO.callP (v := .agg #[.int .i64 r1.At, .int .i64 r1.Width, .int .i32 r1.Rune, .bool r1.Broken]) (vs := [.string s1, .int .i64 at3]) rfl dc rfl rfl rfl en_78 (ref01_At_fn hq1) ?_
    refine TO.alloc zr_55 rfl dc (fun b1 => ?_)
    refine TO.stores (k := 1) (vs := [.int .i64 r1.At, .int .i64 r1.Width, .int .i32 r1.Rune, .bool r1.Broken]) (l' := [.int .i64 r1.At, .int .i64 r1.Width, .int .i32 r1.Rune, .bool r1.Broken]) sz_55 rfl rfl rfl rfl rfl (show _ ≤ _ by simp) rfl rfl ?_
    show TO _ _ _ _ _ _ _ _ _ _ [vec enc_Gapi_Piece 55 4 v4 l4, cells b1 [.int .i64 r1.At, .int .i64 r1.Width, .int .i32 r1.Rune, .bool r1.Broken] 55]
    refine TO.nil (TX.next (TC.seq (TC.region (TO.move rfl dc rfl (TO.loads (k := 1) (cs := [.int .i64 r1.At, .int .i64 r1.Width, .int .i32 r1.Rune, .bool r1.Broken]) rw_55 rfl dc rfl rfl rfl rfl ?_)))))
    refine TO.buildSlice (cs := [.int .i64 r1.At, .int .i64 r1.Width, .int .i32 r1.Rune, .bool r1.Broken]) (te := 55) (ps := [(0, .tmp 14)]) rfl dc rfl (fun _ => by kernel_rfl) (fun b2 => ?_)
    obtain ⟨hg1, h⟩ := grdE h
    refine TO.appendVec (k := 0) (k2 := 2) (ys := [r1]) Try.underlying84 el_55 enc_Gapi_Piece_len enc_Gapi_Piece_one rfl dc rfl rfl rfl rfl rfl rfl hg1 (fun v5 => ?_)
    show TO _ _ _ _ _ _ _ _ _ _ [vec enc_Gapi_Piece 55 4 v5 (l4 ++ [r1]), cells b1 [.int .i64 r1.At, .int .i64 r1.Width, .int .i32 r1.Rune, .bool r1.Broken] 55, cells b2 [.int .i64 r1.At, .int .i64 r1.Width, .int .i32 r1.Rune, .bool r1.Broken] 55]
    refine TO.assign rfl dc rfl (TO.nil (TX.next (TC.region (TO.move rfl dc rfl (TO.fieldAddr fl_55_1 rfl dc rfl (show _ = 1 from rfl) (TO.load (k := 1) sc_3 rfl dc rfl rfl rfl ?_))))))
    obtain ⟨hg2, h⟩ := grdE h
    refine TO.bin rfl dc rfl rfl (bin_add (r := at3 + r1.Width) (IntWalk.i64_in _ hg2)) (TO.assign rfl dc rfl (TO.nil (TX.blockNormal ?_)))
    subst hag1
    exact TX.againD (n1, l4 ++ [r1], at3 + r1.Width, v5) h (Nat.lt_succ_self _) rfl (Sbs.cons rfl (Sbs.cons rfl (Sbs.cons rfl (Sbs.nil)))) (Splits.of [0] kr rfl)
   ·
    have h := condF hb1 h
    refine TC.exit (TX.thenExit (TX.thenExit (TX.blockHere ?_)))
    exact TX.meetD (l4, v4) h rfl (Sbs.cons rfl (Sbs.nil)) (Splits.of [0] kr rfl)
 ·
  rintro ⟨l1, v1⟩ h
  rw [hj1] at h
  show TC _ _ _ _ _ ([]) _ _ [(3, v1)] [vec enc_Gapi_Piece 55 4 v1 l1]
  refine TC.seq (TC.region (TO.move rfl dc rfl (TO.assign rfl dc rfl (TO.nil (TX.next (TC.ret ?_))))))
  cases h
  exact TX.fin (rs := [.tmp 2]) v1 (.inl rfl) Try.results55 (.cons (.tmp rfl) .nil) rfl (Splits.of [0] kr rfl)
def ref01_Text_v (s1 : ByteArray) (p1 : Gapi_Piece) : Option ByteArray := grd (I64 (p1.At + p1.Width)) <| grd (0 ≤ (p1.At : Int) ∧ (p1.At : Int) ≤ (p1.At + p1.Width) ∧ (p1.At + p1.Width : Int) ≤ (s1.size : Int)) <| some (cutB s1 p1.At (p1.At + p1.Width))
set_option maxRecDepth 100000 in
set_option maxHeartbeats 4000000 in
theorem ref01_Text_fn {s1 : ByteArray} {p1 : Gapi_Piece} {r : ByteArray} (h : ref01_Text_v s1 p1 = some r) : FnP Try.prog 56 [.string s1, .agg #[.int .i64 p1.At, .int .i64 p1.Width, .int .i32 p1.Rune, .bool p1.Broken]] (.string r) := by
 unfold ref01_Text_v at h
 refine FnP.intro Try.func56 rfl Try.ntmps56 (by simp) ?_
 intro w0 K
 refine TC.seq (TC.region ?_)
 refine TO.box rfl dc rfl (fun b1 => ?_)
 refine TO.assign rfl dc rfl (TO.nil (TX.next (TC.seq (TC.region (TO.move rfl dc rfl (TO.fieldAddr fl_55_0 rfl dc rfl (show _ = 0 from rfl) (TO.load (k := 0) sc_3 rfl dc rfl rfl rfl (TO.fieldAddr fl_55_0 rfl dc rfl (show _ = 0 from rfl) (TO.load (k := 0) sc_3 rfl dc rfl rfl rfl (TO.fieldAddr fl_55_1 rfl dc rfl (show _ = 1 from rfl) (TO.load (k := 0) sc_3 rfl dc rfl rfl rfl ?_)))))))))))
 obtain ⟨hg1, h⟩ := grdE h
 refine TO.bin rfl dc rfl rfl (bin_add (r := p1.At + p1.Width) (IntWalk.i64_in _ hg1)) ?_
 obtain ⟨hg2, h⟩ := grdE h
 refine TO.slice rfl dc rfl rfl rfl (slice_stringI (i := p1.At) (j := p1.At + p1.Width) Try.underlying9 (.inr rfl) (.inr rfl) hg2) (TO.assign rfl dc rfl (TO.nil (TX.next (TC.ret ?_))))
 cases h
 exact TX.fin (rs := [.tmp 4]) () (.inl rfl) Try.results56 (.cons (.tmp rfl) .nil) rfl Splits.nil
end Go.Proofs.Ytlamcpgnmeileaa
namespace Go.Proofs.Ytlamcpgnmeileaa
open Go.RowKit Go.Lib

def Pc.sh (k : Nat) (p : Pc) : Pc := ⟨p.i + k, p.w, p.r⟩
theorem pcsFrom_sh : ∀ (n i k : Nat) (l : List UInt8), l.length ≤ n → pcsFrom (i + k) l = (pcsFrom i l).map (Pc.sh k)
  | 0, i, k, l, h => by
    have : l = [] := List.eq_nil_of_length_eq_zero (by omega)
    subst this
    simp [pcsFrom_nil]
  | n + 1, i, k, l, h => by
    by_cases hl : l = []
    · subst hl; simp [pcsFrom_nil]
    · have := dec_pos l
      have hlen := List.length_pos_iff.2 hl
      rw [pcsFrom_cons _ l hl, pcsFrom_cons _ l hl, List.map_cons, ← pcsFrom_sh n _ k _ (by simp; omega)]
      congr 2
      omega
theorem pcsFrom_pcs (i : Nat) (l : List UInt8) : pcsFrom i l = (pcs l).map (Pc.sh i) := by
  have := pcsFrom_sh l.length 0 i l (Nat.le_refl _)
  rwa [Nat.zero_add] at this

/-- A piece in the midst: what stands there. -/
theorem pcsFrom_split : ∀ (P : List Pc) (i : Nat) (l : List UInt8) (x : Pc) (B : List Pc), pcsFrom i l = P ++ x :: B →
    ∃ n, x.i = i + n ∧ n + x.w ≤ l.length ∧ DecOk (l.drop n) x.r x.w ∧ pcsFrom (i + n) (l.drop n) = x :: B ∧ B = pcsFrom (x.i + x.w) (l.drop (n + x.w))
  | [], i, l, x, B, h => by
    by_cases hl : l = []
    · subst hl; simp [pcsFrom_nil] at h
    · have hok := decOk l hl
      have h' := h
      rw [pcsFrom_cons i l hl] at h
      simp only [List.nil_append, List.cons.injEq] at h
      obtain ⟨rfl, hB⟩ := h
      exact ⟨0, by simp, by simpa using hok.le, by simpa using hok, by simpa using h', by simpa using hB.symm⟩
  | p :: P, i, l, x, B, h => by
    by_cases hl : l = []
    · subst hl; simp [pcsFrom_nil] at h
    · have hle := dec_le l hl
      rw [pcsFrom_cons i l hl] at h
      simp only [List.cons_append, List.cons.injEq] at h
      obtain ⟨n, h1, h2, h3, h4, h5⟩ := pcsFrom_split P _ _ x B h.2
      refine ⟨(decodeL l).2 + n, by omega, by simp at h2; omega, by rw [← List.drop_drop]; exact h3, by rw [← List.drop_drop, ← Nat.add_assoc]; exact h4, ?_⟩
      rw [h5, List.drop_drop, Nat.add_assoc]
theorem pcs_split (l : List UInt8) (P : List Pc) (x : Pc) (B : List Pc) (h : pcs l = P ++ x :: B) :
    x.i + x.w ≤ l.length ∧ DecOk (l.drop x.i) x.r x.w ∧ pcsFrom x.i (l.drop x.i) = x :: B ∧ B = pcsFrom (x.i + x.w) (l.drop (x.i + x.w)) := by
  obtain ⟨n, h1, h2, h3, h4, h5⟩ := pcsFrom_split P 0 l x B h
  have : x.i = n := by omega
  subst this
  exact ⟨h2, h3, by simpa using h4, h5⟩
theorem pcs_pos (l : List UInt8) (x : Pc) (h : x ∈ pcs l) : 1 ≤ x.w ∧ x.i + x.w ≤ l.length ∧ DecOk (l.drop x.i) x.r x.w := by
  obtain ⟨P, B, hs⟩ := List.append_of_mem h
  obtain ⟨h1, h2, _⟩ := pcs_split l P x B hs
  exact ⟨h2.pos, h1, h2⟩

/-- What a predicate picks of a text's pieces: where the text goes on behind what was picked. -/
def nextOf : List Pc → Nat
  | [] => 0
  | p :: ps => if ps = [] then p.i + p.w else nextOf ps
theorem nextOf_snoc : ∀ (ps : List Pc) (p : Pc), nextOf (ps ++ [p]) = p.i + p.w
  | [], p => by simp [nextOf]
  | q :: ps, p => by simp [nextOf, nextOf_snoc ps p]

theorem pick_rest (f : Pc → Bool) (l : List UInt8) (A B : List Pc) (h : pcs l = A ++ B) :
    ∃ N, pcsFrom (nextOf (A.filter f)) (l.drop (nextOf (A.filter f))) = N ++ B ∧ (∀ q ∈ N, f q = false) := by
  -- by the last picked piece of A
  rcases List.eq_nil_or_concat (A.filter f) with hn | ⟨pre, y, hy⟩
  · rw [hn]
    refine ⟨A, by simpa [nextOf, pcs] using h, fun q hq => ?_⟩
    have := List.filter_eq_nil_iff.1 hn q hq
    simpa using this
  · rw [List.concat_eq_append] at hy
    rw [hy, nextOf_snoc]
    obtain ⟨A1, A2, rfl, h1, h2⟩ := List.filter_eq_append_iff.1 hy
    obtain ⟨N1, N2, rfl, hN1, hfy, hN2⟩ := List.filter_eq_cons_iff.1 h2
    have hs := pcs_split l (A1 ++ N1) y (N2 ++ B) (by rw [h]; simp)
    refine ⟨N2, hs.2.2.2.symm, fun q hq => ?_⟩
    have := List.filter_eq_nil_iff.1 hN2 q hq
    simpa using this

/-- One picked piece: as the text from the last one's end on tells it. -/
theorem pick_next (f : Pc → Bool) (hf : ∀ p k, f (Pc.sh k p) = f p) (l : List UInt8) (pre : List Pc) (x : Pc) (post : List Pc) (h : (pcs l).filter f = pre ++ x :: post) :
    ∃ N x' B, pcs (l.drop (nextOf pre)) = N ++ x' :: B ∧ (∀ q ∈ N, f q = false ∧ q.i < x'.i) ∧ x'.i + nextOf pre = x.i ∧ x'.r = x.r ∧ x'.w = x.w ∧ f x = true ∧ x ∈ pcs l := by
  obtain ⟨A, B, hAB, h1, h2⟩ := List.filter_eq_append_iff.1 h
  obtain ⟨N1, N2, rfl, hN1, hfx, hN2⟩ := List.filter_eq_cons_iff.1 h2
  have hA : (A ++ N1).filter f = pre := by
    rw [List.filter_append, h1]
    rw [List.filter_eq_nil_iff.2 hN1, List.append_nil]
  obtain ⟨N, hN, hNf⟩ := pick_rest f l (A ++ N1) (x :: N2) (by rw [hAB]; simp)
  rw [hA, pcsFrom_pcs] at hN
  obtain ⟨M1, M2, hM, e1, e2⟩ := List.map_eq_append_iff.1 hN
  obtain ⟨x', M3, rfl, e3, e4⟩ := List.map_eq_cons_iff.1 e2
  have hx'' := pcs_split _ M1 x' M3 hM
  have hi : x'.i + nextOf pre = x.i := by rw [← e3]; rfl
  refine ⟨M1, x', M3, hM, fun q hq => ⟨?_, ?_⟩, hi, by rw [← e3]; rfl, by rw [← e3]; rfl, hfx, by rw [hAB]; simp⟩
  · rw [← hf q (nextOf pre)]
    exact hNf _ (by rw [← e1]; exact List.mem_map_of_mem hq)
  · obtain ⟨Q1, Q2, rfl⟩ := List.append_of_mem hq
    have hq' := pcs_split (l.drop (nextOf pre)) Q1 q (Q2 ++ x' :: M3) (by rw [hM]; simp)
    obtain ⟨n, hn, _⟩ := pcsFrom_split Q2 _ _ x' M3 hq'.2.2.2.symm
    have := hq'.2.1.pos
    omega
theorem pick_none (f : Pc → Bool) (hf : ∀ p k, f (Pc.sh k p) = f p) (l : List UInt8) : ∀ q ∈ pcs (l.drop (nextOf ((pcs l).filter f))), f q = false := by
  obtain ⟨N, hN, hNf⟩ := pick_rest f l (pcs l) [] (by simp)
  rw [List.append_nil, pcsFrom_pcs] at hN
  intro q hq
  rw [← hf q (nextOf ((pcs l).filter f))]
  exact hNf _ (by rw [← hN]; exact List.mem_map_of_mem hq)

end Go.Proofs.Ytlamcpgnmeileaa
namespace Go.Proofs.Ytlamcpgnmeileaa
open Go.RowKit Go.Lib

/-- A piece: its rune, its bytes. -/
structure Tok where
  r : Nat
  bs : List UInt8
  deriving DecidableEq
def Tok.broken (t : Tok) : Bool := t.r == 65533 && t.bs.length == 1
/-- A rune's own form. -/
def Tok.valid (t : Tok) : Prop := (t.r < 55296 ∨ (57343 < t.r ∧ t.r ≤ 1114111)) ∧ t.bs = encodeRune t.r
def flat (ts : List Tok) : List UInt8 := ts.flatMap Tok.bs
def toksF : Nat → List UInt8 → List Tok
  | 0, _ => []
  | f + 1, l => if l = [] then [] else ⟨(decodeL l).1, l.take (decodeL l).2⟩ :: toksF f (l.drop (decodeL l).2)
def toks (l : List UInt8) : List Tok := toksF l.length l

theorem flat_nil : flat [] = [] := rfl
theorem flat_cons (t : Tok) (ts : List Tok) : flat (t :: ts) = t.bs ++ flat ts := by simp [flat]
theorem flat_append (a b : List Tok) : flat (a ++ b) = flat a ++ flat b := by simp [flat]
theorem toksF_enough : ∀ (f g : Nat) (l : List UInt8), l.length ≤ f → l.length ≤ g → toksF f l = toksF g l := by
  intro f
  induction f with
  | zero =>
    intro g l h1 h2
    have : l = [] := List.eq_nil_of_length_eq_zero (by omega)
    subst this
    cases g <;> simp [toksF]
  | succ f ih =>
    intro g l h1 h2
    cases g with
    | zero =>
      have : l = [] := List.eq_nil_of_length_eq_zero (by omega)
      subst this
      simp [toksF]
    | succ g =>
      by_cases hl : l = []
      · simp [toksF, hl]
      · simp only [toksF, hl, if_false]
        have := dec_pos l
        have hlen : 0 < l.length := List.length_pos_iff.2 hl
        rw [ih g _ (by simp; omega) (by simp; omega)]
theorem toks_nil : toks [] = [] := by simp [toks, toksF]
theorem toks_cons (l : List UInt8) (h : l ≠ []) : toks l = ⟨(decodeL l).1, l.take (decodeL l).2⟩ :: toks (l.drop (decodeL l).2) := by
  have hlen : 0 < l.length := List.length_pos_iff.2 h
  unfold toks
  obtain ⟨n, hn⟩ : ∃ n, l.length = n + 1 := ⟨l.length - 1, by omega⟩
  rw [hn]
  simp only [toksF, h, if_false]
  have := dec_pos l
  rw [toksF_enough n (l.drop (decodeL l).2).length _ (by simp; omega) (Nat.le_refl _)]
/-- Induction over a text, piece by piece. -/
theorem dec_induction {P : List UInt8 → Prop} (h0 : P []) (h1 : ∀ l, l ≠ [] → P (l.drop (decodeL l).2) → P l) : ∀ l, P l := by
  have key : ∀ (n : Nat) (l : List UInt8), l.length ≤ n → P l := by
    intro n
    induction n with
    | zero => intro l hl; rw [List.eq_nil_of_length_eq_zero (by omega : l.length = 0)]; exact h0
    | succ n ih =>
      intro l hl
      by_cases hn : l = []
      · rw [hn]; exact h0
      · have := dec_pos l
        exact h1 l hn (ih _ (by simp; omega))
  exact fun l => key l.length l (Nat.le_refl _)
theorem flat_toks (l : List UInt8) : flat (toks l) = l := by
  induction l using dec_induction with
  | h0 => rw [toks_nil]; rfl
  | h1 l hn ih => rw [toks_cons l hn, flat_cons, ih]; exact List.take_append_drop _ _
/-- A piece of a text is a rune's form or a broken byte. -/
theorem tok_ok (l : List UInt8) (h : l ≠ []) : (⟨(decodeL l).1, l.take (decodeL l).2⟩ : Tok).valid ∨ (⟨(decodeL l).1, l.take (decodeL l).2⟩ : Tok).broken = true := by
  by_cases hb : (decodeL l).1 = 65533 ∧ (decodeL l).2 = 1
  · right
    have hlen : 0 < l.length := List.length_pos_iff.2 h
    simp [Tok.broken, hb.1, hb.2]; omega
  · left
    exact ⟨dec_valid l, (encode_decode l h hb).symm⟩
theorem toks_ok (l : List UInt8) : ∀ t ∈ toks l, t.valid ∨ t.broken = true := by
  induction l using dec_induction with
  | h0 => rw [toks_nil]; simp
  | h1 l hn ih =>
    rw [toks_cons l hn]
    intro t ht
    rcases List.mem_cons.1 ht with rfl | ht
    · exact tok_ok l hn
    · exact ih t ht
theorem valid_not_broken {t : Tok} (h : t.valid) : t.broken = false := by
  unfold Tok.broken
  by_cases hr : t.r = 65533
  · have := h.2; rw [hr, enc_lost] at this; simp [this]
  · simp [hr]
theorem bs_ne {t : Tok} (h : t.valid ∨ t.broken = true) : t.bs ≠ [] := by
  rcases h with h | h
  · rw [h.2]; intro e; have := (encodeRune_len (t.r : Int)).1; rw [e] at this; simp at this
  · intro e; unfold Tok.broken at h; rw [e] at h; simp at h

/-- A byte that may go on a form. -/
def contB (b : UInt8) : Bool := b.toNat / 64 == 2
/-- What can't go on a form that stands ahead of it. -/
def Stop : List UInt8 → Prop
  | [] => True
  | b :: _ => contB b = false
theorem decodeN_stop1 {n b0 b1 b2 b3 c1 c2 c3 m : Nat} (h1 : n ≤ 1 ∨ b1 / 64 ≠ 2) (h2 : m ≤ 1 ∨ c1 / 64 ≠ 2) : decodeN n b0 b1 b2 b3 = decodeN m b0 c1 c2 c3 := by
  unfold decodeN
  have e1 : ¬ (1 < n ∧ b1 / 64 = 2) := by omega
  have e2 : ¬ (1 < m ∧ c1 / 64 = 2) := by omega
  simp only [e1, e2, and_false, false_and, if_false]
theorem decodeN_stop2 {n b0 b1 b2 b3 c2 c3 m : Nat} (hn : 1 < n) (hm : 1 < m) (h1 : n ≤ 2 ∨ b2 / 64 ≠ 2) (h2 : m ≤ 2 ∨ c2 / 64 ≠ 2) : decodeN n b0 b1 b2 b3 = decodeN m b0 b1 c2 c3 := by
  unfold decodeN
  have e1 : ¬ (2 < n ∧ b2 / 64 = 2) := by omega
  have e2 : ¬ (2 < m ∧ c2 / 64 = 2) := by omega
  simp only [e1, e2, and_false, false_and, if_false, hn, hm, true_and]
theorem decodeN_stop3 {n b0 b1 b2 b3 c3 m : Nat} (hn : 2 < n) (hm : 2 < m) (h1 : n ≤ 3 ∨ b3 / 64 ≠ 2) (h2 : m ≤ 3 ∨ c3 / 64 ≠ 2) : decodeN n b0 b1 b2 b3 = decodeN m b0 b1 b2 c3 := by
  unfold decodeN
  have e1 : ¬ (3 < n ∧ b3 / 64 = 2) := by omega
  have e2 : ¬ (3 < m ∧ c3 / 64 = 2) := by omega
  have h1n : 1 < n := by omega
  have h1m : 1 < m := by omega
  simp only [e1, e2, and_false, if_false, hn, hm, h1n, h1m, true_and]
theorem decodeN_stop4 {n b0 b1 b2 b3 m : Nat} (hn : 3 < n) (hm : 3 < m) : decodeN n b0 b1 b2 b3 = decodeN m b0 b1 b2 b3 := by
  unfold decodeN
  have h1n : 1 < n := by omega
  have h1m : 1 < m := by omega
  have h2n : 2 < n := by omega
  have h2m : 2 < m := by omega
  simp only [hn, hm, h1n, h1m, h2n, h2m, true_and]
theorem stop_get {x : List UInt8} (h : Stop x) (n : Nat) : n + x.length ≤ n ∨ (x.getD 0 0).toNat / 64 ≠ 2 := by
  cases x with
  | nil => simp
  | cons b x => right; simpa [Stop, contB] using h
/-- What stands behind a stop does not matter. -/
theorem dec_stop (l x : List UInt8) (hl : l ≠ []) (hx : Stop x) : decodeL (l ++ x) = decodeL l := by
  rw [decodeL_N, decodeL_N]
  rcases l with _ | ⟨a, _ | ⟨b, _ | ⟨c, _ | ⟨d, l⟩⟩⟩⟩
  · exact absurd rfl hl
  · refine decodeN_stop1 ?_ (.inl (by simp))
    rcases stop_get hx 1 with h | h
    · left; simp only [List.length_append, List.length_cons, List.length_nil]; omega
    · right; simpa using h
  · refine decodeN_stop2 (by simp) (by simp) ?_ (.inl (by simp))
    rcases stop_get hx 2 with h | h
    · left; simp only [List.length_append, List.length_cons, List.length_nil]; omega
    · right; simpa using h
  · refine decodeN_stop3 (by simp) (by simp) ?_ (.inl (by simp))
    rcases stop_get hx 3 with h | h
    · left; simp only [List.length_append, List.length_cons, List.length_nil]; omega
    · right; simpa using h
  · exact decodeN_stop4 (by simp) (by simp)
theorem toks_append (l x : List UInt8) (hx : Stop x) : toks (l ++ x) = toks l ++ toks x := by
  induction l using dec_induction with
  | h0 => rw [toks_nil]; rfl
  | h1 l hn ih =>
    have hle := dec_le l hn
    have hne : l ++ x ≠ [] := by simp [hn]
    rw [toks_cons _ hne, toks_cons l hn, dec_stop l x hn hx, List.drop_append_of_le_length hle, ih, List.take_append_of_le_length hle]
    rfl

theorem encZ_shape (r : Nat) (hv : r < 55296 ∨ (57343 < r ∧ r ≤ 1114111)) :
    (r ≤ 127 ∧ encodeRuneZ r = [(r : Int)]) ∨ (128 ≤ r ∧ r ≤ 2047 ∧ encodeRuneZ r = [192 + (r : Int) / 64, 128 + (r : Int) % 64]) ∨
    (2048 ≤ r ∧ r ≤ 65535 ∧ encodeRuneZ r = [224 + (r : Int) / 4096, 128 + (r : Int) / 64 % 64, 128 + (r : Int) % 64]) ∨
    (65536 ≤ r ∧ r ≤ 1114111 ∧ encodeRuneZ r = [240 + (r : Int) / 262144, 128 + (r : Int) / 4096 % 64, 128 + (r : Int) / 64 % 64, 128 + (r : Int) % 64]) := by
  by_cases h1 : r ≤ 127
  · exact .inl ⟨h1, encodeRuneZ_one (by omega) (by omega)⟩
  · by_cases h2 : r ≤ 2047
    · exact .inr (.inl ⟨by omega, h2, encodeRuneZ_two (by omega) (by omega)⟩)
    · by_cases h3 : r ≤ 65535
      · exact .inr (.inr (.inl ⟨by omega, h3, encodeRuneZ_three (by omega)⟩))
      · exact .inr (.inr (.inr ⟨by omega, by omega, encodeRuneZ_four (by omega) (by omega)⟩))
theorem u8_toNat (z : Int) (_h0 : 0 ≤ z) (h1 : z < 256) : (z.toNat.toUInt8).toNat = z.toNat := by
  simp; omega
theorem dec_enc (r : Nat) (hv : r < 55296 ∨ (57343 < r ∧ r ≤ 1114111)) (x : List UInt8) : decodeL (encodeRune r ++ x) = (r, (encodeRune r).length) := by
  rw [decodeL_N]
  rcases encZ_shape r hv with ⟨h, e⟩ | ⟨h, h', e⟩ | ⟨h, h', e⟩ | ⟨h, h', e⟩
  · have hl : encodeRune r = [((r : Int).toNat.toUInt8)] := by simp only [encodeRune, e, List.map_cons, List.map_nil]
    rw [hl]
    simp only [List.cons_append, List.nil_append, List.getD_cons_zero, List.length_cons]
    rw [u8_toNat _ (by omega) (by omega)]
    unfold decodeN
    simp only [Int.toNat_natCast]
    rw [if_pos (by omega)]
    simp
  · have hl : encodeRune r = [((192 + (r : Int) / 64).toNat.toUInt8), ((128 + (r : Int) % 64).toNat.toUInt8)] := by simp only [encodeRune, e, List.map_cons, List.map_nil]
    rw [hl]
    simp only [List.cons_append, List.nil_append, List.getD_cons_zero, List.getD_cons_succ, List.length_cons]
    rw [u8_toNat _ (by omega) (by omega), u8_toNat _ (by omega) (by omega)]
    have a1 : (192 + (r : Int) / 64).toNat = 192 + r / 64 := by omega
    have a2 : (128 + (r : Int) % 64).toNat = 128 + r % 64 := by omega
    rw [a1, a2]
    unfold decodeN
    have c1 : ¬ 192 + r / 64 < 128 := by omega
    have c2 : (192 + r / 64) / 32 = 6 := by omega
    have c3 : (128 + r % 64) / 64 = 2 := by omega
    have c4 : (192 + r / 64) % 32 * 64 + (128 + r % 64) % 64 = r := by omega
    have c5 : 128 ≤ r := by omega
    rw [if_neg c1, if_pos ⟨c2, by omega, c3⟩, c4, if_pos c5]
    rfl
  · have hl : encodeRune r = [((224 + (r : Int) / 4096).toNat.toUInt8), ((128 + (r : Int) / 64 % 64).toNat.toUInt8), ((128 + (r : Int) % 64).toNat.toUInt8)] := by simp only [encodeRune, e, List.map_cons, List.map_nil]
    rw [hl]
    simp only [List.cons_append, List.nil_append, List.getD_cons_zero, List.getD_cons_succ, List.length_cons]
    rw [u8_toNat _ (by omega) (by omega), u8_toNat _ (by omega) (by omega), u8_toNat _ (by omega) (by omega)]
    have a1 : (224 + (r : Int) / 4096).toNat = 224 + r / 4096 := by omega
    have a2 : (128 + (r : Int) / 64 % 64).toNat = 128 + r / 64 % 64 := by omega
    have a3 : (128 + (r : Int) % 64).toNat = 128 + r % 64 := by omega
    rw [a1, a2, a3]
    unfold decodeN
    have c1 : ¬ 224 + r / 4096 < 128 := by omega
    have c2 : (224 + r / 4096) / 32 ≠ 6 := by omega
    have c2' : (224 + r / 4096) / 16 = 14 := by omega
    have c3 : (128 + r / 64 % 64) / 64 = 2 := by omega
    have c3' : (128 + r % 64) / 64 = 2 := by omega
    have c4 : (224 + r / 4096) % 16 * 4096 + (128 + r / 64 % 64) % 64 * 64 + (128 + r % 64) % 64 = r := by omega
    have c5 : 2048 ≤ r := by omega
    rw [if_neg c1, if_neg (fun h => c2 h.1), if_pos ⟨c2', ⟨by omega, c3⟩, ⟨by omega, c3'⟩⟩, c4, if_pos ⟨c5, by omega⟩]
    rfl
  · have hl : encodeRune r = [((240 + (r : Int) / 262144).toNat.toUInt8), ((128 + (r : Int) / 4096 % 64).toNat.toUInt8), ((128 + (r : Int) / 64 % 64).toNat.toUInt8), ((128 + (r : Int) % 64).toNat.toUInt8)] := by simp only [encodeRune, e, List.map_cons, List.map_nil]
    rw [hl]
    simp only [List.cons_append, List.nil_append, List.getD_cons_zero, List.getD_cons_succ, List.length_cons]
    rw [u8_toNat _ (by omega) (by omega), u8_toNat _ (by omega) (by omega), u8_toNat _ (by omega) (by omega), u8_toNat _ (by omega) (by omega)]
    have a1 : (240 + (r : Int) / 262144).toNat = 240 + r / 262144 := by omega
    have a2 : (128 + (r : Int) / 4096 % 64).toNat = 128 + r / 4096 % 64 := by omega
    have a2' : (128 + (r : Int) / 64 % 64).toNat = 128 + r / 64 % 64 := by omega
    have a3 : (128 + (r : Int) % 64).toNat = 128 + r % 64 := by omega
    rw [a1, a2, a2', a3]
    unfold decodeN
    have c1 : ¬ 240 + r / 262144 < 128 := by omega
    have c2 : (240 + r / 262144) / 32 ≠ 6 := by omega
    have c2' : (240 + r / 262144) / 16 ≠ 14 := by omega
    have c2'' : (240 + r / 262144) / 8 = 30 := by omega
    have c3 : (128 + r / 4096 % 64) / 64 = 2 := by omega
    have c3' : (128 + r / 64 % 64) / 64 = 2 := by omega
    have c3'' : (128 + r % 64) / 64 = 2 := by omega
    have c4 : (240 + r / 262144) % 8 * 262144 + (128 + r / 4096 % 64) % 64 * 4096 + (128 + r / 64 % 64) % 64 * 64 + (128 + r % 64) % 64 = r := by omega
    have c5 : 65536 ≤ r := by omega
    rw [if_neg c1, if_neg (fun h => c2 h.1), if_neg (fun h => c2' h.1), if_pos ⟨c2'', ⟨by omega, c3⟩, ⟨by omega, c3'⟩, ⟨by omega, c3''⟩⟩, c4, if_pos ⟨c5, by omega⟩]
    rfl
/-- A rune's form stops what stands ahead of it. -/
theorem stop_enc (r : Nat) (hv : r < 55296 ∨ (57343 < r ∧ r ≤ 1114111)) (x : List UInt8) : Stop (encodeRune r ++ x) := by
  rcases encZ_shape r hv with ⟨h, e⟩ | ⟨h, h', e⟩ | ⟨h, h', e⟩ | ⟨h, h', e⟩ <;>
  · simp only [encodeRune, e, List.map_cons, List.map_nil, List.cons_append, Stop, contB, beq_eq_false_iff_ne, ne_eq]
    rw [u8_toNat _ (by omega) (by omega)]
    omega
theorem toks_valid {t : Tok} (h : t.valid) (x : List UInt8) : toks (t.bs ++ x) = t :: toks x := by
  have hne : t.bs ++ x ≠ [] := by simp [bs_ne (.inl h)]
  rw [toks_cons _ hne]
  rw [h.2, dec_enc t.r h.1 x, ← h.2]
  simp
theorem toks_valids {vs : List Tok} (h : ∀ t ∈ vs, t.valid) (x : List UInt8) : toks (flat vs ++ x) = vs ++ toks x := by
  induction vs with
  | nil => rfl
  | cons t vs ih =>
    rw [flat_cons, List.append_assoc, toks_valid (h t (List.mem_cons_self ..)), ih (fun q hq => h q (List.mem_cons_of_mem _ hq))]
    rfl
theorem stop_valids {vs : List Tok} (hne : vs ≠ []) (h : ∀ t ∈ vs, t.valid) (x : List UInt8) : Stop (flat vs ++ x) := by
  cases vs with
  | nil => exact absurd rfl hne
  | cons t vs =>
    have := h t (List.mem_cons_self ..)
    rw [flat_cons, List.append_assoc, this.2]
    exact stop_enc t.r this.1 _

/-- The pieces are their own text's. -/
def Good (ts : List Tok) : Prop := toks (flat ts) = ts
theorem good_toks (l : List UInt8) : Good (toks l) := by unfold Good; rw [flat_toks]
theorem good_tail {t : Tok} {ts : List Tok} (h : Good (t :: ts)) : Good ts := by
  unfold Good at *
  by_cases hn : flat (t :: ts) = []
  · rw [hn, toks_nil] at h; cases h
  · rw [toks_cons _ hn] at h
    have h1 : (⟨(decodeL (flat (t :: ts))).1, (flat (t :: ts)).take (decodeL (flat (t :: ts))).2⟩ : Tok) = t := by injection h
    have h2 : toks ((flat (t :: ts)).drop (decodeL (flat (t :: ts))).2) = ts := by injection h
    have h3 : (flat (t :: ts)).take (decodeL (flat (t :: ts))).2 = t.bs := congrArg Tok.bs h1
    have h4 := List.take_append_drop (decodeL (flat (t :: ts))).2 (flat (t :: ts))
    rw [h3] at h4
    have h5 : (flat (t :: ts)).drop (decodeL (flat (t :: ts))).2 = flat ts := by
      rw [flat_cons] at h4 ⊢
      exact List.append_cancel_left h4
    rw [← h5]; exact h2
theorem good_drop {a ts : List Tok} (h : Good (a ++ ts)) : Good ts := by
  induction a with
  | nil => exact h
  | cons t a ih => exact ih (good_tail h)
theorem good_ok {ts : List Tok} (h : Good ts) : ∀ t ∈ ts, t.valid ∨ t.broken = true := by
  unfold Good at h; rw [← h]; exact toks_ok _

/-- Broken bytes stay, valid pieces become other valid ones. -/
inductive Sub : List Tok → List Tok → Prop
  | nil : Sub [] []
  | brk {b : Tok} {ts us : List Tok} : b.broken = true → Sub ts us → Sub (b :: ts) (b :: us)
  | val {gs vs ts us : List Tok} : gs ≠ [] → vs ≠ [] → (∀ t ∈ gs, t.valid) → (∀ t ∈ vs, t.valid) → Sub ts us → Sub (gs ++ ts) (vs ++ us)
theorem Sub.one {t : Tok} {vs ts us : List Tok} (ht : t.valid) (hn : vs ≠ []) (hv : ∀ t ∈ vs, t.valid) (h : Sub ts us) : Sub (t :: ts) (vs ++ us) :=
  Sub.val (gs := [t]) (by simp) hn (by simpa using ht) hv h
/-- How a list that is put in another's place begins. -/
theorem Sub.head {ts us : List Tok} (h : Sub ts us) : ∃ B ts' us', (∀ b ∈ B, b.broken = true) ∧ ts = B ++ ts' ∧ us = B ++ us' ∧ Stop (flat ts') ∧ Stop (flat us') := by
  induction h with
  | nil => exact ⟨[], [], [], by simp, rfl, rfl, trivial, trivial⟩
  | brk hb _ ih =>
    obtain ⟨B, ts', us', h1, rfl, rfl, h4, h5⟩ := ih
    exact ⟨_ :: B, ts', us', by simpa [hb] using h1, rfl, rfl, h4, h5⟩
  | @val gs vs ts us h1 h2 h3 h4 _ ih =>
    exact ⟨[], gs ++ ts, vs ++ us, by simp, rfl, rfl, by rw [flat_append]; exact stop_valids h1 h3 _, by rw [flat_append]; exact stop_valids h2 h4 _⟩
theorem Sub.good {ts us : List Tok} (h : Sub ts us) (hg : Good ts) : Good us := by
  induction h with
  | nil => exact hg
  | @brk b ts us hb hs ih =>
    have ih' := ih (good_tail hg)
    obtain ⟨B, ts', us', h1, rfl, rfl, h4, h5⟩ := hs.head
    unfold Good at *
    have hne : b.bs ≠ [] := bs_ne (.inr hb)
    have e1 : flat (b :: (B ++ ts')) = flat (b :: B) ++ flat ts' := by rw [← List.cons_append, flat_append]
    have e2 : flat (b :: (B ++ us')) = flat (b :: B) ++ flat us' := by rw [← List.cons_append, flat_append]
    rw [e1, toks_append _ _ h4] at hg
    rw [e2, toks_append _ _ h5]
    have g1 : toks (flat ts') = ts' := by
      have := good_drop (a := B) (ts := ts') (by
        have hh : Good (b :: (B ++ ts')) := by unfold Good; rw [e1, toks_append _ _ h4]; exact hg
        exact good_tail hh)
      exact this
    rw [flat_append, toks_append _ _ h5] at ih'
    have g2 : toks (flat us') = us' := good_drop (a := B) (by unfold Good; rw [flat_append, toks_append _ _ h5]; exact ih')
    rw [g1, ← List.cons_append] at hg
    rw [g2, ← List.cons_append]
    rw [List.append_cancel_right hg]
  | @val gs vs ts us h1 h2 h3 h4 _ ih =>
    unfold Good
    rw [flat_append, toks_valids h4, show toks (flat us) = us from ih (good_drop hg)]

/-! ### The pieces with their places -/
def place : Nat → List Tok → List Pc
  | _, [] => []
  | i, t :: ts => ⟨i, t.bs.length, t.r⟩ :: place (i + t.bs.length) ts
theorem pcs_place (l : List UInt8) : ∀ i, pcsFrom i l = place i (toks l) := by
  induction l using dec_induction with
  | h0 => intro i; rw [toks_nil, pcsFrom_nil]; rfl
  | h1 l hn ih =>
    intro i
    have hle := dec_le l hn
    have e : (l.take (decodeL l).2).length = (decodeL l).2 := by simp; omega
    rw [pcsFrom_cons i l hn, toks_cons l hn, place, ih, e]
theorem place_append (a b : List Tok) : ∀ i, place i (a ++ b) = place i a ++ place (i + (flat a).length) b := by
  induction a with
  | nil => intro i; rfl
  | cons t a ih => intro i; simp only [List.cons_append, place, ih, flat_cons, List.length_append, Nat.add_assoc]
theorem place_length (ts : List Tok) : ∀ i, (place i ts).length = ts.length := by
  induction ts with
  | nil => intro i; rfl
  | cons t ts ih => intro i; simp [place, ih]

end Go.Proofs.Ytlamcpgnmeileaa
namespace Go.Proofs.Ytlamcpgnmeileaa
open Go.RowKit Go.Lib
set_option linter.unusedVariables false
set_option linter.unusedSimpArgs false
section
variable {R S : Type} {c : Prop} [Decidable c] {o x z : Option R} {p : Option S} {f : S → Option R} {b : Bool} {y : Option R}
theorem grdI (h : c) (ho : o = x) : grd c o = x := (grd_pos h).trans ho
theorem thenI {a : S} (h : p = some a) (hf : f a = x) : andThen p f = x := (and_some h).trans hf
theorem condTI (hb : b = true) (h : x = z) : bcond b x y = z := (bcond_T hb).trans h
theorem condFI (hb : b = false) (h : y = z) : bcond b x y = z := (bcond_F hb).trans h
theorem joinI {T : Type} {t : T → Option R} {k : T} (h : t k = x) : joinK t k = x := h
theorem loopI {T : Type} {bot : T} {step : T → T} {n : Nat} : loopG bot step (n + 1) = step (loopG bot step n) := rfl
theorem bcond_if {q : Prop} [Decidable q] : bcond (decide q) x y = if q then x else y := by
  unfold bcond; rw [Bool.cond_decide]
theorem fuel_eq (k : Nat) (h : k ≤ 1000) : ∃ n, fuel = n + k ∧ 18446744073709550000 ≤ n := ⟨18446744073709551616 - k, by unfold fuel; omega, by omega⟩
end
/-- A rune that has a form. -/
def vr (r : Int) : Prop := (0 ≤ r ∧ r < 55296) ∨ (57343 < r ∧ r ≤ 1114111)
instance (r : Int) : Decidable (vr r) := by unfold vr; infer_instance
theorem none_v (r : Int) : ref01_None_v r = some (!decide (vr r)) := by
  unfold ref01_None_v
  simp only [bcond_if]
  by_cases h : vr r
  · have h' := h
    unfold vr at h'
    rw [decide_eq_true h, if_neg (by omega), if_neg (by omega)]
    split
    · rw [decide_eq_false (by omega)]; rfl
    · rfl
  · have h' := h
    unfold vr at h'
    rw [decide_eq_false h]
    split
    · rfl
    · split
      · rfl
      · rw [if_pos (by omega), decide_eq_true (by omega)]; rfl
def wd (r : Int) : Int := if vr r then (if r < 128 then 1 else if r < 2048 then 2 else if r < 65536 then 3 else 4) else 0
theorem width_v (r : Int) : ref01_Width_v r = some (wd r) := by
  unfold ref01_Width_v wd
  refine thenI (none_v r) ?_
  by_cases h : vr r
  · refine condFI (by simp [h]) ?_
    rw [if_pos h]
    simp only [bcond_if]
    split
    · rfl
    · split
      · rfl
      · split <;> rfl
  · refine condTI (by simp [h]) ?_
    rw [if_neg h]
theorem wd_len (r : Int) (h : vr r) : ((encodeRune r).length : Int) = wd r := by
  unfold wd; rw [if_pos h]
  unfold vr at h
  unfold encodeRune
  rw [List.length_map]
  split
  · rw [encodeRuneZ_one (by omega) (by omega)]; rfl
  · split
    · rw [encodeRuneZ_two (by omega) (by omega)]; rfl
    · split
      · rw [encodeRuneZ_three (by omega)]; rfl
      · rw [encodeRuneZ_four (by omega) (by omega)]; rfl
theorem u8w (x : Int) (h : 0 ≤ x ∧ x ≤ 255) : IntKind.u8.wrap x = x := IntWalk.u8_in x h
theorem enc_step {j : Int → List Int → Option ByteArray} {ag : Int → List Int → Int → Option ByteArray} {r i : Int} {b : List Int} (h0 : 0 ≤ r) (hr : r ≤ 1114111) (hi : 0 < i) (hb : i < b.length) (hb4 : b.length ≤ 4) :
    ref01_Encode_s1 j ag r b i = ag (r / 64) (b.set i.toNat (128 + r % 64)) (i - 1) := by
  unfold ref01_Encode_s1
  have e1 : Int.tmod r 64 = r % 64 := Int.tmod_eq_emod_of_nonneg h0
  have e2 : Int.tdiv r 64 = r / 64 := Int.tdiv_eq_ediv_of_nonneg h0
  refine condTI (decide_eq_true hi) (grdI ⟨by omega, by omega⟩ ?_)
  obtain ⟨q, hq⟩ : ∃ q, getO b i = some q := ⟨_, getO_of (n := i.toNat) (by omega) (List.getElem?_eq_getElem (by omega))⟩
  refine thenI hq (grdI ⟨by omega, by omega⟩ (grdI ⟨by omega, by omega⟩ ?_))
  rw [e1, e2, u8w _ (by omega)]
theorem enc_end {j : Int → List Int → Option ByteArray} {ag : Int → List Int → Int → Option ByteArray} {r : Int} {b : List Int} : ref01_Encode_s1 j ag r b 0 = j r b := by
  unfold ref01_Encode_s1; exact condFI rfl rfl
theorem bytesOf_eq {l : List Int} {s : ByteArray} (h : l.map (fun x => UInt8.ofNat x.toNat) = s.data.toList) : bytesOf l = s := by
  apply ByteArray.ext; unfold bytesOf; simp [h]
theorem encode_v (r : Int) (hr : I32 r) : ref01_Encode_v r = some (Utf8.encode r) := by
  have key : ∀ r, vr r → (andThen (ref01_Width_v r) fun (r4 : Int) =>
      bcond ((r4 : Int) == 1) (grd (∀ x ∈ ([IntKind.u8.wrap r] : List Int), U8 x) <| some (bytesOf ([IntKind.u8.wrap r] : List Int)))
      (joinK (fun (j2 : Int → (List Int) → Option ByteArray) => grd (0 ≤ r4 ∧ r4 ≤ 2147483648) <| grd (I64 (r4 - 1)) <| loopG (fun _ _ _ => none) (ref01_Encode_s1 j2) fuel r (List.replicate (r4 : Int).toNat 0) (r4 - 1))
       (fun (r5 : Int) (b2 : List Int) =>
        grd (I64 (8 - r4)) <| grd (0 ≤ (8 - r4)) <| grd (I64 (256 - (shlI .i64 1 (8 - r4)))) <| grd (I64 r5) <| grd (I64 ((256 - (shlI .i64 1 (8 - r4))) + r5)) <|
        andThen (getO b2 0) fun (q2 : Int) => grd (∀ x ∈ b2.set (0 : Int).toNat (IntKind.u8.wrap ((256 - (shlI .i64 1 (8 - r4))) + r5)), U8 x) <|
        some (bytesOf (b2.set (0 : Int).toNat (IntKind.u8.wrap ((256 - (shlI .i64 1 (8 - r4))) + r5))))))) = some (Utf8.encode r) := by
    intro r hv
    have hv' := hv
    unfold vr at hv
    refine thenI (width_v r) ?_
    obtain ⟨n, hn, _⟩ := fuel_eq 5 (by omega)
    rw [hn]
    unfold wd; rw [if_pos hv']
    have hw : encodeRune r = (encodeRuneZ r).map fun x => x.toNat.toUInt8 := rfl
    by_cases h1 : r < 128
    · rw [if_pos h1]
      refine condTI rfl (grdI ?_ ?_)
      · intro x hx
        simp only [List.mem_singleton] at hx
        subst hx; rw [u8w _ (by omega)]; exact ⟨by omega, by omega⟩
      · congr 1
        refine bytesOf_eq ?_
        rw [encode_list, hw, encodeRuneZ_one (by omega) (by omega), u8w _ (by omega)] <;> rfl
    · rw [if_neg h1]
      by_cases h2 : r < 2048
      · rw [if_pos h2]
        refine condFI rfl (joinI (grdI (by omega) (grdI ⟨by omega, by omega⟩ ?_)))
        simp only [loopI]
        show ref01_Encode_s1 _ _ r [0, 0] 1 = _
        rw [enc_step (by omega) (by omega) (by omega) (by decide) (by decide), show (1 : Int) - 1 = 0 by rfl, enc_end]
        have hs : shlI .i64 1 (8 - 2) = 64 := by decide
        rw [hs]
        refine grdI ⟨by omega, by omega⟩ (grdI (by omega) (grdI ⟨by omega, by omega⟩ (grdI ⟨by omega, by omega⟩ (grdI ⟨by omega, by omega⟩ (thenI (a := 0) rfl ?_)))))
        rw [u8w _ (by omega)]
        show grd (∀ x ∈ [256 - 64 + r / 64, 128 + r % 64], U8 x) (some (bytesOf [256 - 64 + r / 64, 128 + r % 64])) = _
        refine grdI (by intro x hx; simp only [List.mem_cons, List.not_mem_nil, or_false] at hx; rcases hx with rfl | rfl <;> exact ⟨by omega, by omega⟩) ?_
        congr 1
        refine bytesOf_eq ?_
        rw [encode_list, hw, encodeRuneZ_two (by omega) (by omega)] <;> rfl
      · rw [if_neg h2]
        by_cases h3 : r < 65536
        · rw [if_pos h3]
          refine condFI rfl (joinI (grdI (by omega) (grdI ⟨by omega, by omega⟩ ?_)))
          simp only [loopI]
          show ref01_Encode_s1 _ _ r [0, 0, 0] 2 = _
          rw [enc_step (by omega) (by omega) (by omega) (by decide) (by decide)]
          show ref01_Encode_s1 _ _ (r / 64) [0, 0, 128 + r % 64] 1 = _
          rw [enc_step (by omega) (by omega) (by omega) (by simp) (by simp), show (1 : Int) - 1 = 0 by rfl, enc_end]
          have hs : shlI .i64 1 (8 - 3) = 32 := by decide
          rw [hs]
          refine grdI ⟨by omega, by omega⟩ (grdI (by omega) (grdI ⟨by omega, by omega⟩ (grdI ⟨by omega, by omega⟩ (grdI ⟨by omega, by omega⟩ (thenI (a := 0) rfl ?_)))))
          rw [u8w _ (by omega)]
          show grd (∀ x ∈ [256 - 32 + r / 64 / 64, 128 + r / 64 % 64, 128 + r % 64], U8 x) (some (bytesOf [256 - 32 + r / 64 / 64, 128 + r / 64 % 64, 128 + r % 64])) = _
          refine grdI (by intro x hx; simp only [List.mem_cons, List.not_mem_nil, or_false] at hx; rcases hx with rfl | rfl | rfl <;> exact ⟨by omega, by omega⟩) ?_
          congr 1
          refine bytesOf_eq ?_
          rw [encode_list, hw, encodeRuneZ_three (by omega), show r / 64 / 64 = r / 4096 by omega] <;> rfl
        · rw [if_neg h3]
          refine condFI rfl (joinI (grdI (by omega) (grdI ⟨by omega, by omega⟩ ?_)))
          simp only [loopI]
          show ref01_Encode_s1 _ _ r [0, 0, 0, 0] 3 = _
          rw [enc_step (by omega) (by omega) (by omega) (by decide) (by decide)]
          show ref01_Encode_s1 _ _ (r / 64) [0, 0, 0, 128 + r % 64] 2 = _
          rw [enc_step (by omega) (by omega) (by omega) (by simp) (by simp)]
          show ref01_Encode_s1 _ _ (r / 64 / 64) [0, 0, 128 + r / 64 % 64, 128 + r % 64] 1 = _
          rw [enc_step (by omega) (by omega) (by omega) (by simp) (by simp), show (1 : Int) - 1 = 0 by rfl, enc_end]
          have hs : shlI .i64 1 (8 - 4) = 16 := by decide
          rw [hs]
          refine grdI ⟨by omega, by omega⟩ (grdI (by omega) (grdI ⟨by omega, by omega⟩ (grdI ⟨by omega, by omega⟩ (grdI ⟨by omega, by omega⟩ (thenI (a := 0) rfl ?_)))))
          rw [u8w _ (by omega)]
          show grd (∀ x ∈ [256 - 16 + r / 64 / 64 / 64, 128 + r / 64 / 64 % 64, 128 + r / 64 % 64, 128 + r % 64], U8 x) (some (bytesOf [256 - 16 + r / 64 / 64 / 64, 128 + r / 64 / 64 % 64, 128 + r / 64 % 64, 128 + r % 64])) = _
          refine grdI (by intro x hx; simp only [List.mem_cons, List.not_mem_nil, or_false] at hx; rcases hx with rfl | rfl | rfl | rfl <;> exact ⟨by omega, by omega⟩) ?_
          congr 1
          refine bytesOf_eq ?_
          rw [encode_list, hw, encodeRuneZ_four (by omega) (by omega), show r / 64 / 64 / 64 = r / 262144 by omega, show r / 64 / 64 % 64 = r / 4096 % 64 by omega] <;> rfl
  unfold ref01_Encode_v
  refine joinI (thenI (none_v r) ?_)
  by_cases h : vr r
  · exact condFI (by simp [h]) (key r h)
  · refine condTI (by simp [h]) ((key 65533 (by decide)).trans ?_)
    congr 1
    unfold Utf8.encode
    rw [validRune_eq, validRune_eq]
    have e1 : validRune r = false := by unfold validRune; exact decide_eq_false h
    rw [e1]; rfl
end Go.Proofs.Ytlamcpgnmeileaa
namespace Go.Proofs.Ytlamcpgnmeileaa
open Go.RowKit Go.Lib
set_option linter.unusedVariables false
set_option linter.unusedSimpArgs false
section
variable {R X A B : Type} {xs : List X}
theorem lp_get {k : Nat} {x : X} (h : xs[k]? = some x) : getO xs (k : Int) = some x := getO_nat h
theorem lp_lt {k : Nat} {x : X} (h : xs[k]? = some x) : decide ((k : Int) < (xs.length : Int)) = true := decide_eq_true (by have := (List.getElem?_eq_some_iff.1 h).1; omega)
theorem lp_ge : decide ((xs.length : Int) < (xs.length : Int)) = false := decide_eq_false (by omega)
theorem lp_i64 {k : Nat} (h : k ≤ 4611686018427387904) : I64 ((k : Int) + 1) := ⟨by omega, by omega⟩
theorem lp_lt' {k : Nat} {x : X} (h : xs[k]? = some x) : k < xs.length := (List.getElem?_eq_some_iff.1 h).1
/-- One thing goes through the loop. -/
theorem loop1 {F : (A → Int → Option R) → A → Int → Option R} {bot : A → Int → Option R} {f : A → X → A} {J : A → Option R} (Inv : Nat → A → Prop)
    (hs : ∀ ag k x a, xs[k]? = some x → Inv k a → F ag a (k : Int) = ag (f a x) ((k : Int) + 1)) (hI : ∀ k x a, xs[k]? = some x → Inv k a → Inv (k + 1) (f a x))
    (he : ∀ ag a, Inv xs.length a → F ag a (xs.length : Int) = J a) {n : Nat} (hn : xs.length < n) {a : A} (h0 : Inv 0 a) : loopG bot F n a 0 = J (xs.foldl f a) := by
  have key : ∀ (n k : Nat) (a : A), k ≤ xs.length → xs.length - k < n → Inv k a → loopG bot F n a (k : Int) = J ((xs.drop k).foldl f a) := by
    intro n
    induction n with
    | zero => intro k a _ h; omega
    | succ n ih =>
      intro k a hk hn hi
      rw [loopI]
      by_cases h : k < xs.length
      · have hx : xs[k]? = some xs[k] := List.getElem?_eq_getElem h
        rw [hs _ k _ a hx hi, List.drop_eq_getElem_cons h, List.foldl_cons]
        exact ih (k + 1) _ (by omega) (by omega) (hI k _ a hx hi)
      · have : k = xs.length := by omega
        subst this
        rw [he _ a hi, List.drop_length]; rfl
  have := key n 0 a (Nat.zero_le _) (by omega) h0
  simpa using this
theorem loop2 {F : (A → B → Int → Option R) → A → B → Int → Option R} {bot : A → B → Int → Option R} {f : A × B → X → A × B} {J : A → B → Option R} (Inv : Nat → A × B → Prop)
    (hs : ∀ ag k x (a : A × B), xs[k]? = some x → Inv k a → F ag a.1 a.2 (k : Int) = ag (f a x).1 (f a x).2 ((k : Int) + 1)) (hI : ∀ k x a, xs[k]? = some x → Inv k a → Inv (k + 1) (f a x))
    (he : ∀ ag (a : A × B), Inv xs.length a → F ag a.1 a.2 (xs.length : Int) = J a.1 a.2) {n : Nat} (hn : xs.length < n) {a : A × B} (h0 : Inv 0 a) : loopG bot F n a.1 a.2 0 = J (xs.foldl f a).1 (xs.foldl f a).2 := by
  have key : ∀ (n k : Nat) (a : A × B), k ≤ xs.length → xs.length - k < n → Inv k a → loopG bot F n a.1 a.2 (k : Int) = J ((xs.drop k).foldl f a).1 ((xs.drop k).foldl f a).2 := by
    intro n
    induction n with
    | zero => intro k a _ h; omega
    | succ n ih =>
      intro k a hk hn hi
      rw [loopI]
      by_cases h : k < xs.length
      · have hx : xs[k]? = some xs[k] := List.getElem?_eq_getElem h
        rw [hs _ k _ a hx hi, List.drop_eq_getElem_cons h, List.foldl_cons]
        exact ih (k + 1) _ (by omega) (by omega) (hI k _ a hx hi)
      · have : k = xs.length := by omega
        subst this
        rw [he _ a hi, List.drop_length]; rfl
  have := key n 0 a (Nat.zero_le _) (by omega) h0
  simpa using this
/-- A loop that seeks. -/
theorem seek {F : (Int → Option R) → Int → Option R} {bot : Int → Option R} {g : X → Option (Option R)} {J : Option R}
    (hs : ∀ (ag : Int → Option R) (k : Nat) (x : X), xs[k]? = some x → F ag (k : Int) = (g x).getD (ag ((k : Int) + 1))) (he : ∀ ag, F ag (xs.length : Int) = J) {n : Nat} (hn : xs.length < n) : loopG bot F n 0 = (xs.findSome? g).getD J := by
  have key : ∀ (n k : Nat), k ≤ xs.length → xs.length - k < n → loopG bot F n (k : Int) = ((xs.drop k).findSome? g).getD J := by
    intro n
    induction n with
    | zero => intro k _ h; omega
    | succ n ih =>
      intro k hk hn
      rw [loopI]
      by_cases h : k < xs.length
      · have hx : xs[k]? = some xs[k] := List.getElem?_eq_getElem h
        rw [hs _ k _ hx, List.drop_eq_getElem_cons h, List.findSome?_cons]
        have := ih (k + 1) (by omega) (by omega)
        push_cast at this
        rw [this]
        cases g xs[k] <;> rfl
      · have : k = xs.length := by omega
        subst this
        rw [he, List.drop_length]; rfl
  have := key n 0 (Nat.zero_le _) (by omega)
  simpa using this
theorem rg_fold {X : Type} {step : X → (A → Option R) → A → Option R} {f : A → X → A} {K : A → Option R} (hs : ∀ x ag a, step x ag a = ag (f a x)) : ∀ (xs : List X) (a : A), rangeG K step xs a = K (xs.foldl f a)
  | [], a => rfl
  | x :: xs, a => by rw [rangeG_cons, hs, rg_fold hs xs]; rfl
end
theorem big_fuel {n : Nat} (h : n ≤ 4611686018427387904) : n < fuel := by unfold fuel; omega
end Go.Proofs.Ytlamcpgnmeileaa
namespace Go.Proofs.Ytlamcpgnmeileaa
open Go.RowKit Go.Lib Go.Shelf
attribute [local go_sem] Oper.semAt_some wide_fn wide_in_fn wide_depth
set_option linter.unusedVariables false

theorem ret_bool {a b : Bool} (h : a = b) : Ending.returned (.bool a) = .returned (.bool b) := by rw [h]
theorem ret_int {k : IntKind} {a b : Int} (h : a = b) : Ending.returned (.int k a) = .returned (.int k b) := by rw [h]

def hasPre (l p : List UInt8) : Bool := decide (l.take p.length = p)

set_option maxHeartbeats 400000 in
theorem hasPrefix0_any (s p : ByteArray) (w : World) :
    Calls Try.prog 94 #[.string s, .string p] w fun e w' => e = .returned (.bool (hasPre s.data.toList p.data.toList)) ∧ w = w' := by
  by_cases h : p.size ≤ s.size
  · go_enter Try.func94, Try.ntmps94
    go_wp2
    go_ret
    refine ⟨ret_bool ?_, rfl⟩
    rw [Lib.toList_data, Lib.toList_data, extract_data]
    simp only [hasPre, List.drop_zero, Nat.sub_zero]
    rw [show p.data.toList.length = p.size from by simp]
    rw [Bool.eq_iff_iff]
    rw [beq_iff_eq, decide_eq_true_iff]
  · go_enter Try.func94, Try.ntmps94
    go_wp2
    go_ret
    refine ⟨ret_bool ?_, rfl⟩
    symm
    simp only [hasPre, decide_eq_false_iff_not]
    intro e
    have := congrArg List.length e
    simp at this
    omega

set_option maxHeartbeats 400000 in
theorem hasPrefix_any (s p : ByteArray) (w : World) :
    Calls Try.prog 87 #[.string s, .string p] w fun e w' => e = .returned (.bool (hasPre s.data.toList p.data.toList)) ∧ w = w' := by
  go_enter Try.func87, Try.ntmps87
  go_wp2_with (go_at_call 94; refine (hasPrefix0_any _ _ _).mono ?_; rintro e w' ⟨rfl, rfl⟩)
  go_ret
  exact ⟨rfl, rfl⟩

def encPc (p : Pc) : Array Value := #[.agg #[.int .i64 p.i, .int .i64 p.w, .int .i32 p.r, .bool p.broken]]

set_option maxRecDepth 100000 in
set_option maxHeartbeats 1000000 in
theorem pieces1_yields (s : ByteArray) (hs : s.size ≤ 4611686018427387904) (Bs : Nat) (W0 : World) (hB : Boxed W0 Bs 9 (.string s)) :
    Yields Try.prog 86 #[.pointer (some ⟨Bs, 0, none⟩)] encPc (pcs s.data.toList) (fun k => k = Bs) W0 := by
  intro l I X C0 W hD hsz hC0 hI hX hY h0
  have hBW : Boxed W Bs 9 (.string s) := (hD Bs rfl).2.trans hB
  have hc := hBW.cell
  refine calls_of_body Try.func86 rfl ?_
  simp only [Try.ntmps86, List.size_toArray, List.length_cons, List.length_nil, Nat.reduceAdd, Nat.reduceSub, Array.replicate_succ, Array.replicate_zero, List.push_toArray, List.append_toArray, List.nil_append, List.cons_append]
  gi_wp2
  gi_loopw [] (fun wr => ∃ pre C pos, pcs s.data.toList = pre ++ pcsFrom pos (s.data.toList.drop pos) ∧ pos ≤ s.size ∧ I pre C wr ∧ Ext C0 C W wr ∧ ¬ C W.heap.size ∧ wr.heap[W.heap.size]? = some (.stringIter s pos)) (fun wr => s.size - wr.iterPos W.heap.size)
  case atStart =>
    have h1 := World.iter_heap W s 0
    refine ⟨[], C0, 0, rfl, Nat.zero_le _, ?_, ?_, fun h => by have := (hC0 _ h).1; omega, h1⟩
    · exact hI _ _ _ _ h0 (by simp [World.iter]) (fun k hk => Below.heap_alloc W _ k (hC0 k hk).1)
    · exact Ext.of_fr ((Fr.refl _ _).alloc _)
  case round =>
    obtain ⟨pre, C, pos, hx, hpos, hi, hext, hnC, hit⟩ := hrel
    have hitlt : W.heap.size < wr.heap.size := lt_of_some hit
    have hBr : Boxed wr Bs 9 (.string s) := hext.1.at hBW (fun h => (hC0 _ h).2 rfl)
    have hBne : Bs ≠ W.heap.size := by have := (hD Bs rfl).1; omega
    by_cases hlt : pos < s.size
    · have hnx : ∀ ty, (Instr.next (.pointer (some ⟨W.heap.size, 0, none⟩)) true ty).run Try.prog wr = _ := fun ty => Lib.run_next_any_at wr W.heap.size s pos ty hit hlt
      have hne : s.data.toList.drop pos ≠ [] := by
        intro e; have := congrArg List.length e; simp at this; omega
      have hdl := decodeL_drop s pos
      have hv := dec_valid (s.data.toList.drop pos)
      have hle := dec_le _ hne
      have hwd := dec_width _ hne
      have hlo := dec_lost_ok _ hne
      have hlb := dec_lost_bad (s.data.toList.drop pos)
      have hp1 := dec_pos (s.data.toList.drop pos)
      rw [pcsFrom_cons pos _ hne] at hx
      rw [List.drop_drop] at hx
      rw [hdl] at hx hv hle hwd hlo hlb hp1
      clear hdl
      rcases hd : Utf8.decode s pos with ⟨r, wd⟩
      rw [hd] at hx hv hle hwd hlo hlb hp1 hnx
      clear hd
      simp only at hx hv hle hwd hlo hlb hp1 hnx
      have hle' : pos + wd ≤ s.size := by simp at hle; omega
      obtain ⟨W1, hW1⟩ : ∃ W1, wr.iterAt W.heap.size s (pos + wd) = W1 := ⟨_, rfl⟩
      have hit1 : W1.heap[W.heap.size]? = some (.stringIter s (pos + wd)) := by rw [← hW1]; exact iterAt_heap wr _ s pos _ hit
      have hf1 : Fr (fun k => k = W.heap.size) wr W1 := by rw [← hW1]; exact Fr.iterAt (Fr.refl (fun k => k = W.heap.size) wr) (.inl rfl) s _
      have hB1 : Boxed W1 Bs 9 (.string s) := hf1.at hBr hBne
      have hc1 := hB1.cell
      have hsz1 : W1.heap.size = wr.heap.size := by rw [← hW1, iterAt_size]
      rw [hW1] at hnx
      clear hW1 hc
      have hiA : ∀ w', Fr (fun k => k = W.heap.size) wr w' → I pre C w' := fun w' hf => hI.own hi hext (fun k hk => (hC0 k hk).1) hf (by rintro k rfl; exact hnC)
      have heA : ∀ w', Fr (fun k => k = W.heap.size) wr w' → Ext C0 C W w' := fun w' hf => hext.own hf (by rintro k rfl; exact Nat.le_refl _)
      have hx' : pcs s.data.toList = (pre ++ [⟨pos, wd, r⟩]) ++ pcsFrom (pos + wd) (s.data.toList.drop (pos + wd)) := by rw [hx]; simp
      have hx'' := Lib.hid hx'
      have fin : ∀ (b : Bool) (W2 W3 : World), Fr (fun k => k = W.heap.size) wr W2 → W2.heap[W.heap.size]? = some (.stringIter s (pos + wd)) →
          (∃ C', Ext C C' W2 W3 ∧ ((b = true ∧ I (pre ++ [⟨pos, wd, r⟩]) C' W3) ∨ (b = false ∧ X (pre ++ [⟨pos, wd, r⟩]) C' W3))) →
          (b = true ∧ (∃ pre C pos, pcs s.data.toList = pre ++ pcsFrom pos (s.data.toList.drop pos) ∧ pos ≤ s.size ∧ I pre C W3 ∧ Ext C0 C W W3 ∧ ¬ C W.heap.size ∧ W3.heap[W.heap.size]? = some (.stringIter s pos)) ∧ s.size - W3.iterPos W.heap.size < s.size - wr.iterPos W.heap.size) ∨
          (b = false ∧ ∃ C', Ext C0 C' W W3 ∧ (I (pcs s.data.toList) C' W3 ∨ ∃ pre x post, pcs s.data.toList = pre ++ x :: post ∧ X (pre ++ [x]) C' W3)) := by
        rintro b W2 W3 hf2 hit2 ⟨C', he3, ⟨rfl, hi3⟩ | ⟨rfl, hx3⟩⟩
        · have hit3 := he3.1.at hit2 hnC
          refine .inl ⟨rfl, ⟨_, C', pos + wd, hx', hle', hi3, (heA _ hf2).trans he3, he3.not (lt_of_some hit2) hnC, hit3⟩, ?_⟩
          simp only [World.iterPos, hit3, hit]
          omega
        · exact .inr ⟨rfl, C', (heA _ hf2).trans he3, .inr ⟨pre, _, _, hx, hx3⟩⟩
      have hitA : ∀ o, (W1.alloc o).heap[W.heap.size]? = some (.stringIter s (pos + wd)) := fun o => (Below.heap_alloc W1 o _ (by omega)).trans hit1
      by_cases h1 : r = 65533
      · subst h1
        have hex1 : ∀ b, hasPre (s.extract pos s.size).data.toList (ByteArray.mk #[239, 191, 189]).data.toList = b → ∀ w : World,
            Calls Try.prog 87 #[.string (s.extract pos s.size), .string (ByteArray.mk #[239, 191, 189])] w fun e w' => e = .returned (.bool b) ∧ w = w' := by
          intro b hb w
          rw [← hb]
          exact hasPrefix_any _ _ w
        rw [ext_end] at hex1
        have hw3 : (Utf8.encode 65533).size = 3 := by decide
        have hcA : ∀ o, (W1.alloc o).cell? ⟨Bs, 0, none⟩ = some (.string s) := fun o => (Boxed.alloc hB1 o).cell
        by_cases h2 : wd = 1
        · subst h2
          have hp := hex1 false (by simp only [hasPre, decide_eq_false_iff_not]; exact hlb rfl rfl)
          have hbr : Pc.broken ⟨pos, 1, 65533⟩ = true := rfl
          have hyy : YAt Try.prog l #[.agg #[.int .i64 pos, .int .i64 1, .int .i32 65533, .bool true]] (W1.alloc (.cells #[.int .i64 pos, .int .i64 1, .int .i32 65533, .bool true] 55)) _ := hY pre ⟨pos, 1, 65533⟩ _ C (W1.alloc (.cells #[.int .i64 pos, .int .i64 1, .int .i32 65533, .bool true] 55)) hx (heA _ (hf1.alloc _)) (hiA _ (hf1.alloc _))
          have hitB : (W1.alloc (.cells #[.int .i64 pos, .int .i64 1, .int .i32 65533, .bool true] 55)).heap[W.heap.size]? = some (.stringIter s (pos + 1)) := ((Fr.refl (fun _ => False) W1).alloc _).at hit1 (fun h => h)
          obtain ⟨fn, tmps, assign, body, hy, hR⟩ := hyy
          have fin' := Lib.hid (fin)
          have hf1'' : Fr (fun k => k = W.heap.size) wr (W1.alloc (.cells #[.int .i64 pos, .int .i64 1, .int .i32 65533, .bool true] 55)) := hf1.alloc _
          have hf1' := Lib.hid hf1''
          clear hf1''
          have hitA' := Lib.hid hitB
          clear hbr hwd hlo hlb hv hx hx' hY hiA hD hext fin hf1 hitA heA hex1 hitB
          gi_wp2_with (gi_at_call 87; refine (CallsIn.mono (callsIn_wide.2 (hp _)) ?_); rintro e w' ⟨rfl, rfl⟩)
          refine hR.mono ?_
          rintro e W3 ⟨b, rfl, hex⟩
          rcases fin'.out b _ W3 hf1'.out hitA'.out hex with ⟨rfl, hrel, hmu⟩ | ⟨rfl, hend⟩
          · have hrel' := Lib.hid hrel; have hmu' := Lib.hid hmu
            clear hrel hmu hex fin' hitA' hf1'
            gi_wp2
            go_roundw
            case rel => exact hrel'.out
            case measure => exact hmu'.out
          · have hend' := Lib.hid hend
            clear hend hex fin' hitA' hf1'
            gi_wp2
            exact ⟨_, results_none rfl _ _ _, ⟨_, rfl⟩, hend'.out⟩
        · obtain ⟨hl3, rfl⟩ := hlo rfl h2
          have hp := hex1 true (by simp only [hasPre, decide_eq_true_eq]; exact hl3)
          clear h2 hl3
          have hbr : Pc.broken ⟨pos, 3, 65533⟩ = false := rfl
          have hyy : YAt Try.prog l #[.agg #[.int .i64 pos, .int .i64 3, .int .i32 65533, .bool false]] (W1.alloc (.cells #[.int .i64 pos, .int .i64 3, .int .i32 65533, .bool false] 55)) _ := hY pre ⟨pos, 3, 65533⟩ _ C (W1.alloc (.cells #[.int .i64 pos, .int .i64 3, .int .i32 65533, .bool false] 55)) hx (heA _ (hf1.alloc _)) (hiA _ (hf1.alloc _))
          have hitB : (W1.alloc (.cells #[.int .i64 pos, .int .i64 3, .int .i32 65533, .bool false] 55)).heap[W.heap.size]? = some (.stringIter s (pos + 3)) := ((Fr.refl (fun _ => False) W1).alloc _).at hit1 (fun h => h)
          obtain ⟨fn, tmps, assign, body, hy, hR⟩ := hyy
          have fin' := Lib.hid (fin)
          have hf1'' : Fr (fun k => k = W.heap.size) wr (W1.alloc (.cells #[.int .i64 pos, .int .i64 3, .int .i32 65533, .bool false] 55)) := hf1.alloc _
          have hf1' := Lib.hid hf1''
          clear hf1''
          have hitA' := Lib.hid hitB
          clear hbr hwd hlo hlb hv hx hx' hY hiA hD hext fin hf1 hitA heA hex1 hitB
          gi_wp2_with (gi_at_call 87; refine (CallsIn.mono (callsIn_wide.2 (hp _)) ?_); rintro e w' ⟨rfl, rfl⟩)
          refine hR.mono ?_
          rintro e W3 ⟨b, rfl, hex⟩
          rcases fin'.out b _ W3 hf1'.out hitA'.out hex with ⟨rfl, hrel, hmu⟩ | ⟨rfl, hend⟩
          · have hrel' := Lib.hid hrel; have hmu' := Lib.hid hmu
            clear hrel hmu hex fin' hitA' hf1'
            gi_wp2
            go_roundw
            case rel => exact hrel'.out
            case measure => exact hmu'.out
          · have hend' := Lib.hid hend
            clear hend hex fin' hitA' hf1'
            gi_wp2
            exact ⟨_, results_none rfl _ _ _, ⟨_, rfl⟩, hend'.out⟩
      · have h1' : ((r : Int) == 65533) = false := by simp; omega
        have hw2 : (Utf8.encode (r : Int)).size = wd := by rw [encode_size]; exact hwd (fun h => h1 h.1)
        have hbr : Pc.broken ⟨pos, wd, r⟩ = false := by simp [Pc.broken, h1]
        have hyy := hY pre ⟨pos, wd, r⟩ _ C (W1.alloc (.cells #[.int .i64 pos, .int .i64 wd, .int .i32 r, .bool false] 55)) hx (heA _ (hf1.alloc _)) (hiA _ (hf1.alloc _))
        simp only [encPc, hbr] at hyy
        obtain ⟨fn, tmps, assign, body, hy, hR⟩ := hyy
        have fin' := Lib.hid (fin)
        have hf1' := Lib.hid hf1
        have hitA' := Lib.hid hitA
        clear hbr h1 hwd hlo hlb hv hx hx' hY hiA hD hext fin hf1 hitA heA
        gi_wp2
        refine hR.mono ?_
        rintro e W3 ⟨b, rfl, hex⟩
        rcases fin'.out b _ W3 (hf1'.out.alloc _) (hitA'.out _) hex with ⟨rfl, hrel, hmu⟩ | ⟨rfl, hend⟩
        · have hrel' := Lib.hid hrel; have hmu' := Lib.hid hmu
          clear hrel hmu hex fin' hitA' hf1'
          gi_wp2
          go_roundw
          case rel => exact hrel'.out
          case measure => exact hmu'.out
        · have hend' := Lib.hid hend
          clear hend hex fin' hitA' hf1'
          gi_wp2
          exact ⟨_, results_none rfl _ _ _, ⟨_, rfl⟩, hend'.out⟩
    · have hnx : ∀ ty, (Instr.next (.pointer (some ⟨W.heap.size, 0, none⟩)) true ty).run Try.prog wr = _ := fun ty => Lib.run_next_end_at wr W.heap.size s pos ty hit hlt
      have hx0 : pcs s.data.toList = pre := by rw [hx, List.drop_eq_nil_of_le (by simp; omega), pcsFrom_nil, List.append_nil]
      have hend : ∃ C', Ext C0 C' W wr ∧ (I (pcs s.data.toList) C' wr ∨ ∃ pre x post, pcs s.data.toList = pre ++ x :: post ∧ X (pre ++ [x]) C' wr) := ⟨C, hext, .inl (by rw [hx0]; exact hi)⟩
      have hend' := Lib.hid hend
      clear hx0 hend hx hY hD
      gi_wp2
      exact ⟨_, results_none rfl _ _ _, ⟨_, rfl⟩, hend'.out⟩

end Go.Proofs.Ytlamcpgnmeileaa
namespace Go.Proofs.Ytlamcpgnmeileaa
open Go.RowKit Go.Lib

def evenB (r : Int) : Bool := decide (r % 2 = 0)
def greatP (r : Int) : Prop :=
  (65 ≤ r ∧ r ≤ 90) ∨ (0xC0 ≤ r ∧ r ≤ 0xDE ∧ r ≠ 0xD7) ∨ (((0x100 ≤ r ∧ r ≤ 0x137) ∨ (0x14A ≤ r ∧ r ≤ 0x177)) ∧ r % 2 = 0) ∨ (0x139 ≤ r ∧ r ≤ 0x148 ∧ r % 2 = 1) ∨ r = 0x178 ∨
  (0x179 ≤ r ∧ r ≤ 0x17D ∧ r % 2 = 1) ∨ (0x386 ≤ r ∧ r ≤ 0x38F ∧ r ≠ 0x387 ∧ r ≠ 0x38B ∧ r ≠ 0x38D) ∨ (0x391 ≤ r ∧ r ≤ 0x3AB ∧ r ≠ 0x3A2) ∨ (0x400 ≤ r ∧ r ≤ 0x42F)
instance (r : Int) : Decidable (greatP r) := by unfold greatP; infer_instance
def great (r : Int) : Bool := decide (greatP r)
def smallP (r : Int) : Prop :=
  (97 ≤ r ∧ r ≤ 122) ∨ (0xDF ≤ r ∧ r ≤ 0xFF ∧ r ≠ 0xF7) ∨ (((0x100 ≤ r ∧ r ≤ 0x137) ∨ (0x14A ≤ r ∧ r ≤ 0x177)) ∧ r % 2 = 1) ∨ r = 0x138 ∨ r = 0x149 ∨ r = 0x17F ∨ r = 0x390 ∨
  (0x139 ≤ r ∧ r ≤ 0x148 ∧ r % 2 = 0) ∨ (0x17A ≤ r ∧ r ≤ 0x17E ∧ r % 2 = 0) ∨ (0x3AC ≤ r ∧ r ≤ 0x3CE) ∨ (0x430 ≤ r ∧ r ≤ 0x45F)
instance (r : Int) : Decidable (smallP r) := by unfold smallP; infer_instance
def small (r : Int) : Bool := decide (smallP r)
def letter (r : Int) : Bool := great r || small r
def script (r : Int) : Int := if !letter r then 0 else if r < 0x386 then 1 else if r < 0x400 then 2 else 3
def lower (r : Int) : Int :=
  if !great r then r
  else if r = 0x130 then 0x69 else if r = 0x178 then 0xFF else if r = 0x386 then 0x3AC else if r = 0x38C then 0x3CC
  else if 0x388 ≤ r ∧ r ≤ 0x38A then r + 0x25 else if r = 0x38E ∨ r = 0x38F then r + 0x3F
  else if 0x400 ≤ r ∧ r ≤ 0x40F then r + 0x50 else if r < 0x100 ∨ 0x17F < r then r + 0x20 else r + 1
def back (r : Int) : Int :=
  if r = 0xFF then 0xFF - 0x178
  else if r < 0x100 ∨ (0x3B1 ≤ r ∧ r ≤ 0x3CB) ∨ (0x430 ≤ r ∧ r ≤ 0x44F) then 0x20
  else if r ≤ 0x17F then 1
  else if r = 0x3AC then 0x3AC - 0x386
  else if 0x3AD ≤ r ∧ r ≤ 0x3AF then 0x25
  else if r = 0x3CC then 0x40
  else if r = 0x3CD ∨ r = 0x3CE then 0x3F
  else 0x50
def upper (r : Int) : Int :=
  if !small r then r
  else if r = 0x131 then 0x49 else if r = 0x17F then 0x53 else if r = 0x3C2 then 0x3A3
  else if great (r - back r) && (lower (r - back r) == r) then r - back r else r
def kindP (r : Int) : Int :=
  if r < 0 ∨ (0xD800 ≤ r ∧ r ≤ 0xDFFF) ∨ 0x10FFFF < r then 0
  else if letter r then 1
  else if 0x300 ≤ r ∧ r ≤ 0x36F then 2
  else if 48 ≤ r ∧ r ≤ 57 then 3
  else if r = 10 ∨ r = 13 then 4
  else if r = 9 ∨ r = 32 ∨ r = 0xA0 ∨ r = 0x202F ∨ r = 0x205F ∨ r = 0x3000 then 5
  else if r = 45 ∨ (0x2010 ≤ r ∧ r ≤ 0x2015) then 6
  else if r = 34 ∨ r = 39 ∨ r = 0xAB ∨ r = 0xBB ∨ r = 0x2039 ∨ r = 0x203A then 7
  else if r = 33 ∨ r = 44 ∨ r = 46 ∨ r = 58 ∨ r = 59 ∨ r = 63 ∨ r = 0xA1 ∨ r = 0xB7 ∨ r = 0xBF ∨ r = 0x2026 then 8
  else if 0x2000 ≤ r ∧ r ≤ 0x200A then 5
  else if 0x2018 ≤ r ∧ r ≤ 0x201F then 7
  else if r < 0x20 ∨ (0x7F ≤ r ∧ r ≤ 0x9F) ∨ (0x200B ≤ r ∧ r ≤ 0x200F) ∨ r = 0xFEFF then 9
  else 10
def kind (r : Int) : Int := kindP r

theorem great_iff (r : Int) : great r = true ↔ greatP r := by simp [great]
theorem small_iff (r : Int) : small r = true ↔ smallP r := by simp [small]

end Go.Proofs.Ytlamcpgnmeileaa
namespace Go.Proofs.Ytlamcpgnmeileaa
open Go.RowKit Go.Lib Go.Shelf
set_option linter.unusedVariables false
set_option linter.unusedSimpArgs false

theorem and1 (r : Int) (h0 : -2147483648 ≤ r) (h1 : r ≤ 2147483647) : (bits BinOp.and IntKind.i32 r 1 == 0) = evenB r := by
  have hk : bits .and .i32 r 1 = r % 2 := by
    have h1 : (BitVec.ofInt 32 1).toNat = 2 ^ 1 - 1 := by decide
    have key : (BitVec.ofInt 32 r &&& BitVec.ofInt 32 1).toNat = (r % ((2 ^ 32 : Nat) : Int)).toNat % 2 ^ 1 := by
      rw [BitVec.toNat_and, BitVec.toNat_ofInt, h1, Nat.and_two_pow_sub_one_eq_mod]
    show IntKind.i32.wrap ((BitVec.ofInt 32 r &&& BitVec.ofInt 32 1).toNat : Nat) = r % 2
    rw [key, IntKind.wrap_i32]
    omega
  rw [hk, evenB, Bool.eq_iff_iff]
  simp
theorem even_any (r : Int) (w : World) (h0 : -2147483648 ≤ r) (h1 : r ≤ 2147483647) :
    Calls Try.prog 38 #[.int .i32 r] w fun e w' => e = .returned (.bool (evenB r)) ∧ w = w' := by
  go_enter Try.func38, Try.ntmps38
  go_wp2
  go_ret
  exact ⟨ret_bool (and1 r h0 h1), rfl⟩

set_option maxHeartbeats 1000000 in
theorem great_any (r : Int) (w : World) (h0 : -2147483648 ≤ r) (h1 : r ≤ 2147483647) :
    Calls Try.prog 17 #[.int .i32 r] w fun e w' => e = .returned (.bool (great r)) ∧ w = w' := by
  go_enter Try.func17, Try.ntmps17
  go_wp2_with (go_at_call 38; refine (even_any _ _ (by omega) (by omega)).mono ?_; rintro e w' ⟨rfl, rfl⟩)
  all_goals
    go_ret
    refine ⟨ret_bool ?_, rfl⟩
    (go_light; rw [Bool.eq_iff_iff]; (try simp only [great_iff, greatP, evenB, decide_eq_true_eq, bne_iff_ne, ne_eq, Bool.not_eq_true', decide_eq_false_iff_not, Bool.and_eq_true, Bool.or_eq_true, Bool.or_eq_false_iff, Bool.and_eq_false_iff, bne_eq_false_iff_eq, beq_iff_eq, beq_eq_false_iff_ne, Bool.false_eq_true, false_iff, true_iff, iff_true, iff_false, Bool.not_eq_false', Bool.not_true, Bool.not_false] at *); omega)

set_option maxHeartbeats 1000000 in
theorem small_any (r : Int) (w : World) (h0 : -2147483648 ≤ r) (h1 : r ≤ 2147483647) :
    Calls Try.prog 65 #[.int .i32 r] w fun e w' => e = .returned (.bool (small r)) ∧ w = w' := by
  go_enter Try.func65, Try.ntmps65
  go_wp2_with (go_at_call 38; refine (even_any _ _ (by omega) (by omega)).mono ?_; rintro e w' ⟨rfl, rfl⟩)
  all_goals
    go_ret
    refine ⟨ret_bool ?_, rfl⟩
    (go_light; rw [Bool.eq_iff_iff]; (try simp only [small_iff, smallP, evenB, decide_eq_true_eq, bne_iff_ne, ne_eq, Bool.not_eq_true', decide_eq_false_iff_not, Bool.and_eq_true, Bool.or_eq_true, Bool.or_eq_false_iff, Bool.and_eq_false_iff, bne_eq_false_iff_eq, beq_iff_eq, beq_eq_false_iff_ne, Bool.false_eq_true, false_iff, true_iff, iff_true, iff_false, Bool.not_eq_false', Bool.not_true, Bool.not_false] at *); omega)

theorem letter_any (r : Int) (w : World) (h0 : -2147483648 ≤ r) (h1 : r ≤ 2147483647) :
    Calls Try.prog 36 #[.int .i32 r] w fun e w' => e = .returned (.bool (letter r)) ∧ w = w' := by
  go_enter Try.func36, Try.ntmps36
  go_wp2_with (first | (go_at_call 17; refine (great_any _ _ (by omega) (by omega)).mono ?_; rintro e w' ⟨rfl, rfl⟩) | (go_at_call 65; refine (small_any _ _ (by omega) (by omega)).mono ?_; rintro e w' ⟨rfl, rfl⟩))
  all_goals
    go_ret
    refine ⟨ret_bool ?_, rfl⟩
    go_light
    simp_all [letter]

set_option maxHeartbeats 1000000 in
theorem lower_any (r : Int) (w : World) (h0 : -2147483648 ≤ r) (h1 : r ≤ 2147483647) :
    Calls Try.prog 52 #[.int .i32 r] w fun e w' => e = .returned (.int .i32 (lower r)) ∧ w = w' := by
  by_cases hg : great r = true
  · have hb : r ≤ 2000 ∧ 0 ≤ r := by rw [great_iff] at hg; unfold greatP at hg; omega
    have hb1 := hb.1; have hb2 := hb.2; clear hb
    go_enter Try.func52, Try.ntmps52
    go_wp2_with (go_at_call 17; refine (great_any _ _ (by omega) (by omega)).mono ?_; rintro e w' ⟨rfl, rfl⟩)
    all_goals
      go_ret
      refine ⟨ret_int ?_, rfl⟩
      go_light
      grind [lower]
  · go_enter Try.func52, Try.ntmps52
    go_wp2_with (go_at_call 17; refine (great_any _ _ (by omega) (by omega)).mono ?_; rintro e w' ⟨rfl, rfl⟩)
    all_goals
      go_ret
      refine ⟨ret_int ?_, rfl⟩
      go_light
      simp_all [lower]

set_option maxHeartbeats 1000000 in
theorem back_any (r : Int) (w : World) (h0 : -2147483648 ≤ r) (h1 : r ≤ 2147483647) :
    Calls Try.prog 72 #[.int .i32 r] w fun e w' => e = .returned (.int .i32 (back r)) ∧ w = w' := by
  go_enter Try.func72, Try.ntmps72
  go_wp2
  all_goals
    go_ret
    refine ⟨ret_int ?_, rfl⟩
    go_light
    grind [back]

theorem back_bd (r : Int) : -300 ≤ back r ∧ back r ≤ 300 := by unfold back; (repeat' split) <;> omega
theorem lower_bd (r : Int) (h0 : -2147483648 ≤ r) (h1 : r ≤ 2147483647) : -2147483648 ≤ lower r ∧ lower r ≤ 2147483647 := by
  unfold lower
  by_cases hg : great r = true
  · have hb : r ≤ 2000 ∧ 0 ≤ r := by rw [great_iff] at hg; unfold greatP at hg; omega
    simp only [hg, Bool.not_true, Bool.false_eq_true, if_false]
    (repeat' split) <;> omega
  · simp [hg]; omega

set_option maxHeartbeats 1000000 in
theorem upper_any (r : Int) (w : World) (h0 : -2147483648 ≤ r) (h1 : r ≤ 2147483647) :
    Calls Try.prog 47 #[.int .i32 r] w fun e w' => e = .returned (.int .i32 (upper r)) ∧ w = w' := by
  have hbd1 := (back_bd r).1
  have hbd2 := (back_bd r).2
  by_cases hg : small r = true
  · have hb : r ≤ 2000 ∧ 0 ≤ r := by rw [small_iff] at hg; unfold smallP at hg; omega
    have hb1 := hb.1; have hb2 := hb.2; clear hb
    go_enter Try.func47, Try.ntmps47
    go_wp2_with (first | (go_at_call 65; refine (small_any _ _ (by omega) (by omega)).mono ?_; rintro e w' ⟨rfl, rfl⟩) | (go_at_call 72; refine (back_any _ _ (by omega) (by omega)).mono ?_; rintro e w' ⟨rfl, rfl⟩) | (go_at_call 17; refine (great_any _ _ (by omega) (by omega)).mono ?_; rintro e w' ⟨rfl, rfl⟩) | (go_at_call 52; refine (lower_any _ _ (by omega) (by omega)).mono ?_; rintro e w' ⟨rfl, rfl⟩))
    all_goals
      go_ret
      refine ⟨ret_int ?_, rfl⟩
      go_light
      grind [upper]
  · go_enter Try.func47, Try.ntmps47
    go_wp2_with (first | (go_at_call 65; refine (small_any _ _ (by omega) (by omega)).mono ?_; rintro e w' ⟨rfl, rfl⟩))
    all_goals
      go_ret
      refine ⟨ret_int ?_, rfl⟩
      go_light
      simp_all [upper]

theorem mark_any (r : Int) (w : World) (h0 : -2147483648 ≤ r) (h1 : r ≤ 2147483647) :
    Calls Try.prog 37 #[.int .i32 r] w fun e w' => e = .returned (.bool (decide (0x300 ≤ r ∧ r ≤ 0x36F))) ∧ w = w' := by
  go_enter Try.func37, Try.ntmps37
  go_wp2
  all_goals
    go_ret
    refine ⟨ret_bool ?_, rfl⟩
    (go_light; rw [Bool.eq_iff_iff]; simp only [decide_eq_true_eq, bne_iff_ne, ne_eq, Bool.not_eq_true', decide_eq_false_iff_not, Bool.and_eq_true, Bool.or_eq_true, Bool.or_eq_false_iff, Bool.and_eq_false_iff, bne_eq_false_iff_eq, beq_iff_eq, beq_eq_false_iff_ne, Bool.false_eq_true, false_iff, true_iff, iff_true, iff_false, Bool.not_eq_false', Bool.not_true, Bool.not_false] at *; omega)

end Go.Proofs.Ytlamcpgnmeileaa
namespace Go.Proofs.Ytlamcpgnmeileaa
open Go.RowKit Go.Lib Go.Shelf
set_option linter.unusedVariables false
set_option linter.unusedSimpArgs false

set_option maxHeartbeats 4000000 in
theorem kind_any (r : Int) (w : World) (h0 : -2147483648 ≤ r) (h1 : r ≤ 2147483647) :
    Calls Try.prog 16 #[.int .i32 r] w fun e w' => e = .returned (.int .i64 (kind r)) ∧ w = w' := by
  go_enter Try.func16, Try.ntmps16
  go_wp2_with (first | (go_at_call 36; refine (letter_any _ _ (by omega) (by omega)).mono ?_; rintro e w' ⟨rfl, rfl⟩) | (go_at_call 37; refine (mark_any _ _ (by omega) (by omega)).mono ?_; rintro e w' ⟨rfl, rfl⟩))
  all_goals
    go_ret
    refine ⟨ret_int ?_, rfl⟩
    go_light
    try simp only [decide_eq_true_eq, bne_iff_ne, ne_eq, Bool.not_eq_true', decide_eq_false_iff_not, Bool.and_eq_true, Bool.or_eq_true, Bool.or_eq_false_iff, Bool.and_eq_false_iff, bne_eq_false_iff_eq, beq_iff_eq, beq_eq_false_iff_ne, Bool.false_eq_true, false_iff, true_iff, iff_true, iff_false, Bool.not_eq_false', Bool.not_true, Bool.not_false] at *
    grind [kind, kindP]

/-- A piece's kind. -/
def kindOf (b : Bool) (r : Int) : Int := if b then 11 else kind r

theorem of_any (i wd r : Int) (b : Bool) (w : World) (h0 : -2147483648 ≤ r) (h1 : r ≤ 2147483647) :
    Calls Try.prog 68 #[.agg #[.int .i64 i, .int .i64 wd, .int .i32 r, .bool b]] w fun e w' => e = .returned (.int .i64 (kindOf b r)) ∧ Below w.heap.size w w' := by
  cases b
  · go_enter Try.func68, Try.ntmps68
    go_wp2_with (go_at_call 16; refine (kind_any _ _ (by omega) (by omega)).mono ?_; rintro e w' ⟨rfl, rfl⟩)
    go_ret
    exact ⟨ret_int (by simp [kindOf]), (Below.refl _ _).alloc (Nat.le_refl _) _⟩
  · go_enter Try.func68, Try.ntmps68
    go_wp2_with (go_at_call 16; refine (kind_any _ _ (by omega) (by omega)).mono ?_; rintro e w' ⟨rfl, rfl⟩)
    go_ret
    exact ⟨ret_int (by simp [kindOf]), (Below.refl _ _).alloc (Nat.le_refl _) _⟩


end Go.Proofs.Ytlamcpgnmeileaa
namespace Go.Proofs.Ytlamcpgnmeileaa
open Go.RowKit Go.Lib Go.Shelf
set_option linter.unusedVariables false
set_option linter.unusedSimpArgs false

def vowelRunes : List Int := [0x101, 0x103, 0x105, 0x113, 0x115, 0x117, 0x119, 0x11b, 0x129, 0x12b, 0x12d, 0x12f, 0x131, 0x14d, 0x14f, 0x151, 0x153, 0x169, 0x16b, 0x16d, 0x16f, 0x171, 0x173, 0x177,
  0x390, 0x3ac, 0x3ad, 0x3ae, 0x3af, 0x3b0, 0x3b1, 0x3b5, 0x3b7, 0x3b9, 0x3bf, 0x3c5, 0x3c9, 0x3ca, 0x3cb, 0x3cc, 0x3cd, 0x3ce,
  0x430, 0x435, 0x438, 0x43e, 0x443, 0x44b, 0x44d, 0x44e, 0x44f, 0x450, 0x451, 0x454, 0x456, 0x457, 0x45d]
/-- Of a small letter. -/
def vowelL (r : Int) : Bool :=
  if r < 0x80 then decide (r = 97 ∨ r = 101 ∨ r = 105 ∨ r = 111 ∨ r = 117 ∨ r = 121)
  else if r < 0x100 then small r && decide (r ≠ 0xDF ∧ r ≠ 0xE7 ∧ r ≠ 0xF0 ∧ r ≠ 0xF1 ∧ r ≠ 0xFE)
  else vowelRunes.contains r
def vowel (r : Int) : Bool := vowelL (lower r)

def vowelS : ByteArray := ⟨#[196, 129, 196, 131, 196, 133, 196, 147, 196, 149, 196, 151, 196, 153, 196, 155, 196, 169, 196, 171, 196, 173, 196, 175, 196, 177, 197, 141, 197, 143, 197, 145, 197, 147, 197, 169, 197, 171, 197, 173, 197, 175, 197, 177, 197, 179, 197, 183, 206, 144, 206, 172, 206, 173, 206, 174, 206, 175, 206, 176, 206, 177, 206, 181, 206, 183, 206, 185, 206, 191, 207, 133, 207, 137, 207, 138, 207, 139, 207, 140, 207, 141, 207, 142, 208, 176, 208, 181, 208, 184, 208, 190, 209, 131, 209, 139, 209, 141, 209, 142, 209, 143, 209, 144, 209, 145, 209, 148, 209, 150, 209, 151, 209, 157]⟩
theorem vowelS_runes : (pcs vowelS.data.toList).map (fun p => (p.r : Int)) = vowelRunes := by decide +kernel
theorem vowelS_size : vowelS.size = 114 := by decide

theorem vow_low : ∀ n : Nat, n < 128 → 0 < n → ((0 ≤ indexByte [97, 101, 105, 111, 117, 121] (UInt8.ofNat n)) ↔ (n = 97 ∨ n = 101 ∨ n = 105 ∨ n = 111 ∨ n = 117 ∨ n = 121)) := by decide +kernel

theorem vow_lowA (x : Int) (hl : x < 128) (h : 0 ≤ indexByte [97, 101, 105, 111, 117, 121] (UInt8.ofNat (x % 256).toNat)) : decide (0 < x) = vowelL x := by
  unfold vowelL
  rw [if_pos (by omega)]
  by_cases h0 : 0 < x
  · have := (vow_low x.toNat (by omega) (by omega)).1 (by rw [show x.toNat = (x % 256).toNat from by omega]; exact h)
    rw [decide_eq_true h0, eq_comm, decide_eq_true_eq]; omega
  · rw [decide_eq_false h0, eq_comm, decide_eq_false_iff_not]; omega
theorem vow_lowB (x : Int) (hl : x < 128) (h : indexByte [97, 101, 105, 111, 117, 121] (UInt8.ofNat (x % 256).toNat) < 0) : false = vowelL x := by
  unfold vowelL
  rw [if_pos (by omega), eq_comm, decide_eq_false_iff_not]
  intro hc
  have := (vow_low x.toNat (by omega) (by omega)).2 (by omega)
  rw [show x.toNat = (x % 256).toNat from by omega] at this
  omega

/-- A range over vowelS that looks for a rune: at a round's head. -/
def VowRel (w : World) (x : Int) (wr : World) : Prop :=
  ∃ pre pos, pcs vowelS.data.toList = pre ++ pcsFrom pos (vowelS.data.toList.drop pos) ∧ pos ≤ vowelS.size ∧ (∀ p ∈ pre, (Pc.r p : Int) ≠ x) ∧ Below w.heap.size w wr ∧ wr.heap[w.heap.size]? = some (.stringIter vowelS pos)
theorem VowRel.start (w : World) (x : Int) : VowRel w x (w.iter vowelS 0) :=
  ⟨[], 0, rfl, Nat.zero_le _, by simp, (Below.refl _ _).alloc (Nat.le_refl _) _, World.iter_heap w vowelS 0⟩
theorem VowRel.round {P : Program} {w wr : World} {x : Int} (h : VowRel w x wr) :
    (∃ (pos r : Nat) (W1 : World), (∀ ty, (Instr.next (.pointer (some ⟨w.heap.size, 0, none⟩)) true ty).run P wr = .ok (.tuple #[.bool true, .int .i64 pos, .int .i32 r]) W1) ∧ Below w.heap.size w W1 ∧
      (((r : Int) = x ∧ vowelRunes.contains x = true) ∨ ((r : Int) ≠ x ∧ VowRel w x W1 ∧ vowelS.size - W1.iterPos w.heap.size < vowelS.size - wr.iterPos w.heap.size))) ∨
    ((∀ ty, (Instr.next (.pointer (some ⟨w.heap.size, 0, none⟩)) true ty).run P wr = .ok (.tuple #[.bool false]) wr) ∧ Below w.heap.size w wr ∧ vowelRunes.contains x = false) := by
  obtain ⟨pre, pos, hx, hpos, hpre, hb, hit⟩ := h
  by_cases hlt : pos < vowelS.size
  · obtain ⟨r, wd, W1, hn, hf, hit1, hsz, hok, hp, hle, h1⟩ := next_some P wr w.heap.size vowelS pos hit hlt
    have hb1 : Below w.heap.size w W1 := hb.trans (hf.toBelow hb.size (by intro k hk; omega))
    refine .inl ⟨pos, r, W1, hn, hb1, ?_⟩
    rw [hp] at hx
    by_cases he : (r : Int) = x
    · refine .inl ⟨he, ?_⟩
      rw [← vowelS_runes, hx, List.contains_iff_mem, List.mem_map]
      exact ⟨⟨pos, wd, r⟩, by simp, he⟩
    · refine .inr ⟨he, ⟨pre ++ [⟨pos, wd, r⟩], pos + wd, by rw [hx]; simp, hle, ?_, hb1, hit1⟩, ?_⟩
      · intro p hp
        rcases List.mem_append.1 hp with h | h
        · exact hpre p h
        · simp at h; subst h; exact he
      · rw [iterPos_at hit, iterPos_at hit1]; omega
  · obtain ⟨hn, hp⟩ := next_none P wr w.heap.size vowelS pos hit hlt
    refine .inr ⟨hn, hb, ?_⟩
    rw [hp, List.append_nil] at hx
    rw [← vowelS_runes, hx, ← Bool.not_eq_true, List.contains_iff_mem, List.mem_map]
    rintro ⟨p, hm, he⟩
    exact hpre p hm he

end Go.Proofs.Ytlamcpgnmeileaa
namespace Go.Proofs.Ytlamcpgnmeileaa
open Go.RowKit Go.Lib Go.Shelf
set_option linter.unusedVariables false
set_option linter.unusedSimpArgs false

def inB (r a b : Int) : Bool := decide (a ≤ r ∧ r ≤ b)
theorem rin_any (r a b : Int) (w : World) :
    Calls Try.prog 92 #[.int .i32 r, .int .i32 a, .int .i32 b] w fun e w' => e = .returned (.bool (inB r a b)) ∧ w = w' := by
  go_enter Try.func92, Try.ntmps92
  go_wp2
  all_goals
    go_ret
    refine ⟨ret_bool ?_, rfl⟩
    (go_light; rw [Bool.eq_iff_iff]; simp only [inB, decide_eq_true_eq, bne_iff_ne, ne_eq, Bool.not_eq_true', decide_eq_false_iff_not, Bool.and_eq_true, Bool.or_eq_true, Bool.or_eq_false_iff, Bool.and_eq_false_iff, bne_eq_false_iff_eq, beq_iff_eq, beq_eq_false_iff_ne, Bool.false_eq_true, false_iff, true_iff, iff_true, iff_false, Bool.not_eq_false', Bool.not_true, Bool.not_false] at *; omega)

theorem mod2 (r : Int) (h : 0 ≤ r) : Int.tmod r 2 = r % 2 := by
  rw [Int.tmod_eq_emod_of_nonneg h]

set_option maxHeartbeats 4000000 in
theorem rgreat_any (r : Int) (w : World) (h0 : -2147483648 ≤ r) (h1 : r ≤ 2147483647) :
    Calls Try.prog 79 #[.int .i32 r] w fun e w' => e = .returned (.bool (great r)) ∧ w = w' := by
  by_cases hn : 0 ≤ r
  · go_enter Try.func79, Try.ntmps79
    go_wp2_with (first | (go_at_call 92; refine (rin_any _ _ _ _).mono ?_; rintro e w' ⟨rfl, rfl⟩))
    all_goals
      go_ret
      refine ⟨ret_bool ?_, rfl⟩
      (go_light; rw [Bool.eq_iff_iff, great_iff]; simp only [inB, greatP, decide_eq_true_eq, bne_iff_ne, ne_eq, Bool.not_eq_true', decide_eq_false_iff_not, Bool.and_eq_true, Bool.or_eq_true, Bool.or_eq_false_iff, Bool.and_eq_false_iff, bne_eq_false_iff_eq, beq_iff_eq, beq_eq_false_iff_ne, Bool.false_eq_true, false_iff, true_iff, iff_true, iff_false, Bool.not_eq_false', Bool.not_true, Bool.not_false] at *; omega)
  · have i1 : ∀ a b : Int, 0 ≤ a → inB r a b = false := by intro a b ha; simp [inB]; omega
    have hm : great r = false := by rw [Bool.eq_false_iff]; intro h; rw [great_iff] at h; unfold greatP at h; omega
    go_enter Try.func79, Try.ntmps79
    go_wp2_with (first | (go_at_call 92; refine (rin_any _ _ _ _).mono ?_; rintro e w' ⟨rfl, rfl⟩))
    all_goals
      go_ret
      refine ⟨ret_bool ?_, rfl⟩
      (go_light; rw [Bool.eq_iff_iff, great_iff]; simp only [inB, greatP, decide_eq_true_eq, bne_iff_ne, ne_eq, Bool.not_eq_true', decide_eq_false_iff_not, Bool.and_eq_true, Bool.or_eq_true, Bool.or_eq_false_iff, Bool.and_eq_false_iff, bne_eq_false_iff_eq, beq_iff_eq, beq_eq_false_iff_ne, Bool.false_eq_true, false_iff, true_iff, iff_true, iff_false, Bool.not_eq_false', Bool.not_true, Bool.not_false] at *; omega)


set_option maxHeartbeats 4000000 in
theorem rsmall_any (r : Int) (w : World) (h0 : -2147483648 ≤ r) (h1 : r ≤ 2147483647) :
    Calls Try.prog 80 #[.int .i32 r] w fun e w' => e = .returned (.bool (small r)) ∧ w = w' := by
  by_cases hn : 0 ≤ r
  · go_enter Try.func80, Try.ntmps80
    go_wp2_with (first | (go_at_call 92; refine (rin_any _ _ _ _).mono ?_; rintro e w' ⟨rfl, rfl⟩))
    all_goals
      go_ret
      refine ⟨ret_bool ?_, rfl⟩
      (go_light; rw [Bool.eq_iff_iff, small_iff]; simp only [inB, smallP, decide_eq_true_eq, bne_iff_ne, ne_eq, Bool.not_eq_true', decide_eq_false_iff_not, Bool.and_eq_true, Bool.or_eq_true, Bool.or_eq_false_iff, Bool.and_eq_false_iff, bne_eq_false_iff_eq, beq_iff_eq, beq_eq_false_iff_ne, Bool.false_eq_true, false_iff, true_iff, iff_true, iff_false, Bool.not_eq_false', Bool.not_true, Bool.not_false] at *; omega)
  · have i1 : ∀ a b : Int, 0 ≤ a → inB r a b = false := by intro a b ha; simp [inB]; omega
    have hm : small r = false := by rw [Bool.eq_false_iff]; intro h; rw [small_iff] at h; unfold smallP at h; omega
    go_enter Try.func80, Try.ntmps80
    go_wp2_with (first | (go_at_call 92; refine (rin_any _ _ _ _).mono ?_; rintro e w' ⟨rfl, rfl⟩))
    all_goals
      go_ret
      refine ⟨ret_bool ?_, rfl⟩
      (go_light; rw [Bool.eq_iff_iff, small_iff]; simp only [inB, smallP, decide_eq_true_eq, bne_iff_ne, ne_eq, Bool.not_eq_true', decide_eq_false_iff_not, Bool.and_eq_true, Bool.or_eq_true, Bool.or_eq_false_iff, Bool.and_eq_false_iff, bne_eq_false_iff_eq, beq_iff_eq, beq_eq_false_iff_ne, Bool.false_eq_true, false_iff, true_iff, iff_true, iff_false, Bool.not_eq_false', Bool.not_true, Bool.not_false] at *; omega)

set_option maxHeartbeats 1000000 in
theorem rlower_any (r : Int) (w : World) (h0 : -2147483648 ≤ r) (h1 : r ≤ 2147483647) :
    Calls Try.prog 77 #[.int .i32 r] w fun e w' => e = .returned (.int .i32 (lower r)) ∧ w = w' := by
  by_cases hg : great r = true
  · have hp := (great_iff r).1 hg
    have hb : r ≤ 2000 ∧ 0 ≤ r := by unfold greatP at hp; omega
    have hb1 := hb.1; have hb2 := hb.2; clear hb
    have Hp := Lib.hid hp; clear hp
    go_enter Try.func77, Try.ntmps77
    go_wp2_with (first | (go_at_call 79; refine (rgreat_any _ _ (by omega) (by omega)).mono ?_; rintro e w' ⟨rfl, rfl⟩) | (go_at_call 92; refine (rin_any _ _ _ _).mono ?_; rintro e w' ⟨rfl, rfl⟩))
    all_goals
      go_ret
      refine ⟨ret_int ?_, rfl⟩
      have hp := Hp.out
      clear Hp
      go_light
      unfold greatP at hp
      grind [lower, inB]
  · go_enter Try.func77, Try.ntmps77
    go_wp2_with (first | (go_at_call 79; refine (rgreat_any _ _ (by omega) (by omega)).mono ?_; rintro e w' ⟨rfl, rfl⟩))
    all_goals
      go_ret
      refine ⟨ret_int ?_, rfl⟩
      go_light
      simp_all [lower]

end Go.Proofs.Ytlamcpgnmeileaa
namespace Go.Proofs.Ytlamcpgnmeileaa
open Go.RowKit Go.Lib Go.Shelf
set_option linter.unusedVariables false
set_option linter.unusedSimpArgs false

theorem vow_true (x : Int) (h : x = 97 ∨ x = 101 ∨ x = 105 ∨ x = 111 ∨ x = 117 ∨ x = 121 ∨ (224 ≤ x ∧ x ≤ 230) ∨ (232 ≤ x ∧ x ≤ 239) ∨ (242 ≤ x ∧ x ≤ 246) ∨ (248 ≤ x ∧ x ≤ 253) ∨ x = 255) : true = vowelL x := by
  unfold vowelL
  by_cases h1 : x < 128
  · rw [if_pos h1, eq_comm, decide_eq_true_eq]; omega
  · rw [if_neg h1, if_pos (by omega), eq_comm, Bool.and_eq_true, decide_eq_true_eq, small_iff]
    unfold smallP; omega
theorem vow_rest (x : Int) (h : ¬ (x = 97 ∨ x = 101 ∨ x = 105 ∨ x = 111 ∨ x = 117 ∨ x = 121 ∨ (224 ≤ x ∧ x ≤ 230) ∨ (232 ≤ x ∧ x ≤ 239) ∨ (242 ≤ x ∧ x ≤ 246) ∨ (248 ≤ x ∧ x ≤ 253) ∨ x = 255)) : vowelL x = vowelRunes.contains x := by
  unfold vowelL
  have hc : x < 256 → vowelRunes.contains x = false := by
    intro hx
    rw [← Bool.not_eq_true, List.contains_iff_mem]
    intro hm
    simp [vowelRunes] at hm
    omega
  by_cases h1 : x < 128
  · rw [if_pos h1, hc (by omega), decide_eq_false_iff_not]; omega
  · rw [if_neg h1]
    by_cases h2 : x < 256
    · rw [if_pos h2, hc h2, Bool.and_eq_false_iff, decide_eq_false_iff_not, ← Bool.not_eq_true, small_iff]
      unfold smallP; omega
    · rw [if_neg h2]

end Go.Proofs.Ytlamcpgnmeileaa
