/-
  Texts laid together: LqH, PqF, PqG, PqH, LqY, LqI, PqI, PqJ, PqK, PqL. Nothing is assumed.
-/
import Derived.Test.YtgfkogafkhbgnaaDoorPoemCut4
namespace Go.Proofs.YtgfkogafkhbgnaaDoor
open Go.RowKit Go.Lib
set_option linter.unusedVariables false
set_option linter.unusedSimpArgs false
def poem_printed_s2 (j3 : ByteArray → Option ByteArray) (x5 : List ByteArray) (ag2 : ByteArray → Int → Option ByteArray) (b12 : ByteArray) (x8 : Int) : Option ByteArray := bcond (decide ((x8 : Int) < (x5.length : Int))) ( andThen (getO x5 x8) fun (q2 : ByteArray) => grd (q2.size + (⟨#[10]⟩ : ByteArray).size ≤ 9223372036854775807) <| grd (b12.size + (q2 ++ (⟨#[10]⟩ : ByteArray)).size ≤ 140737488355328) <| grd (I64 (x8 + 1)) <| ag2 (b12 ++ (q2 ++ (⟨#[10]⟩ : ByteArray))) (x8 + 1)
) ( j3 b12
)
def poem_printed_s1 (stanzas1 : List (List ByteArray)) (j2 : ByteArray → Option ByteArray) (ag1 : ByteArray → Int → Option ByteArray) (b7 : ByteArray) (x4 : Int) : Option ByteArray := bcond (decide ((x4 : Int) < (stanzas1.length : Int))) ( joinK (fun (j3 : ByteArray → Option ByteArray) => andThen (getO stanzas1 x4) fun (x5 : List ByteArray) => joinK (fun (j4 : ByteArray → Option ByteArray) => bcond (decide ((0 : Int) < (b7.size : Int))) ( grd (b7.size + (⟨#[10]⟩ : ByteArray).size ≤ 140737488355328) <| j4 (b7 ++ (⟨#[10]⟩ : ByteArray))
) ( j4 b7
)
) (fun (b9 : ByteArray) => loopG (fun _ _ => none) (poem_printed_s2 j3 x5) fuel b9 0
)
) (fun (b8 : ByteArray) => grd (I64 (x4 + 1)) <| ag1 b8 (x4 + 1)
)
) ( j2 b7
)
def poem_printed_v (title1 : ByteArray) (stanzas1 : List (List ByteArray)) : Option ByteArray := joinK (fun (j1 : ByteArray → Option ByteArray) => bcond (!decide (title1 = (⟨#[]⟩ : ByteArray))) ( grd ((⟨#[35, 32]⟩ : ByteArray).size + title1.size ≤ 9223372036854775807) <| grd (((⟨#[35, 32]⟩ : ByteArray) ++ title1).size + (⟨#[10]⟩ : ByteArray).size ≤ 9223372036854775807) <| grd ((⟨#[]⟩ : ByteArray).size + (((⟨#[35, 32]⟩ : ByteArray) ++ title1) ++ (⟨#[10]⟩ : ByteArray)).size ≤ 140737488355328) <| j1 ((⟨#[]⟩ : ByteArray) ++ (((⟨#[35, 32]⟩ : ByteArray) ++ title1) ++ (⟨#[10]⟩ : ByteArray)))
) ( bcond (decide ((0 : Int) < (stanzas1.length : Int))) ( andThen (getO stanzas1 0) fun (x1 : List ByteArray) => andThen (getO x1 0) fun (q1 : ByteArray) => andThen (poem_titled_v q1) fun (r1 : Bool) => bcond (r1) ( grd ((⟨#[35, 32]⟩ : ByteArray).size + title1.size ≤ 9223372036854775807) <| grd (((⟨#[35, 32]⟩ : ByteArray) ++ title1).size + (⟨#[10]⟩ : ByteArray).size ≤ 9223372036854775807) <| grd ((⟨#[]⟩ : ByteArray).size + (((⟨#[35, 32]⟩ : ByteArray) ++ title1) ++ (⟨#[10]⟩ : ByteArray)).size ≤ 140737488355328) <| j1 ((⟨#[]⟩ : ByteArray) ++ (((⟨#[35, 32]⟩ : ByteArray) ++ title1) ++ (⟨#[10]⟩ : ByteArray)))
) ( j1 (⟨#[]⟩ : ByteArray)
)
) ( j1 (⟨#[]⟩ : ByteArray)
)
)
) (fun (b2 : ByteArray) => joinK (fun (j2 : ByteArray → Option ByteArray) => loopG (fun _ _ => none) (poem_printed_s1 stanzas1 j2) fuel b2 0
) (fun (b4 : ByteArray) => some b4
)
)
set_option maxRecDepth 100000 in
set_option maxHeartbeats 4000000 in
theorem poem_printed_fn {title1 : ByteArray} {vvstanzas1 : Value} {vstanzas1 : Hd} {Zstanzas1 : List ((List ByteArray) × Hd)} {kstanzas1 : Nat} {zstanzas1 : List ((List ByteArray) × Hd)} {stanzas1 : List (List ByteArray)} (hwstanzas1 : Vw vvstanzas1 Zstanzas1 1 kstanzas1 vstanzas1.v zstanzas1) (hzstanzas1 : zstanzas1.map Prod.fst = stanzas1) {r : ByteArray} (h : poem_printed_v title1 stanzas1 = some r) : FnR Tryd.prog 60 [.string title1, vstanzas1.v] [roRow encN_T_string 1 vvstanzas1 kstanzas1 Zstanzas1, rdOwn nestR_T_string Zstanzas1] [] (fun _ : Unit => (.string r)) (fun _ => []) := by
 unfold poem_printed_v at h
 refine FnR.intro Tryd.func60 rfl Tryd.ntmps60 (by simp) ?_
 intro w0 K hrd
 obtain ⟨j1, hj1, h⟩ := joinE h
 refine TC.cutN (β := ByteArray × Nat) 2 rfl (fun b => j1 b.1 = some r) (fun b => []) (fun b => [(1, vstanzas1.v), (5, .pointer (some ⟨b.2, 0, none⟩))]) (fun b => [bldA b.2 b.1]) (fun cut => ?_) ?_
 ·
  refine TC.seq (TC.region (TO.assign rfl dc rfl (TO.nil (TX.next (TC.seq (TC.region ?_))))))
  refine TO.alloc zr_106 rfl dc (fun b3 => ?_)
  show TO _ _ _ _ _ _ _ _ _ _ [cells b3 [.pointer none, .slice none 0 0] 106]
  refine TO.ent (k := 0) rfl Ent.bldNew ?_
  show TO _ _ _ _ _ _ _ _ _ _ [bldA b3 (⟨#[]⟩ : ByteArray)]
  refine TO.nil (TX.next (cut (TC.seq (TC.region (TO.move rfl dc rfl (TO.bin rfl dc rfl rfl bin_sneq (TO.move rfl dc rfl ?_)))))))
  refine TO.split (s := 12) rfl (fun hb1 => ?_) (fun hb1 => ?_)
  ·
   have h := condT hb1 h
   refine TO.skip rfl dc (TO.skip rfl dc (TO.skip rfl dc (TO.skip rfl dc (TO.skip rfl dc (TO.skip rfl dc (TO.skip rfl dc (TO.skip rfl dc (TO.skip rfl dc (TO.skip rfl dc (TO.skip rfl dc (TO.pick (b := true) rfl dc rfl rfl (TO.nil (TX.next ?_)))))))))))))
   refine TC.condT rfl (TC.region (TO.move rfl dc rfl ?_))
   obtain ⟨hg1, h⟩ := grdE h
   refine TO.bin rfl dc rfl rfl (bin_sadd hg1) ?_
   obtain ⟨hg2, h⟩ := grdE h
   refine TO.bin rfl dc rfl rfl (bin_sadd hg2) ?_
   obtain ⟨hg3, h⟩ := grdE h
   refine TO.call (vs := [.pointer (some ⟨b3, 0, none⟩), .string (((⟨#[35, 32]⟩ : ByteArray) ++ title1) ++ (⟨#[10]⟩ : ByteArray))]) rfl dc rfl rfl rfl en_55 (wstr_fn b3 (⟨#[]⟩ : ByteArray) (((⟨#[35, 32]⟩ : ByteArray) ++ title1) ++ (⟨#[10]⟩ : ByteArray)) hg3) (Splits.of [0] kr rfl) ?_
   rintro u1
   show TO _ _ _ _ _ _ _ _ _ _ [emp, bldA b3 ((⟨#[]⟩ : ByteArray) ++ (((⟨#[35, 32]⟩ : ByteArray) ++ title1) ++ (⟨#[10]⟩ : ByteArray)))]
   refine TO.nil ?_
   exact TX.meetD ((⟨#[]⟩ : ByteArray) ++ (((⟨#[35, 32]⟩ : ByteArray) ++ title1) ++ (⟨#[10]⟩ : ByteArray)), b3) h rfl (Sbs.cons rfl (Sbs.cons rfl (Sbs.nil))) (Splits.of [1] kr rfl)
  ·
   have h := condF hb1 h
   refine TO.move rfl dc rfl (TO.lenVwZ hzstanzas1 hwstanzas1 rfl dc rfl Tryd.underlying54 (TO.bin rfl dc rfl rfl bin_gtr (TO.move rfl dc rfl ?_)))
   refine TO.split (s := 16) rfl (fun hb2 => ?_) (fun hb2 => ?_)
   ·
    have h := condT hb2 h
    refine TO.move rfl dc rfl ?_
    obtain ⟨x1, hq1, h⟩ := andE h
    obtain ⟨eh1, eq1⟩ := getO_z hzstanzas1 hq1
    have hrd : Rd _ _ [roRow encN_T_string 1 vvstanzas1 kstanzas1 Zstanzas1, rdOwn nestR_T_string Zstanzas1, rdSl encS 1 eh1 x1] := hrd.openEl (i := 1) (z := (x1, eh1)) rfl (Vw.get hwstanzas1 eq1)
    obtain ⟨vv1, k1, L1, hV1, hrd⟩ := hrd.openSl (i := 2) rfl
    replace hrd : Rd _ _ [roRow encN_T_string 1 vvstanzas1 kstanzas1 Zstanzas1, rdOwn nestR_T_string Zstanzas1, rdSl encS 1 eh1 x1, roRow encS 1 vv1 k1 L1] := hrd
    refine TO.indexVw hwstanzas1 eq1 Tryd.underlying54 sz_48 rfl dc rfl rfl rfl (TO.loadRowRd (n := kstanzas1 + (0 : Int).toNat) (j := 0) (i := 0) (q := (x1, eh1)) hrd rfl (by omega) sc_48 rfl dc rfl (Vw.get hwstanzas1 eq1) rfl rfl ?_)
    obtain ⟨q1, hq2, h⟩ := andE h
    refine TO.indexVw hV1 hq2 Tryd.underlying48 sz_9 rfl dc rfl rfl rfl (TO.loadRowRd (n := k1 + (0 : Int).toNat) (j := 0) (i := 3) (q := q1) hrd rfl (by omega) sc_9 rfl dc rfl (Vw.get hV1 hq2) rfl rfl ?_)
    obtain ⟨r1, hq3, h⟩ := andE h
    refine TO.callP (v := .bool r1) (vs := [.string q1]) rfl dc rfl rfl rfl en_49 (poem_titled_fn hq3) (TO.pick (b := true) rfl dc rfl rfl (TO.pick (b := false) rfl dc rfl rfl (TO.nil (TX.next ?_))))
    refine TC.condB rfl (fun hb3 => ?_) (fun hb3 => ?_)
    ·
     have h := condT hb3 h
     refine TC.region (TO.move rfl dc rfl ?_)
     obtain ⟨hg4, h⟩ := grdE h
     refine TO.bin rfl dc rfl rfl (bin_sadd hg4) ?_
     obtain ⟨hg5, h⟩ := grdE h
     refine TO.bin rfl dc rfl rfl (bin_sadd hg5) ?_
     obtain ⟨hg6, h⟩ := grdE h
     refine TO.call (vs := [.pointer (some ⟨b3, 0, none⟩), .string (((⟨#[35, 32]⟩ : ByteArray) ++ title1) ++ (⟨#[10]⟩ : ByteArray))]) rfl dc rfl rfl rfl en_55 (wstr_fn b3 (⟨#[]⟩ : ByteArray) (((⟨#[35, 32]⟩ : ByteArray) ++ title1) ++ (⟨#[10]⟩ : ByteArray)) hg6) (Splits.of [0] kr rfl) ?_
     rintro u2
     show TO _ _ _ _ _ _ _ _ _ _ [emp, bldA b3 ((⟨#[]⟩ : ByteArray) ++ (((⟨#[35, 32]⟩ : ByteArray) ++ title1) ++ (⟨#[10]⟩ : ByteArray)))]
     refine TO.nil ?_
     exact TX.meetD ((⟨#[]⟩ : ByteArray) ++ (((⟨#[35, 32]⟩ : ByteArray) ++ title1) ++ (⟨#[10]⟩ : ByteArray)), b3) h rfl (Sbs.cons rfl (Sbs.cons rfl (Sbs.nil))) (Splits.of [1] kr rfl)
    ·
     have h := condF hb3 h
     refine TC.skip ?_
     exact TX.meetD ((⟨#[]⟩ : ByteArray), b3) h rfl (Sbs.cons rfl (Sbs.cons rfl (Sbs.nil))) (Splits.of [0] kr rfl)
   ·
    have h := condF hb2 h
    refine TO.skip rfl dc (TO.skip rfl dc (TO.skip rfl dc (TO.skip rfl dc (TO.skip rfl dc (TO.skip rfl dc (TO.pick (b := false) rfl dc rfl rfl (TO.pick (b := false) rfl dc rfl rfl (TO.nil (TX.next (TC.condF rfl (TC.skip ?_)))))))))))
    exact TX.meetD ((⟨#[]⟩ : ByteArray), b3) h rfl (Sbs.cons rfl (Sbs.cons rfl (Sbs.nil))) (Splits.of [0] kr rfl)
 ·
  rintro ⟨b2, b1⟩ h
  rw [hj1] at h
  show TC _ _ _ _ _ ([]) _ _ [(1, vstanzas1.v), (5, .pointer (some ⟨b1, 0, none⟩))] [bldA b1 b2]
  obtain ⟨j2, hj2, h⟩ := joinE h
  refine TC.cutN (β := ByteArray) 0 rfl (fun b => j2 b = some r) (fun b => []) (fun b => [(5, .pointer (some ⟨b1, 0, none⟩))]) (fun b => [bldA b1 b]) (fun cut => ?_) ?_
  ·
   refine cut (TC.seq (TC.region (TO.move rfl dc rfl (TO.lenVwZ hzstanzas1 hwstanzas1 rfl dc rfl Tryd.underlying54 (TO.move rfl dc rfl (TO.nil (TX.next (TC.block ?_))))))))
   refine TC.loopD (β := Nat × ByteArray × Int) (fun b => loopG (fun _ _ => none) (poem_printed_s1 stanzas1 j2) b.1 b.2.1 b.2.2 = some r) (fun b => []) (fun b => [(5, .pointer (some ⟨b1, 0, none⟩)), (29, vstanzas1.v), (30, .int .i64 (stanzas1.length : Int)), (31, .int .i64 b.2.2)]) (fun b => [bldA b1 b.2.1]) (fun b => b.1) (fuel, b2, 0) h rfl (Sbs.cons rfl (Sbs.cons rfl (Sbs.cons rfl (Sbs.cons rfl (Sbs.nil))))) (Splits.of [0] kr rfl) ?_
   rintro ⟨n1, b7, x4⟩ h
   cases n1 with
   | zero => exact noneE h
   | succ n1 =>
    obtain ⟨ag1, hag1⟩ : ∃ ag, ag = loopG (fun _ _ => none) (poem_printed_s1 stanzas1 j2) n1 := ⟨_, rfl⟩
    have h : poem_printed_s1 stanzas1 j2 ag1 b7 x4 = some r := by rw [hag1]; exact h
    unfold poem_printed_s1 at h
    show TC _ _ _ _ _ ([]) _ _ [(5, .pointer (some ⟨b1, 0, none⟩)), (29, vstanzas1.v), (30, .int .i64 (stanzas1.length : Int)), (31, .int .i64 x4)] [bldA b1 b7]
    refine TC.seq (TC.region (TO.bin rfl dc rfl rfl bin_lss (TO.nil (TX.next (TC.seq ?_)))))
    refine TC.condB rfl (fun hb4 => ?_) (fun hb4 => ?_)
    ·
     have h := condT hb4 h
     refine TC.skip (TX.next ?_)
     obtain ⟨j3, hj3, h⟩ := joinE h
     refine TC.cutN (β := ByteArray) 0 rfl (fun b => j3 b = some r) (fun b => []) (fun b => [(5, .pointer (some ⟨b1, 0, none⟩)), (29, vstanzas1.v), (30, .int .i64 (stanzas1.length : Int)), (31, .int .i64 x4)]) (fun b => [bldA b1 b]) (fun cut => ?_) ?_
     ·
      refine cut (TC.block (TC.seq (TC.region ?_)))
      obtain ⟨x5, hq4, h⟩ := andE h
      obtain ⟨eh2, eq2⟩ := getO_z hzstanzas1 hq4
      have hrd : Rd _ _ [roRow encN_T_string 1 vvstanzas1 kstanzas1 Zstanzas1, rdOwn nestR_T_string Zstanzas1, rdSl encS 1 eh2 x5] := hrd.openEl (i := 1) (z := (x5, eh2)) rfl (Vw.get hwstanzas1 eq2)
      obtain ⟨vv2, k2, L2, hV2, hrd⟩ := hrd.openSl (i := 2) rfl
      replace hrd : Rd _ _ [roRow encN_T_string 1 vvstanzas1 kstanzas1 Zstanzas1, rdOwn nestR_T_string Zstanzas1, rdSl encS 1 eh2 x5, roRow encS 1 vv2 k2 L2] := hrd
      refine TO.indexVw hwstanzas1 eq2 Tryd.underlying54 sz_48 rfl dc rfl rfl rfl (TO.loadRowRd (n := kstanzas1 + (x4 : Int).toNat) (j := 0) (i := 0) (q := (x5, eh2)) hrd rfl (by omega) sc_48 rfl dc rfl (Vw.get hwstanzas1 eq2) rfl rfl (TO.assign rfl dc rfl (TO.nil (TX.next ?_))))
      obtain ⟨j4, hj4, h⟩ := joinE h
      refine TC.cutN (β := ByteArray) 0 rfl (fun b => j4 b = some r) (fun b => []) (fun b => [(5, .pointer (some ⟨b1, 0, none⟩)), (7, eh2.v), (29, vstanzas1.v), (30, .int .i64 (stanzas1.length : Int)), (31, .int .i64 x4)]) (fun b => [bldA b1 b]) (fun cut => ?_) ?_
      ·
       refine cut (TC.seq (TC.region (TO.callK (v := .int .i64 (b7.size : Int)) (vs := [.pointer (some ⟨b1, 0, none⟩)]) rfl dc rfl rfl rfl en_56 (blen_fn b1 b7) [0] kr rfl (TO.bin rfl dc rfl rfl bin_gtr (TO.nil (TX.next ?_))))))
       refine TC.condB rfl (fun hb5 => ?_) (fun hb5 => ?_)
       ·
        have h := condT hb5 h
        refine TC.region ?_
        obtain ⟨hg7, h⟩ := grdE h
        refine TO.call (vs := [.pointer (some ⟨b1, 0, none⟩), .string (⟨#[10]⟩ : ByteArray)]) rfl dc rfl rfl rfl en_55 (wstr_fn b1 b7 (⟨#[10]⟩ : ByteArray) hg7) (Splits.of [0] kr rfl) ?_
        rintro u3
        show TO _ _ _ _ _ _ _ _ _ _ [emp, bldA b1 (b7 ++ (⟨#[10]⟩ : ByteArray))]
        refine TO.nil ?_
        exact TX.meetD (b7 ++ (⟨#[10]⟩ : ByteArray)) h rfl (Sbs.cons rfl (Sbs.cons rfl (Sbs.cons rfl (Sbs.cons rfl (Sbs.cons rfl (Sbs.nil)))))) (Splits.of [1] kr rfl)
       ·
        have h := condF hb5 h
        refine TC.skip ?_
        exact TX.meetD b7 h rfl (Sbs.cons rfl (Sbs.cons rfl (Sbs.cons rfl (Sbs.cons rfl (Sbs.cons rfl (Sbs.nil)))))) (Splits.of [0] kr rfl)
      ·
       rintro b9 h
       rw [hj4] at h
       show TC _ _ _ _ _ ([]) _ _ [(5, .pointer (some ⟨b1, 0, none⟩)), (7, eh2.v), (29, vstanzas1.v), (30, .int .i64 (stanzas1.length : Int)), (31, .int .i64 x4)] [bldA b1 b9]
       refine TC.seq (TC.region (TO.move rfl dc rfl (TO.lenVw hV2 rfl dc rfl Tryd.underlying48 (TO.move rfl dc rfl (TO.nil (TX.next (TC.block ?_)))))))
       refine TC.loopD (β := Nat × ByteArray × Int) (fun b => loopG (fun _ _ => none) (poem_printed_s2 j3 x5) b.1 b.2.1 b.2.2 = some r) (fun b => []) (fun b => [(5, .pointer (some ⟨b1, 0, none⟩)), (29, vstanzas1.v), (30, .int .i64 (stanzas1.length : Int)), (31, .int .i64 x4), (38, eh2.v), (39, .int .i64 (x5.length : Int)), (40, .int .i64 b.2.2)]) (fun b => [bldA b1 b.2.1]) (fun b => b.1) (fuel, b9, 0) h rfl (Sbs.cons rfl (Sbs.cons rfl (Sbs.cons rfl (Sbs.cons rfl (Sbs.cons rfl (Sbs.cons rfl (Sbs.cons rfl (Sbs.nil)))))))) (Splits.of [0] kr rfl) ?_
       rintro ⟨n2, b12, x8⟩ h
       cases n2 with
       | zero => exact noneE h
       | succ n2 =>
        obtain ⟨ag2, hag2⟩ : ∃ ag, ag = loopG (fun _ _ => none) (poem_printed_s2 j3 x5) n2 := ⟨_, rfl⟩
        have h : poem_printed_s2 j3 x5 ag2 b12 x8 = some r := by rw [hag2]; exact h
        unfold poem_printed_s2 at h
        show TC _ _ _ _ _ ([]) _ _ [(5, .pointer (some ⟨b1, 0, none⟩)), (29, vstanzas1.v), (30, .int .i64 (stanzas1.length : Int)), (31, .int .i64 x4), (38, eh2.v), (39, .int .i64 (x5.length : Int)), (40, .int .i64 x8)] [bldA b1 b12]
        refine TC.seq (TC.region (TO.bin rfl dc rfl rfl bin_lss (TO.nil (TX.next (TC.seq ?_)))))
        refine TC.condB rfl (fun hb6 => ?_) (fun hb6 => ?_)
        ·
         have h := condT hb6 h
         refine TC.skip (TX.next (TC.seq (TC.block (TC.seq (TC.region ?_)))))
         obtain ⟨q2, hq5, h⟩ := andE h
         refine TO.indexVw hV2 hq5 Tryd.underlying48 sz_9 rfl dc rfl rfl rfl (TO.loadRowRd (n := k2 + (x8 : Int).toNat) (j := 0) (i := 3) (q := q2) hrd rfl (by omega) sc_9 rfl dc rfl (Vw.get hV2 hq5) rfl rfl (TO.assign rfl dc rfl (TO.nil (TX.next (TC.region (TO.move rfl dc rfl ?_))))))
         obtain ⟨hg8, h⟩ := grdE h
         refine TO.bin rfl dc rfl rfl (bin_sadd hg8) ?_
         obtain ⟨hg9, h⟩ := grdE h
         refine TO.call (vs := [.pointer (some ⟨b1, 0, none⟩), .string (q2 ++ (⟨#[10]⟩ : ByteArray))]) rfl dc rfl rfl rfl en_55 (wstr_fn b1 b12 (q2 ++ (⟨#[10]⟩ : ByteArray)) hg9) (Splits.of [0] kr rfl) ?_
         rintro u4
         show TO _ _ _ _ _ _ _ _ _ _ [emp, bldA b1 (b12 ++ (q2 ++ (⟨#[10]⟩ : ByteArray)))]
         refine TO.nil (TX.blockNormal (TX.next (TC.region ?_)))
         obtain ⟨hg10, h⟩ := grdE h
         refine TO.bin rfl dc rfl rfl (bin_add (r := x8 + 1) (IntWalk.i64_in _ hg10)) (TO.move rfl dc rfl (TO.nil ?_))
         subst hag2
         exact TX.againD (n2, b12 ++ (q2 ++ (⟨#[10]⟩ : ByteArray)), x8 + 1) h (Nat.lt_succ_self _) rfl (Sbs.cons rfl (Sbs.cons rfl (Sbs.cons rfl (Sbs.cons rfl (Sbs.cons rfl (Sbs.cons rfl (Sbs.cons rfl (Sbs.nil)))))))) (Splits.of [1] kr rfl)
        ·
         have h := condF hb6 h
         refine TC.exit (TX.thenExit (TX.thenExit (TX.blockHere (TX.blockNormal ?_))))
         exact TX.meetD b12 h rfl (Sbs.cons rfl (Sbs.cons rfl (Sbs.cons rfl (Sbs.cons rfl (Sbs.nil))))) (Splits.of [0] kr rfl)
     ·
      rintro b8 h
      rw [hj3] at h
      show TC _ _ _ _ _ ([]) _ _ [(5, .pointer (some ⟨b1, 0, none⟩)), (29, vstanzas1.v), (30, .int .i64 (stanzas1.length : Int)), (31, .int .i64 x4)] [bldA b1 b8]
      refine TC.region ?_
      obtain ⟨hg11, h⟩ := grdE h
      refine TO.bin rfl dc rfl rfl (bin_add (r := x4 + 1) (IntWalk.i64_in _ hg11)) (TO.move rfl dc rfl (TO.nil ?_))
      subst hag1
      exact TX.againD (n1, b8, x4 + 1) h (Nat.lt_succ_self _) rfl (Sbs.cons rfl (Sbs.cons rfl (Sbs.cons rfl (Sbs.cons rfl (Sbs.nil))))) (Splits.of [0] kr rfl)
    ·
     have h := condF hb4 h
     refine TC.exit (TX.thenExit (TX.thenExit (TX.blockHere ?_)))
     exact TX.meetD b7 h rfl (Sbs.cons rfl (Sbs.nil)) (Splits.of [0] kr rfl)
  ·
   rintro b4 h
   rw [hj2] at h
   show TC _ _ _ _ _ ([]) _ _ [(5, .pointer (some ⟨b1, 0, none⟩))] [bldA b1 b4]
   refine TC.seq (TC.region (TO.call (vs := [.pointer (some ⟨b1, 0, none⟩)]) rfl dc rfl rfl rfl en_57 (bstr_fn b1 b4) (Splits.of [0] kr rfl) ?_))
   rintro _
   show TO _ _ _ _ _ _ _ _ _ _ [emp]
   refine TO.assign rfl dc rfl (TO.nil (TX.next (TC.ret ?_)))
   cases h
   exact TX.fin (rs := [.tmp 4]) () (.inl rfl) Tryd.results60 (.cons (.tmp rfl) .nil) rfl Splits.nil
def poem_Poem_rows_s1 (from1 : Int) (to1 : Int) (x1 : Int × Gapi_Verse) (ag1 : (List (List ByteArray)) → Int → Option (List (List ByteArray))) (out4 : List (List ByteArray)) (stanza3 : Int) : Option (List (List ByteArray)) := bcond (decide ((x1.1 : Int) < from1)) ( ag1 out4 stanza3
) ( bcond (decide ((to1 : Int) ≤ x1.1)) ( ag1 out4 stanza3
) ( joinK (fun (j2 : (List (List ByteArray)) → Int → Option (List (List ByteArray))) => bcond ((x1.2.Stanza : Int) != stanza3) ( grd (out4.length + 1 ≤ 2147483648) <| j2 (out4 ++ [([] : List ByteArray)]) x1.2.Stanza
) ( j2 out4 stanza3
)
) (fun (out5 : List (List ByteArray)) (stanza4 : Int) => grd (I64 ((out5.length : Int) - 1)) <| andThen (getO out5 ((out5.length : Int) - 1)) fun (x2 : List ByteArray) => grd (0 ≤ x1.2.Indent ∧ x1.2.Indent ≤ 140737488355328) <| grd ((spacesB x1.2.Indent).size + x1.2.Text.size ≤ 9223372036854775807) <| grd (x2.length + 1 ≤ 2147483648) <| ag1 (out5.set ((out5.length : Int) - 1 : Int).toNat (x2 ++ [(spacesB x1.2.Indent) ++ x1.2.Text])) stanza4
)
)
)
def poem_Poem_rows_v (p1 : Gpoem_Poem) (from1 : Int) (to1 : Int) : Option (List (List ByteArray)) := joinK (fun (j1 : (List (List ByteArray)) → Option (List (List ByteArray))) => andThen (poem_Poem_Each_v p1) fun (r1 : Unit) => andThen (poem_Poem_Each_1_v p1) fun (its1 : (List (Int × Gapi_Verse))) => joinK (fun (d1 : (List (List ByteArray)) → Int → Option (List (List ByteArray))) => rangeG d1 (poem_Poem_rows_s1 from1 to1) its1 ([] : List (List ByteArray)) (-1)
) (fun (out4 : List (List ByteArray)) (stanza3 : Int) => j1 out4
)
) (fun (out1 : List (List ByteArray)) => some out1
)
set_option maxRecDepth 100000 in
set_option maxHeartbeats 4000000 in
theorem poem_Poem_rows_fn {bp1 : Nat} {p1 : Gpoem_Poem} {p1_h0 p1_h1 : Hd} {from1 : Int} {to1 : Int} {r : (List (List ByteArray))} (h : poem_Poem_rows_v p1 from1 to1 = some r) : FnR Tryd.prog 61 [.pointer (some ⟨bp1, 0, none⟩), .int .i64 from1, .int .i64 to1] [cells bp1 [.string p1.told_title, p1_h0.v, p1_h1.v, .string p1.source] 93, vec enc_Gapi_Verse 36 6 p1_h0.v p1.told_lines, vec enc_Gapi_Span 34 2 p1_h1.v p1.told_stanzas] [] (fun v0 : Value => v0) (fun v0 => [vecN encN_T_string nest_T_string 48 1 v0 r]) := by
 unfold poem_Poem_rows_v at h
 refine FnR.intro Tryd.func61 rfl Tryd.ntmps61 (by simp) ?_
 intro w0 K hrd
 refine TC.star0 ?_
 show TC _ _ _ _ _ _ _ _ _ [star ((([] : List Nat) : List Nat).map mark)]
 obtain ⟨j1, hj1, h⟩ := joinE h
 refine TC.cutN (β := (List (List ByteArray)) × Nat × Hd × (List Nat)) 3 rfl (fun b => j1 b.1 = some r) (fun b => marksOf b.2.2.2) (fun b => [(7, .pointer (some ⟨b.2.1, 0, none⟩))]) (fun b => [cells b.2.1 [b.2.2.1.v] 54, vecN encN_T_string nest_T_string 48 1 b.2.2.1.v b.1, star ((b.2.2.2 : List Nat).map mark)]) (fun cut => ?_) ?_
 ·
  refine TC.seq (TC.region ?_)
  refine TO.box rfl dc rfl (fun b2 => ?_)
  refine TO.box rfl dc rfl (fun b3 => ?_)
  show TO _ _ _ _ _ _ _ _ _ _ [star ((([] : List Nat) : List Nat).map mark), cells b2 [.int .i64 from1] 3, cells b3 [.int .i64 to1] 3]
  refine TO.assign rfl dc rfl (TO.nil (TX.next (TC.seq (TC.region ?_))))
  refine TO.alloc zr_54 rfl dc (fun b4 => ?_)
  refine TO.nil (TX.next (TC.seq (TC.region ?_)))
  refine TO.alloc zr_3 rfl dc (fun b5 => ?_)
  show TO _ _ _ _ _ _ _ _ _ _ [star ((([] : List Nat) : List Nat).map mark), cells b2 [.int .i64 from1] 3, cells b3 [.int .i64 to1] 3, cells b4 [.slice none 0 0] 54, cells b5 [.int .i64 0] 3]
  refine TO.store (k := 4) (l' := [.int .i64 (-1)]) sz_3 rfl rfl rfl rfl rfl (fun _ _ => rfl) rfl ?_
  refine TO.nil (TX.next (cut (TC.seq (TC.region (TO.move rfl dc rfl ?_)))))
  obtain ⟨r1, hq1, h⟩ := andE h
  refine TO.callR (vs := [.pointer (some ⟨bp1, 0, none⟩)]) hrd rfl dc rfl rfl rfl en_14 (poem_Poem_Each_fn (bp1 := bp1) (p1 := p1) (p1_h0 := p1_h0) (p1_h1 := p1_h1) hq1) Splits.nil (.ro 0 rfl (.ro 1 rfl (.ro 2 rfl .nil))) ?_
  rintro b6
  show TO _ _ _ _ _ _ _ _ _ _ [star ((([] : List Nat) : List Nat).map mark), cells b2 [.int .i64 from1] 3, cells b3 [.int .i64 to1] 3, cells b4 [.slice none 0 0] 54, cells b5 [.int .i64 (-1)] 3, cells b6 [.pointer (some ⟨bp1, 0, none⟩)] 23]
  refine TO.weakenL (L' := [star ((([] : List Nat) : List Nat).map mark), cells b2 [.int .i64 from1] 3, cells b3 [.int .i64 to1] 3, cells b4 [.slice none 0 0] 54, cells b5 [.int .i64 (-1)] 3, cells b6 [.pointer (some ⟨bp1, 0, none⟩)] 23]) (Splits.of [0, 1, 2, 3, 4, 5] kr rfl) (TO.nil (TX.next (TC.block ?_)))
  obtain ⟨its1, hq2, h⟩ := andE h
  refine TC.newN (enc := encN_T_string) (nest := nest_T_string) (e := 48) (size := 1) ?_
  show TC _ _ _ _ _ _ _ _ _ [star ((([] : List Nat) : List Nat).map mark), cells b2 [.int .i64 from1] 3, cells b3 [.int .i64 to1] 3, cells b4 [.slice none 0 0] 54, cells b5 [.int .i64 (-1)] 3, cells b6 [.pointer (some ⟨bp1, 0, none⟩)] 23, vecN encN_T_string nest_T_string 48 1 (.slice none 0 0) ([] : List (List ByteArray))]
  obtain ⟨d1, hd1, h⟩ := joinE h
  refine TC.rangeR (α := Int × Gapi_Verse) (β := (List (List ByteArray)) × Int × Hd) (γ := Unit) (δ := Nat) (ps := [14, 15]) hrd Ro.nil rfl en_52 (poem_Poem_Each_1_itr hq2) (fun pre b => ∀ post, its1 = pre ++ post → rangeG d1 (poem_Poem_rows_s1 from1 to1) post b.1 b.2.1 = some r) (fun pre b => [cells b2 [.int .i64 from1] 3, cells b3 [.int .i64 to1] 3, cells b4 [b.2.2.v] 54, vecN encN_T_string nest_T_string 48 1 b.2.2.v b.1, cells b5 [.int .i64 b.2.1] 3]) (fun c pre g => False) (fun c pre g => []) (fun pre x b j => [(4, .pointer (some ⟨b2, 0, none⟩)), (5, .pointer (some ⟨b3, 0, none⟩)), (6, .slice none 0 0), (7, .pointer (some ⟨b4, 0, none⟩)), (8, .pointer (some ⟨b5, 0, none⟩)), (13, .func (.func 52) #[] #[.pointer (some ⟨b6, 0, none⟩)]), (9, .int .i64 x.1), (10, .pointer (some ⟨j, 0, none⟩))]) (fun pre x b j => [cells b2 [.int .i64 from1] 3, cells b3 [.int .i64 to1] 3, cells b4 [b.2.2.v] 54, vecN encN_T_string nest_T_string 48 1 b.2.2.v b.1, cells b5 [.int .i64 b.2.1] 3, cells j [.string x.2.Text, .int .i64 x.2.Indent, .int .i64 x.2.Stanza, .int .i64 x.2.In, .int .i64 x.2.Span_From, .int .i64 x.2.Span_To] 36]) (([] : List (List ByteArray)), (-1), Hd.nil) (fun post e => by rw [List.nil_append] at e; subst e; exact h) (Splits.of [1, 2, 3, 6, 4] kr rfl) (.own (Splits.of [5] (by kernel_rfl) rfl) (fun _ _ h => sepL.one1.1 h) (.ro 0 rfl (.ro 1 rfl (.ro 2 rfl .nil)))) (fun _ => rfl) dc ?_ ?_ ?_ ?_
  ·
   rintro lp rc pre x1 post ⟨out4, stanza3, hd4⟩ w1 K1 hxs1 hext hro hinv
   have hrd := hrd.ext hext
   refine TC.seq (TC.region (TO.assign rfl dc rfl (TO.nil (TX.next (TC.region ?_)))))
   refine TO.alloc zr_36 rfl dc (fun b7 => ?_)
   refine TO.stores (k := 5) (vs := [.string x1.2.Text, .int .i64 x1.2.Indent, .int .i64 x1.2.Stanza, .int .i64 x1.2.In, .int .i64 x1.2.Span_From, .int .i64 x1.2.Span_To]) (l' := [.string x1.2.Text, .int .i64 x1.2.Indent, .int .i64 x1.2.Stanza, .int .i64 x1.2.In, .int .i64 x1.2.Span_From, .int .i64 x1.2.Span_To]) sz_36 rfl rfl rfl rfl rfl (show _ ≤ _ by simp) rfl rfl ?_
   show TO _ _ _ _ _ _ _ _ _ _ [cells b2 [.int .i64 from1] 3, cells b3 [.int .i64 to1] 3, cells b4 [hd4.v] 54, vecN encN_T_string nest_T_string 48 1 hd4.v out4, cells b5 [.int .i64 stanza3] 3, cells b7 [.string x1.2.Text, .int .i64 x1.2.Indent, .int .i64 x1.2.Stanza, .int .i64 x1.2.In, .int .i64 x1.2.Span_From, .int .i64 x1.2.Span_To] 36]
   refine TO.nil ?_
   exact fun a w ha hw => ⟨b7, (Sbs.cons rfl (Sbs.cons rfl (Sbs.cons rfl (Sbs.cons rfl (Sbs.cons rfl (Sbs.cons rfl (Sbs.cons rfl (Sbs.cons rfl (Sbs.nil))))))))) _ _ _ ha, hw.weaken (Splits.of [0, 1, 2, 3, 4, 5] kr rfl)⟩
  ·
   rintro lp rc pre x1 post1 ⟨out4, stanza3, hd4⟩ jb1 w1 K1 hxs1 hext hro hinv
   have hrd := hrd.ext hext
   have h := hinv (x1 :: post1) hxs1
   obtain ⟨ag1, hag1⟩ : ∃ ag, ag = rangeG d1 (poem_Poem_rows_s1 from1 to1) post1 := ⟨_, rfl⟩
   have h : poem_Poem_rows_s1 from1 to1 x1 ag1 out4 stanza3 = some r := by rw [hag1]; exact h
   unfold poem_Poem_rows_s1 at h
   show TC _ _ _ _ _ _ _ _ [(4, .pointer (some ⟨b2, 0, none⟩)), (5, .pointer (some ⟨b3, 0, none⟩)), (6, .slice none 0 0), (7, .pointer (some ⟨b4, 0, none⟩)), (8, .pointer (some ⟨b5, 0, none⟩)), (13, .func (.func 52) #[] #[.pointer (some ⟨b6, 0, none⟩)]), (9, .int .i64 x1.1), (10, .pointer (some ⟨jb1, 0, none⟩))] [cells b2 [.int .i64 from1] 3, cells b3 [.int .i64 to1] 3, cells b4 [hd4.v] 54, vecN encN_T_string nest_T_string 48 1 hd4.v out4, cells b5 [.int .i64 stanza3] 3, cells jb1 [.string x1.2.Text, .int .i64 x1.2.Indent, .int .i64 x1.2.Stanza, .int .i64 x1.2.In, .int .i64 x1.2.Span_From, .int .i64 x1.2.Span_To] 36]
   refine TC.block (TC.seq (TC.seq (TC.region (TO.move rfl dc rfl (TO.load (k := 0) sc_3 rfl dc rfl rfl rfl (TO.bin rfl dc rfl rfl bin_lss (TO.move rfl dc rfl ?_)))))))
   refine TO.split (s := 19) rfl (fun hb1 => ?_) (fun hb1 => ?_)
   ·
    have h := condT hb1 h
    refine TO.skip rfl dc (TO.skip rfl dc (TO.skip rfl dc (TO.pick (b := true) rfl dc rfl rfl (TO.nil (TX.next (TC.condT rfl (TC.exit (TX.thenExit (TX.blockHere ?_)))))))))
    exact TX.round (out4, stanza3, hd4) (fun post2 e2 => by have e9 := snoc_post hxs1 e2; subst e9; subst hag1; exact h) (Splits.of [0, 1, 2, 3, 4] kr rfl)
   ·
    have h := condF hb1 h
    refine TO.move rfl dc rfl (TO.load (k := 1) sc_3 rfl dc rfl rfl rfl (TO.bin rfl dc rfl rfl bin_geq (TO.pick (b := false) rfl dc rfl rfl (TO.nil (TX.next ?_)))))
    refine TC.condB rfl (fun hb2 => ?_) (fun hb2 => ?_)
    ·
     have h := condT hb2 h
     refine TC.exit (TX.thenExit (TX.blockHere ?_))
     exact TX.round (out4, stanza3, hd4) (fun post2 e2 => by have e9 := snoc_post hxs1 e2; subst e9; subst hag1; exact h) (Splits.of [0, 1, 2, 3, 4] kr rfl)
    ·
     have h := condF hb2 h
     refine TC.skip (TX.next ?_)
     obtain ⟨j2, hj2, h⟩ := joinE h
     refine TC.cutN (β := (List (List ByteArray)) × Int × Hd) 0 rfl (fun b => j2 b.1 b.2.1 = some r) (fun b => []) (fun b => [(4, .pointer (some ⟨b2, 0, none⟩)), (5, .pointer (some ⟨b3, 0, none⟩)), (6, .slice none 0 0), (7, .pointer (some ⟨b4, 0, none⟩)), (8, .pointer (some ⟨b5, 0, none⟩)), (10, .pointer (some ⟨jb1, 0, none⟩)), (13, .func (.func 52) #[] #[.pointer (some ⟨b6, 0, none⟩)])]) (fun b => [cells b2 [.int .i64 from1] 3, cells b3 [.int .i64 to1] 3, cells b4 [b.2.2.v] 54, vecN encN_T_string nest_T_string 48 1 b.2.2.v b.1, cells b5 [.int .i64 b.2.1] 3, cells jb1 [.string x1.2.Text, .int .i64 x1.2.Indent, .int .i64 x1.2.Stanza, .int .i64 x1.2.In, .int .i64 x1.2.Span_From, .int .i64 x1.2.Span_To] 36]) (fun cut => ?_) ?_
     ·
      refine cut (TC.seq (TC.region (TO.fieldAddr fl_36_2 rfl dc rfl (show _ = 2 from rfl) (TO.load (k := 5) sc_3 rfl dc rfl rfl rfl (TO.load (k := 4) sc_3 rfl dc rfl rfl rfl (TO.bin rfl dc rfl rfl bin_neq (TO.nil (TX.next ?_))))))))
      refine TC.condB rfl (fun hb3 => ?_) (fun hb3 => ?_)
      ·
       have h := condT hb3 h
       refine TC.seq (TC.region (TO.load (k := 2) sc_54 rfl dc rfl rfl rfl ?_))
       refine TO.buildSlice (cs := [.slice none 0 0]) (te := 48) (ps := [(0, .const (.slice none 0 0))]) rfl dc rfl (fun _ => by kernel_rfl) (fun b8 => ?_)
       refine TO.newVec (enc := encS) (e := 9) (size := 1) ?_
       show TO _ _ _ _ _ _ _ _ _ _ [cells b2 [.int .i64 from1] 3, cells b3 [.int .i64 to1] 3, cells b4 [hd4.v] 54, vecN encN_T_string nest_T_string 48 1 hd4.v out4, cells b5 [.int .i64 stanza3] 3, cells jb1 [.string x1.2.Text, .int .i64 x1.2.Indent, .int .i64 x1.2.Stanza, .int .i64 x1.2.In, .int .i64 x1.2.Span_From, .int .i64 x1.2.Span_To] 36, cells b8 [.slice none 0 0] 48, vec encS 9 1 (.slice none 0 0) ([] : List ByteArray)]
       refine TO.unfold1 (k := 3) rfl openE (fun zs1 hz1 => ?_)
       show TO _ _ _ _ _ _ _ _ _ _ [cells b2 [.int .i64 from1] 3, cells b3 [.int .i64 to1] 3, cells b4 [hd4.v] 54, vec encN_T_string 48 1 hd4.v zs1, cells b5 [.int .i64 stanza3] 3, cells jb1 [.string x1.2.Text, .int .i64 x1.2.Indent, .int .i64 x1.2.Stanza, .int .i64 x1.2.In, .int .i64 x1.2.Span_From, .int .i64 x1.2.Span_To] 36, cells b8 [.slice none 0 0] 48, vec encS 9 1 (.slice none 0 0) ([] : List ByteArray), own nest_T_string zs1]
       obtain ⟨hg1, h⟩ := grdE h
       refine TO.appendVec (k := 3) (k2 := 6) (ys := [(([] : List ByteArray), Hd.nil)]) Tryd.underlying54 el_48 encN_T_string_len encN_T_string_one rfl dc rfl rfl rfl rfl rfl rfl (by rw [zlen hz1]; exact hg1) (fun v1 => ?_)
       show TO _ _ _ _ _ _ _ _ _ _ [cells b2 [.int .i64 from1] 3, cells b3 [.int .i64 to1] 3, cells b4 [hd4.v] 54, vec encN_T_string 48 1 v1 (zs1 ++ [(([] : List ByteArray), Hd.nil)]), cells b5 [.int .i64 stanza3] 3, cells jb1 [.string x1.2.Text, .int .i64 x1.2.Indent, .int .i64 x1.2.Stanza, .int .i64 x1.2.In, .int .i64 x1.2.Span_From, .int .i64 x1.2.Span_To] 36, cells b8 [.slice none 0 0] 48, vec encS 9 1 (.slice none 0 0) ([] : List ByteArray), own nest_T_string zs1]
       refine TO.nameHd (k := 3) rfl (fun hd6 he1 => ?_)
       subst he1
       refine TO.fold1 (k := 8) rfl (Splits.of [7] kr rfl) rfl (ownApp (nest := nest_T_string) (zs := zs1) (z := (([] : List ByteArray), Hd.nil))) ?_
       show TO _ _ _ _ _ _ _ _ _ _ [cells b2 [.int .i64 from1] 3, cells b3 [.int .i64 to1] 3, cells b4 [hd4.v] 54, vec encN_T_string 48 1 hd6.v (zs1 ++ [(([] : List ByteArray), Hd.nil)]), cells b5 [.int .i64 stanza3] 3, cells jb1 [.string x1.2.Text, .int .i64 x1.2.Indent, .int .i64 x1.2.Stanza, .int .i64 x1.2.In, .int .i64 x1.2.Span_From, .int .i64 x1.2.Span_To] 36, cells b8 [.slice none 0 0] 48, emp, own nest_T_string (zs1 ++ [(([] : List ByteArray), Hd.nil)])]
       refine TO.fold1 (k := 3) rfl (Splits.of [8] kr rfl) rfl (closeE (enc := encN_T_string) (nest := nest_T_string) (zapp hz1)) ?_
       show TO _ _ _ _ _ _ _ _ _ _ [cells b2 [.int .i64 from1] 3, cells b3 [.int .i64 to1] 3, cells b4 [hd4.v] 54, vecN encN_T_string nest_T_string 48 1 hd6.v (out4 ++ [([] : List ByteArray)]), cells b5 [.int .i64 stanza3] 3, cells jb1 [.string x1.2.Text, .int .i64 x1.2.Indent, .int .i64 x1.2.Stanza, .int .i64 x1.2.In, .int .i64 x1.2.Span_From, .int .i64 x1.2.Span_To] 36, cells b8 [.slice none 0 0] 48, emp, emp]
       refine TO.weakenL (L' := [cells b2 [.int .i64 from1] 3, cells b3 [.int .i64 to1] 3, cells b4 [hd4.v] 54, vecN encN_T_string nest_T_string 48 1 hd6.v (out4 ++ [([] : List ByteArray)]), cells b5 [.int .i64 stanza3] 3, cells jb1 [.string x1.2.Text, .int .i64 x1.2.Indent, .int .i64 x1.2.Stanza, .int .i64 x1.2.In, .int .i64 x1.2.Span_From, .int .i64 x1.2.Span_To] 36, cells b8 [.slice none 0 0] 48]) (Splits.of [0, 1, 2, 3, 4, 5, 6] kr rfl) ?_
       refine TO.store (k := 2) (l' := [hd6.v]) sz_54 rfl rfl rfl rfl rfl (fun _ _ => rfl) rfl ?_
       show TO _ _ _ _ _ _ _ _ _ _ [cells b2 [.int .i64 from1] 3, cells b3 [.int .i64 to1] 3, cells b4 [hd6.v] 54, vecN encN_T_string nest_T_string 48 1 hd6.v (out4 ++ [([] : List ByteArray)]), cells b5 [.int .i64 stanza3] 3, cells jb1 [.string x1.2.Text, .int .i64 x1.2.Indent, .int .i64 x1.2.Stanza, .int .i64 x1.2.In, .int .i64 x1.2.Span_From, .int .i64 x1.2.Span_To] 36, cells b8 [.slice none 0 0] 48]
       refine TO.nil (TX.next (TC.region (TO.fieldAddr fl_36_2 rfl dc rfl (show _ = 2 from rfl) (TO.load (k := 5) sc_3 rfl dc rfl rfl rfl ?_))))
       refine TO.store (k := 4) (l' := [.int .i64 x1.2.Stanza]) sz_3 rfl rfl rfl rfl rfl (fun _ _ => rfl) rfl ?_
       refine TO.nil ?_
       exact TX.meetD (out4 ++ [([] : List ByteArray)], x1.2.Stanza, hd6) h rfl (Sbs.cons rfl (Sbs.cons rfl (Sbs.cons rfl (Sbs.cons rfl (Sbs.cons rfl (Sbs.cons rfl (Sbs.cons rfl (Sbs.nil)))))))) (Splits.of [0, 1, 2, 3, 4, 5] kr rfl)
      ·
       have h := condF hb3 h
       refine TC.skip ?_
       exact TX.meetD (out4, stanza3, hd4) h rfl (Sbs.cons rfl (Sbs.cons rfl (Sbs.cons rfl (Sbs.cons rfl (Sbs.cons rfl (Sbs.cons rfl (Sbs.cons rfl (Sbs.nil)))))))) (Splits.of [0, 1, 2, 3, 4, 5] kr rfl)
     ·
      rintro ⟨out5, stanza4, hd5⟩ h
      rw [hj2] at h
      show TC _ _ _ _ _ ([]) _ _ [(4, .pointer (some ⟨b2, 0, none⟩)), (5, .pointer (some ⟨b3, 0, none⟩)), (6, .slice none 0 0), (7, .pointer (some ⟨b4, 0, none⟩)), (8, .pointer (some ⟨b5, 0, none⟩)), (10, .pointer (some ⟨jb1, 0, none⟩)), (13, .func (.func 52) #[] #[.pointer (some ⟨b6, 0, none⟩)])] [cells b2 [.int .i64 from1] 3, cells b3 [.int .i64 to1] 3, cells b4 [hd5.v] 54, vecN encN_T_string nest_T_string 48 1 hd5.v out5, cells b5 [.int .i64 stanza4] 3, cells jb1 [.string x1.2.Text, .int .i64 x1.2.Indent, .int .i64 x1.2.Stanza, .int .i64 x1.2.In, .int .i64 x1.2.Span_From, .int .i64 x1.2.Span_To] 36]
      refine TC.seq (TC.region (TO.load (k := 2) sc_54 rfl dc rfl rfl rfl (TO.lenVecN (k := 3) rfl dc rfl rfl Tryd.underlying54 ?_)))
      obtain ⟨hg2, h⟩ := grdE h
      refine TO.bin rfl dc rfl rfl (bin_sub (r := (out5.length : Int) - 1) (IntWalk.i64_in _ hg2)) (TO.assign rfl dc rfl (TO.nil (TX.next ?_)))
      refine TC.unfold1 (k := 3) rfl openE (fun zs2 hz2 => ?_)
      show TC _ _ _ _ _ _ _ _ _ [cells b2 [.int .i64 from1] 3, cells b3 [.int .i64 to1] 3, cells b4 [hd5.v] 54, vec encN_T_string 48 1 hd5.v zs2, cells b5 [.int .i64 stanza4] 3, cells jb1 [.string x1.2.Text, .int .i64 x1.2.Indent, .int .i64 x1.2.Stanza, .int .i64 x1.2.In, .int .i64 x1.2.Span_From, .int .i64 x1.2.Span_To] 36, own nest_T_string zs2]
      obtain ⟨x2, hq3, h⟩ := andE h
      obtain ⟨eh1, eq1⟩ := getO_z hz2 hq3
      obtain ⟨hg3, h⟩ := grdE h
      obtain ⟨hg4, h⟩ := grdE h
      obtain ⟨hg5, h⟩ := grdE h
      refine TC.unfold1 (k := 6) rfl (pullE (getO_get eq1)) (fun _ _ => ?_)
      show TC _ _ _ _ _ _ _ _ _ [cells b2 [.int .i64 from1] 3, cells b3 [.int .i64 to1] 3, cells b4 [hd5.v] 54, vec encN_T_string 48 1 hd5.v zs2, cells b5 [.int .i64 stanza4] 3, cells jb1 [.string x1.2.Text, .int .i64 x1.2.Indent, .int .i64 x1.2.Stanza, .int .i64 x1.2.In, .int .i64 x1.2.Span_From, .int .i64 x1.2.Span_To] 36, own nest_T_string (zs2.eraseIdx (((out5.length : Int) - 1 : Int).toNat)), vec encS 9 1 eh1.v x2]
      refine TC.pad 1 ?_
      show TC _ _ _ _ _ _ _ _ _ [cells b2 [.int .i64 from1] 3, cells b3 [.int .i64 to1] 3, cells b4 [hd5.v] 54, vec encN_T_string 48 1 hd5.v zs2, cells b5 [.int .i64 stanza4] 3, cells jb1 [.string x1.2.Text, .int .i64 x1.2.Indent, .int .i64 x1.2.Stanza, .int .i64 x1.2.In, .int .i64 x1.2.Span_From, .int .i64 x1.2.Span_To] 36, own nest_T_string (zs2.eraseIdx (((out5.length : Int) - 1 : Int).toNat)), vec encS 9 1 eh1.v x2, emp]
      refine let vals1 : (Nat × Hd) → List (Nat × Nat × Value) := fun b => [(0, 36, hd5.v), (1, 37, .int .i64 ((out5.length : Int) - 1)), (2, 38, hd5.v), (3, 39, .int .i64 ((out5.length : Int) - 1)), (4, 40, .pointer (some ⟨vblk hd5.v, ((out5.length : Int) - 1 : Int).toNat * 1, none⟩)), (5, 41, eh1.v), (6, 42, .pointer (some ⟨jb1, 1, none⟩)), (7, 43, .int .i64 x1.2.Indent), (8, 44, .string (spacesB x1.2.Indent)), (9, 45, .pointer (some ⟨jb1, 0, none⟩)), (10, 46, .string x1.2.Text), (11, 47, .string ((spacesB x1.2.Indent) ++ x1.2.Text)), (12, 48, .slice (some ⟨b.1, 0, none⟩) 1 1), (13, 49, b.2.v)]; let LL1 : (Nat → Prop) → (Nat × Hd) → List Asn := fun D b => [cells b2 [.int .i64 from1] 3, cells b3 [.int .i64 to1] 3, cells b4 [hd5.v] 54, vec encN_T_string 48 1 hd5.v zs2, cells b5 [.int .i64 stanza4] 3, cells jb1 [.string x1.2.Text, .int .i64 x1.2.Indent, .int .i64 x1.2.Stanza, .int .i64 x1.2.In, .int .i64 x1.2.Span_From, .int .i64 x1.2.Span_To] 36, own nest_T_string (zs2.eraseIdx (((out5.length : Int) - 1 : Int).toNat)), eD D (vec encS 9 1 eh1.v x2) [(13, vec encS 9 1 b.2.v (x2 ++ [(spacesB x1.2.Indent) ++ x1.2.Text]))], eD D emp [(12, cells b.1 [.string ((spacesB x1.2.Indent) ++ x1.2.Text)] 9)]]; ?_
      refine TC.drawG (β := Nat × Hd) 14 ((0 : Nat), Hd.nil) vals1 LL1 mixed kr kr dc (fun _ => rfl) (cons_eq rfl (cons_eq rfl (cons_eq rfl (cons_eq rfl (cons_eq rfl (cons_eq rfl (cons_eq rfl (cons_eq eD_none (cons_eq eD_none rfl))))))))) (DrawG.cons ?_ (DrawG.cons ?_ (DrawG.cons ?_ (DrawG.cons ?_ (DrawG.cons ?_ (DrawG.cons ?_ (DrawG.cons ?_ (DrawG.cons ?_ (DrawG.cons ?_ (DrawG.cons ?_ (DrawG.cons ?_ (DrawG.cons ?_ (DrawG.cons ?_ (DrawG.cons ?_ DrawG.nil)))))))))))))) ?_
      ·
       intro D b hn hd hcl
       obtain ⟨b9, hd7⟩ := b
       refine TO.rewL (L' := [cells b2 [.int .i64 from1] 3, cells b3 [.int .i64 to1] 3, cells b4 [hd5.v] 54, vec encN_T_string 48 1 hd5.v zs2, cells b5 [.int .i64 stanza4] 3, cells jb1 [.string x1.2.Text, .int .i64 x1.2.Indent, .int .i64 x1.2.Stanza, .int .i64 x1.2.In, .int .i64 x1.2.Span_From, .int .i64 x1.2.Span_To] 36, own nest_T_string (zs2.eraseIdx (((out5.length : Int) - 1 : Int).toNat)), eD D (vec encS 9 1 eh1.v x2) [(13, vec encS 9 1 hd7.v (x2 ++ [(spacesB x1.2.Indent) ++ x1.2.Text]))], eD D emp [(12, cells b9 [.string ((spacesB x1.2.Indent) ++ x1.2.Text)] 9)]]) (cons_eq rfl (cons_eq rfl (cons_eq rfl (cons_eq rfl (cons_eq rfl (cons_eq rfl (cons_eq rfl (cons_eq rfl (cons_eq rfl rfl))))))))) (TO.load (k := 2) sc_54 rfl dc (dl_old (by rfl) rfl) rfl rfl ?_)
       exact TX.valG (b9, hd7) 0 (by rfl) (by rfl) rfl (dl_cons_eq (fun _ => rfl) (dl_cons_eq (fun _ => rfl) (dl_cons_eq (fun _ => rfl) (dl_cons_eq (fun _ => rfl) (dl_cons_eq (fun _ => rfl) (dl_cons_eq (fun _ => rfl) (dl_cons_eq (fun _ => rfl) (dl_cons_eq (fun _ => rfl) (dl_cons_eq (fun _ => rfl) (dl_cons_eq (fun _ => rfl) (dl_cons_eq (fun _ => rfl) (dl_cons_eq (fun _ => rfl) (dl_cons_eq (fun _ => rfl) (dl_cons_eq (fun _ => rfl) rfl)))))))))))))) (cons_eq rfl (cons_eq rfl (cons_eq rfl (cons_eq rfl (cons_eq rfl (cons_eq rfl (cons_eq rfl (cons_eq ((eD_skip (by rfl)).trans rfl) (cons_eq ((eD_skip (by rfl)).trans rfl) rfl)))))))))
      ·
       intro D b hn hd hcl
       obtain ⟨b9, hd7⟩ := b
       refine TO.rewL (L' := [cells b2 [.int .i64 from1] 3, cells b3 [.int .i64 to1] 3, cells b4 [hd5.v] 54, vec encN_T_string 48 1 hd5.v zs2, cells b5 [.int .i64 stanza4] 3, cells jb1 [.string x1.2.Text, .int .i64 x1.2.Indent, .int .i64 x1.2.Stanza, .int .i64 x1.2.In, .int .i64 x1.2.Span_From, .int .i64 x1.2.Span_To] 36, own nest_T_string (zs2.eraseIdx (((out5.length : Int) - 1 : Int).toNat)), eD D (vec encS 9 1 eh1.v x2) [(13, vec encS 9 1 hd7.v (x2 ++ [(spacesB x1.2.Indent) ++ x1.2.Text]))], eD D emp [(12, cells b9 [.string ((spacesB x1.2.Indent) ++ x1.2.Text)] 9)]]) (cons_eq rfl (cons_eq rfl (cons_eq rfl (cons_eq rfl (cons_eq rfl (cons_eq rfl (cons_eq rfl (cons_eq rfl (cons_eq rfl rfl))))))))) (TO.move rfl dc (dl_old (by rfl) rfl) ?_)
       exact TX.valG (b9, hd7) 1 (by rfl) (by rfl) rfl (dl_cons_eq (fun _ => rfl) (dl_cons_eq (fun _ => rfl) (dl_cons_eq (fun _ => rfl) (dl_cons_eq (fun _ => rfl) (dl_cons_eq (fun _ => rfl) (dl_cons_eq (fun _ => rfl) (dl_cons_eq (fun _ => rfl) (dl_cons_eq (fun _ => rfl) (dl_cons_eq (fun _ => rfl) (dl_cons_eq (fun _ => rfl) (dl_cons_eq (fun _ => rfl) (dl_cons_eq (fun _ => rfl) (dl_cons_eq (fun _ => rfl) (dl_cons_eq (fun _ => rfl) rfl)))))))))))))) (cons_eq rfl (cons_eq rfl (cons_eq rfl (cons_eq rfl (cons_eq rfl (cons_eq rfl (cons_eq rfl (cons_eq ((eD_skip (by rfl)).trans rfl) (cons_eq ((eD_skip (by rfl)).trans rfl) rfl)))))))))
      ·
       intro D b hn hd hcl
       obtain ⟨b9, hd7⟩ := b
       refine TO.rewL (L' := [cells b2 [.int .i64 from1] 3, cells b3 [.int .i64 to1] 3, cells b4 [hd5.v] 54, vec encN_T_string 48 1 hd5.v zs2, cells b5 [.int .i64 stanza4] 3, cells jb1 [.string x1.2.Text, .int .i64 x1.2.Indent, .int .i64 x1.2.Stanza, .int .i64 x1.2.In, .int .i64 x1.2.Span_From, .int .i64 x1.2.Span_To] 36, own nest_T_string (zs2.eraseIdx (((out5.length : Int) - 1 : Int).toNat)), vec encS 9 1 eh1.v x2, eD D emp [(12, cells b9 [.string ((spacesB x1.2.Indent) ++ x1.2.Text)] 9)]]) (cons_eq rfl (cons_eq rfl (cons_eq rfl (cons_eq rfl (cons_eq rfl (cons_eq rfl (cons_eq rfl (cons_eq (eD_miss (fun hD => hn (hcl 4 _ rfl (hcl 5 _ rfl (hcl 13 _ rfl hD 5 dc) 4 dc) 2 dc)) eD_nil) (cons_eq rfl rfl))))))))) ?_
       refine TO.load (k := 2) sc_54 rfl dc (dl_old (by rfl) rfl) rfl rfl ?_
       exact TX.valG (b9, hd7) 2 (by rfl) (by rfl) rfl (dl_cons_eq (fun _ => rfl) (dl_cons_eq (fun _ => rfl) (dl_cons_eq (fun _ => rfl) (dl_cons_eq (fun _ => rfl) (dl_cons_eq (fun _ => rfl) (dl_cons_eq (fun _ => rfl) (dl_cons_eq (fun _ => rfl) (dl_cons_eq (fun _ => rfl) (dl_cons_eq (fun _ => rfl) (dl_cons_eq (fun _ => rfl) (dl_cons_eq (fun _ => rfl) (dl_cons_eq (fun _ => rfl) (dl_cons_eq (fun _ => rfl) (dl_cons_eq (fun _ => rfl) rfl)))))))))))))) (cons_eq rfl (cons_eq rfl (cons_eq rfl (cons_eq rfl (cons_eq rfl (cons_eq rfl (cons_eq rfl (cons_eq ((eD_skip (by rfl)).trans (eD_miss (fun hD => hn (hcl 4 _ rfl (hcl 5 _ rfl (hcl 13 _ rfl hD 5 dc) 4 dc) 2 dc)) eD_nil)) (cons_eq ((eD_skip (by rfl)).trans rfl) rfl)))))))))
      ·
       intro D b hn hd hcl
       obtain ⟨b9, hd7⟩ := b
       refine TO.rewL (L' := [cells b2 [.int .i64 from1] 3, cells b3 [.int .i64 to1] 3, cells b4 [hd5.v] 54, vec encN_T_string 48 1 hd5.v zs2, cells b5 [.int .i64 stanza4] 3, cells jb1 [.string x1.2.Text, .int .i64 x1.2.Indent, .int .i64 x1.2.Stanza, .int .i64 x1.2.In, .int .i64 x1.2.Span_From, .int .i64 x1.2.Span_To] 36, own nest_T_string (zs2.eraseIdx (((out5.length : Int) - 1 : Int).toNat)), vec encS 9 1 eh1.v x2, eD D emp [(12, cells b9 [.string ((spacesB x1.2.Indent) ++ x1.2.Text)] 9)]]) (cons_eq rfl (cons_eq rfl (cons_eq rfl (cons_eq rfl (cons_eq rfl (cons_eq rfl (cons_eq rfl (cons_eq (eD_miss (fun hD => hn (hcl 4 _ rfl (hcl 5 _ rfl (hcl 13 _ rfl hD 5 dc) 4 dc) 3 dc)) eD_nil) (cons_eq rfl rfl))))))))) ?_
       refine TO.move rfl dc (dl_old (by rfl) rfl) ?_
       exact TX.valG (b9, hd7) 3 (by rfl) (by rfl) rfl (dl_cons_eq (fun _ => rfl) (dl_cons_eq (fun _ => rfl) (dl_cons_eq (fun _ => rfl) (dl_cons_eq (fun _ => rfl) (dl_cons_eq (fun _ => rfl) (dl_cons_eq (fun _ => rfl) (dl_cons_eq (fun _ => rfl) (dl_cons_eq (fun _ => rfl) (dl_cons_eq (fun _ => rfl) (dl_cons_eq (fun _ => rfl) (dl_cons_eq (fun _ => rfl) (dl_cons_eq (fun _ => rfl) (dl_cons_eq (fun _ => rfl) (dl_cons_eq (fun _ => rfl) rfl)))))))))))))) (cons_eq rfl (cons_eq rfl (cons_eq rfl (cons_eq rfl (cons_eq rfl (cons_eq rfl (cons_eq rfl (cons_eq ((eD_skip (by rfl)).trans (eD_miss (fun hD => hn (hcl 4 _ rfl (hcl 5 _ rfl (hcl 13 _ rfl hD 5 dc) 4 dc) 3 dc)) eD_nil)) (cons_eq ((eD_skip (by rfl)).trans rfl) rfl)))))))))
      ·
       intro D b hn hd hcl
       obtain ⟨b9, hd7⟩ := b
       refine TO.rewL (L' := [cells b2 [.int .i64 from1] 3, cells b3 [.int .i64 to1] 3, cells b4 [hd5.v] 54, vec encN_T_string 48 1 hd5.v zs2, cells b5 [.int .i64 stanza4] 3, cells jb1 [.string x1.2.Text, .int .i64 x1.2.Indent, .int .i64 x1.2.Stanza, .int .i64 x1.2.In, .int .i64 x1.2.Span_From, .int .i64 x1.2.Span_To] 36, own nest_T_string (zs2.eraseIdx (((out5.length : Int) - 1 : Int).toNat)), vec encS 9 1 eh1.v x2, eD D emp [(12, cells b9 [.string ((spacesB x1.2.Indent) ++ x1.2.Text)] 9)]]) (cons_eq rfl (cons_eq rfl (cons_eq rfl (cons_eq rfl (cons_eq rfl (cons_eq rfl (cons_eq rfl (cons_eq (eD_miss (fun hD => hn (hcl 5 _ rfl (hcl 13 _ rfl hD 5 dc) 4 dc)) eD_nil) (cons_eq rfl rfl))))))))) ?_
       refine TO.indexVecI (k := 3) eq1 Tryd.underlying54 sz_48 rfl dc (dl_lookup (m := 2) rfl rfl (hd 2 dc)) (dl_lookup (m := 3) rfl rfl (hd 3 dc)) rfl rfl ?_
       exact TX.valG (b9, hd7) 4 (by rfl) (by rfl) rfl (dl_cons_eq (fun _ => rfl) (dl_cons_eq (fun _ => rfl) (dl_cons_eq (fun _ => rfl) (dl_cons_eq (fun _ => rfl) (dl_cons_eq (fun _ => rfl) (dl_cons_eq (fun _ => rfl) (dl_cons_eq (fun _ => rfl) (dl_cons_eq (fun _ => rfl) (dl_cons_eq (fun _ => rfl) (dl_cons_eq (fun _ => rfl) (dl_cons_eq (fun _ => rfl) (dl_cons_eq (fun _ => rfl) (dl_cons_eq (fun _ => rfl) (dl_cons_eq (fun _ => rfl) rfl)))))))))))))) (cons_eq rfl (cons_eq rfl (cons_eq rfl (cons_eq rfl (cons_eq rfl (cons_eq rfl (cons_eq rfl (cons_eq ((eD_skip (by rfl)).trans (eD_miss (fun hD => hn (hcl 5 _ rfl (hcl 13 _ rfl hD 5 dc) 4 dc)) eD_nil)) (cons_eq ((eD_skip (by rfl)).trans rfl) rfl)))))))))
      ·
       intro D b hn hd hcl
       obtain ⟨b9, hd7⟩ := b
       refine TO.rewL (L' := [cells b2 [.int .i64 from1] 3, cells b3 [.int .i64 to1] 3, cells b4 [hd5.v] 54, vec encN_T_string 48 1 hd5.v zs2, cells b5 [.int .i64 stanza4] 3, cells jb1 [.string x1.2.Text, .int .i64 x1.2.Indent, .int .i64 x1.2.Stanza, .int .i64 x1.2.In, .int .i64 x1.2.Span_From, .int .i64 x1.2.Span_To] 36, own nest_T_string (zs2.eraseIdx (((out5.length : Int) - 1 : Int).toNat)), vec encS 9 1 eh1.v x2, eD D emp [(12, cells b9 [.string ((spacesB x1.2.Indent) ++ x1.2.Text)] 9)]]) (cons_eq rfl (cons_eq rfl (cons_eq rfl (cons_eq rfl (cons_eq rfl (cons_eq rfl (cons_eq rfl (cons_eq (eD_miss (fun hD => hn (hcl 13 _ rfl hD 5 dc)) eD_nil) (cons_eq rfl rfl))))))))) ?_
       refine TO.loadVec (i := ((out5.length : Int) - 1 : Int).toNat) (j := 0) (k := 3) (q := (x2, eh1)) sc_48 encN_T_string_len rfl dc (dl_lookup (m := 4) rfl rfl (hd 4 dc)) rfl (getO_get eq1) rfl dc rfl ?_
       exact TX.valG (b9, hd7) 5 (by rfl) (by rfl) rfl (dl_cons_eq (fun _ => rfl) (dl_cons_eq (fun _ => rfl) (dl_cons_eq (fun _ => rfl) (dl_cons_eq (fun _ => rfl) (dl_cons_eq (fun _ => rfl) (dl_cons_eq (fun _ => rfl) (dl_cons_eq (fun _ => rfl) (dl_cons_eq (fun _ => rfl) (dl_cons_eq (fun _ => rfl) (dl_cons_eq (fun _ => rfl) (dl_cons_eq (fun _ => rfl) (dl_cons_eq (fun _ => rfl) (dl_cons_eq (fun _ => rfl) (dl_cons_eq (fun _ => rfl) rfl)))))))))))))) (cons_eq rfl (cons_eq rfl (cons_eq rfl (cons_eq rfl (cons_eq rfl (cons_eq rfl (cons_eq rfl (cons_eq ((eD_skip (by rfl)).trans (eD_miss (fun hD => hn (hcl 13 _ rfl hD 5 dc)) eD_nil)) (cons_eq ((eD_skip (by rfl)).trans rfl) rfl)))))))))
      ·
       intro D b hn hd hcl
       obtain ⟨b9, hd7⟩ := b
       refine TO.rewL (L' := [cells b2 [.int .i64 from1] 3, cells b3 [.int .i64 to1] 3, cells b4 [hd5.v] 54, vec encN_T_string 48 1 hd5.v zs2, cells b5 [.int .i64 stanza4] 3, cells jb1 [.string x1.2.Text, .int .i64 x1.2.Indent, .int .i64 x1.2.Stanza, .int .i64 x1.2.In, .int .i64 x1.2.Span_From, .int .i64 x1.2.Span_To] 36, own nest_T_string (zs2.eraseIdx (((out5.length : Int) - 1 : Int).toNat)), vec encS 9 1 eh1.v x2, emp]) (cons_eq rfl (cons_eq rfl (cons_eq rfl (cons_eq rfl (cons_eq rfl (cons_eq rfl (cons_eq rfl (cons_eq (eD_miss (fun hD => hn (hcl 7 _ rfl (hcl 8 _ rfl (hcl 13 _ rfl hD 8 dc) 7 dc) 6 dc)) eD_nil) (cons_eq (eD_miss (fun hD => hn (hcl 7 _ rfl (hcl 8 _ rfl (hcl 11 _ rfl (hcl 12 _ rfl hD 11 dc) 8 dc) 7 dc) 6 dc)) eD_nil) rfl))))))))) ?_
       refine TO.fieldAddr fl_36_1 rfl dc (dl_old (by rfl) rfl) (show _ = 1 from rfl) ?_
       exact TX.valG (b9, hd7) 6 (by rfl) (by rfl) rfl (dl_cons_eq (fun _ => rfl) (dl_cons_eq (fun _ => rfl) (dl_cons_eq (fun _ => rfl) (dl_cons_eq (fun _ => rfl) (dl_cons_eq (fun _ => rfl) (dl_cons_eq (fun _ => rfl) (dl_cons_eq (fun _ => rfl) (dl_cons_eq (fun _ => rfl) (dl_cons_eq (fun _ => rfl) (dl_cons_eq (fun _ => rfl) (dl_cons_eq (fun _ => rfl) (dl_cons_eq (fun _ => rfl) (dl_cons_eq (fun _ => rfl) (dl_cons_eq (fun _ => rfl) rfl)))))))))))))) (cons_eq rfl (cons_eq rfl (cons_eq rfl (cons_eq rfl (cons_eq rfl (cons_eq rfl (cons_eq rfl (cons_eq ((eD_skip (by rfl)).trans (eD_miss (fun hD => hn (hcl 7 _ rfl (hcl 8 _ rfl (hcl 13 _ rfl hD 8 dc) 7 dc) 6 dc)) eD_nil)) (cons_eq ((eD_skip (by rfl)).trans (eD_miss (fun hD => hn (hcl 7 _ rfl (hcl 8 _ rfl (hcl 11 _ rfl (hcl 12 _ rfl hD 11 dc) 8 dc) 7 dc) 6 dc)) eD_nil)) rfl)))))))))
      ·
       intro D b hn hd hcl
       obtain ⟨b9, hd7⟩ := b
       refine TO.rewL (L' := [cells b2 [.int .i64 from1] 3, cells b3 [.int .i64 to1] 3, cells b4 [hd5.v] 54, vec encN_T_string 48 1 hd5.v zs2, cells b5 [.int .i64 stanza4] 3, cells jb1 [.string x1.2.Text, .int .i64 x1.2.Indent, .int .i64 x1.2.Stanza, .int .i64 x1.2.In, .int .i64 x1.2.Span_From, .int .i64 x1.2.Span_To] 36, own nest_T_string (zs2.eraseIdx (((out5.length : Int) - 1 : Int).toNat)), vec encS 9 1 eh1.v x2, emp]) (cons_eq rfl (cons_eq rfl (cons_eq rfl (cons_eq rfl (cons_eq rfl (cons_eq rfl (cons_eq rfl (cons_eq (eD_miss (fun hD => hn (hcl 8 _ rfl (hcl 13 _ rfl hD 8 dc) 7 dc)) eD_nil) (cons_eq (eD_miss (fun hD => hn (hcl 8 _ rfl (hcl 11 _ rfl (hcl 12 _ rfl hD 11 dc) 8 dc) 7 dc)) eD_nil) rfl))))))))) ?_
       refine TO.load (k := 5) sc_3 rfl dc (dl_lookup (m := 6) rfl rfl (hd 6 dc)) rfl rfl ?_
       exact TX.valG (b9, hd7) 7 (by rfl) (by rfl) rfl (dl_cons_eq (fun _ => rfl) (dl_cons_eq (fun _ => rfl) (dl_cons_eq (fun _ => rfl) (dl_cons_eq (fun _ => rfl) (dl_cons_eq (fun _ => rfl) (dl_cons_eq (fun _ => rfl) (dl_cons_eq (fun _ => rfl) (dl_cons_eq (fun _ => rfl) (dl_cons_eq (fun _ => rfl) (dl_cons_eq (fun _ => rfl) (dl_cons_eq (fun _ => rfl) (dl_cons_eq (fun _ => rfl) (dl_cons_eq (fun _ => rfl) (dl_cons_eq (fun _ => rfl) rfl)))))))))))))) (cons_eq rfl (cons_eq rfl (cons_eq rfl (cons_eq rfl (cons_eq rfl (cons_eq rfl (cons_eq rfl (cons_eq ((eD_skip (by rfl)).trans (eD_miss (fun hD => hn (hcl 8 _ rfl (hcl 13 _ rfl hD 8 dc) 7 dc)) eD_nil)) (cons_eq ((eD_skip (by rfl)).trans (eD_miss (fun hD => hn (hcl 8 _ rfl (hcl 11 _ rfl (hcl 12 _ rfl hD 11 dc) 8 dc) 7 dc)) eD_nil)) rfl)))))))))
      ·
       intro D b hn hd hcl
       obtain ⟨b9, hd7⟩ := b
       refine TO.rewL (L' := [cells b2 [.int .i64 from1] 3, cells b3 [.int .i64 to1] 3, cells b4 [hd5.v] 54, vec encN_T_string 48 1 hd5.v zs2, cells b5 [.int .i64 stanza4] 3, cells jb1 [.string x1.2.Text, .int .i64 x1.2.Indent, .int .i64 x1.2.Stanza, .int .i64 x1.2.In, .int .i64 x1.2.Span_From, .int .i64 x1.2.Span_To] 36, own nest_T_string (zs2.eraseIdx (((out5.length : Int) - 1 : Int).toNat)), vec encS 9 1 eh1.v x2, emp]) (cons_eq rfl (cons_eq rfl (cons_eq rfl (cons_eq rfl (cons_eq rfl (cons_eq rfl (cons_eq rfl (cons_eq (eD_miss (fun hD => hn (hcl 13 _ rfl hD 8 dc)) eD_nil) (cons_eq (eD_miss (fun hD => hn (hcl 11 _ rfl (hcl 12 _ rfl hD 11 dc) 8 dc)) eD_nil) rfl))))))))) ?_
       refine TO.callP (v := .string (spacesB x1.2.Indent)) (vs := [.string (⟨#[32]⟩ : ByteArray), .int .i64 x1.2.Indent]) rfl dc rfl (evL.cons rfl (evL.cons (dl_lookup (m := 7) rfl rfl (hd 7 dc)) evL.nil)) rfl en_15 (spaces_p x1.2.Indent hg3) ?_
       exact TX.valG (b9, hd7) 8 (by rfl) (by rfl) rfl (dl_cons_eq (fun _ => rfl) (dl_cons_eq (fun _ => rfl) (dl_cons_eq (fun _ => rfl) (dl_cons_eq (fun _ => rfl) (dl_cons_eq (fun _ => rfl) (dl_cons_eq (fun _ => rfl) (dl_cons_eq (fun _ => rfl) (dl_cons_eq (fun _ => rfl) (dl_cons_eq (fun _ => rfl) (dl_cons_eq (fun _ => rfl) (dl_cons_eq (fun _ => rfl) (dl_cons_eq (fun _ => rfl) (dl_cons_eq (fun _ => rfl) (dl_cons_eq (fun _ => rfl) rfl)))))))))))))) (cons_eq rfl (cons_eq rfl (cons_eq rfl (cons_eq rfl (cons_eq rfl (cons_eq rfl (cons_eq rfl (cons_eq ((eD_skip (by rfl)).trans (eD_miss (fun hD => hn (hcl 13 _ rfl hD 8 dc)) eD_nil)) (cons_eq ((eD_skip (by rfl)).trans (eD_miss (fun hD => hn (hcl 11 _ rfl (hcl 12 _ rfl hD 11 dc) 8 dc)) eD_nil)) rfl)))))))))
      ·
       intro D b hn hd hcl
       obtain ⟨b9, hd7⟩ := b
       refine TO.rewL (L' := [cells b2 [.int .i64 from1] 3, cells b3 [.int .i64 to1] 3, cells b4 [hd5.v] 54, vec encN_T_string 48 1 hd5.v zs2, cells b5 [.int .i64 stanza4] 3, cells jb1 [.string x1.2.Text, .int .i64 x1.2.Indent, .int .i64 x1.2.Stanza, .int .i64 x1.2.In, .int .i64 x1.2.Span_From, .int .i64 x1.2.Span_To] 36, own nest_T_string (zs2.eraseIdx (((out5.length : Int) - 1 : Int).toNat)), vec encS 9 1 eh1.v x2, emp]) (cons_eq rfl (cons_eq rfl (cons_eq rfl (cons_eq rfl (cons_eq rfl (cons_eq rfl (cons_eq rfl (cons_eq (eD_miss (fun hD => hn (hcl 10 _ rfl (hcl 11 _ rfl (hcl 12 _ rfl (hcl 13 _ rfl hD 12 dc) 11 dc) 10 dc) 9 dc)) eD_nil) (cons_eq (eD_miss (fun hD => hn (hcl 10 _ rfl (hcl 11 _ rfl (hcl 12 _ rfl hD 11 dc) 10 dc) 9 dc)) eD_nil) rfl))))))))) ?_
       refine TO.fieldAddr fl_36_0 rfl dc (dl_old (by rfl) rfl) (show _ = 0 from rfl) ?_
       exact TX.valG (b9, hd7) 9 (by rfl) (by rfl) rfl (dl_cons_eq (fun _ => rfl) (dl_cons_eq (fun _ => rfl) (dl_cons_eq (fun _ => rfl) (dl_cons_eq (fun _ => rfl) (dl_cons_eq (fun _ => rfl) (dl_cons_eq (fun _ => rfl) (dl_cons_eq (fun _ => rfl) (dl_cons_eq (fun _ => rfl) (dl_cons_eq (fun _ => rfl) (dl_cons_eq (fun _ => rfl) (dl_cons_eq (fun _ => rfl) (dl_cons_eq (fun _ => rfl) (dl_cons_eq (fun _ => rfl) (dl_cons_eq (fun _ => rfl) rfl)))))))))))))) (cons_eq rfl (cons_eq rfl (cons_eq rfl (cons_eq rfl (cons_eq rfl (cons_eq rfl (cons_eq rfl (cons_eq ((eD_skip (by rfl)).trans (eD_miss (fun hD => hn (hcl 10 _ rfl (hcl 11 _ rfl (hcl 12 _ rfl (hcl 13 _ rfl hD 12 dc) 11 dc) 10 dc) 9 dc)) eD_nil)) (cons_eq ((eD_skip (by rfl)).trans (eD_miss (fun hD => hn (hcl 10 _ rfl (hcl 11 _ rfl (hcl 12 _ rfl hD 11 dc) 10 dc) 9 dc)) eD_nil)) rfl)))))))))
      ·
       intro D b hn hd hcl
       obtain ⟨b9, hd7⟩ := b
       refine TO.rewL (L' := [cells b2 [.int .i64 from1] 3, cells b3 [.int .i64 to1] 3, cells b4 [hd5.v] 54, vec encN_T_string 48 1 hd5.v zs2, cells b5 [.int .i64 stanza4] 3, cells jb1 [.string x1.2.Text, .int .i64 x1.2.Indent, .int .i64 x1.2.Stanza, .int .i64 x1.2.In, .int .i64 x1.2.Span_From, .int .i64 x1.2.Span_To] 36, own nest_T_string (zs2.eraseIdx (((out5.length : Int) - 1 : Int).toNat)), vec encS 9 1 eh1.v x2, emp]) (cons_eq rfl (cons_eq rfl (cons_eq rfl (cons_eq rfl (cons_eq rfl (cons_eq rfl (cons_eq rfl (cons_eq (eD_miss (fun hD => hn (hcl 11 _ rfl (hcl 12 _ rfl (hcl 13 _ rfl hD 12 dc) 11 dc) 10 dc)) eD_nil) (cons_eq (eD_miss (fun hD => hn (hcl 11 _ rfl (hcl 12 _ rfl hD 11 dc) 10 dc)) eD_nil) rfl))))))))) ?_
       refine TO.load (k := 5) sc_9 rfl dc (dl_lookup (m := 9) rfl rfl (hd 9 dc)) rfl rfl ?_
       exact TX.valG (b9, hd7) 10 (by rfl) (by rfl) rfl (dl_cons_eq (fun _ => rfl) (dl_cons_eq (fun _ => rfl) (dl_cons_eq (fun _ => rfl) (dl_cons_eq (fun _ => rfl) (dl_cons_eq (fun _ => rfl) (dl_cons_eq (fun _ => rfl) (dl_cons_eq (fun _ => rfl) (dl_cons_eq (fun _ => rfl) (dl_cons_eq (fun _ => rfl) (dl_cons_eq (fun _ => rfl) (dl_cons_eq (fun _ => rfl) (dl_cons_eq (fun _ => rfl) (dl_cons_eq (fun _ => rfl) (dl_cons_eq (fun _ => rfl) rfl)))))))))))))) (cons_eq rfl (cons_eq rfl (cons_eq rfl (cons_eq rfl (cons_eq rfl (cons_eq rfl (cons_eq rfl (cons_eq ((eD_skip (by rfl)).trans (eD_miss (fun hD => hn (hcl 11 _ rfl (hcl 12 _ rfl (hcl 13 _ rfl hD 12 dc) 11 dc) 10 dc)) eD_nil)) (cons_eq ((eD_skip (by rfl)).trans (eD_miss (fun hD => hn (hcl 11 _ rfl (hcl 12 _ rfl hD 11 dc) 10 dc)) eD_nil)) rfl)))))))))
      ·
       intro D b hn hd hcl
       obtain ⟨b9, hd7⟩ := b
       refine TO.rewL (L' := [cells b2 [.int .i64 from1] 3, cells b3 [.int .i64 to1] 3, cells b4 [hd5.v] 54, vec encN_T_string 48 1 hd5.v zs2, cells b5 [.int .i64 stanza4] 3, cells jb1 [.string x1.2.Text, .int .i64 x1.2.Indent, .int .i64 x1.2.Stanza, .int .i64 x1.2.In, .int .i64 x1.2.Span_From, .int .i64 x1.2.Span_To] 36, own nest_T_string (zs2.eraseIdx (((out5.length : Int) - 1 : Int).toNat)), vec encS 9 1 eh1.v x2, emp]) (cons_eq rfl (cons_eq rfl (cons_eq rfl (cons_eq rfl (cons_eq rfl (cons_eq rfl (cons_eq rfl (cons_eq (eD_miss (fun hD => hn (hcl 12 _ rfl (hcl 13 _ rfl hD 12 dc) 11 dc)) eD_nil) (cons_eq (eD_miss (fun hD => hn (hcl 12 _ rfl hD 11 dc)) eD_nil) rfl))))))))) ?_
       refine TO.bin rfl dc (dl_lookup (m := 8) rfl rfl (hd 8 dc)) (dl_lookup (m := 10) rfl rfl (hd 10 dc)) (bin_sadd hg4) ?_
       exact TX.valG (b9, hd7) 11 (by rfl) (by rfl) rfl (dl_cons_eq (fun _ => rfl) (dl_cons_eq (fun _ => rfl) (dl_cons_eq (fun _ => rfl) (dl_cons_eq (fun _ => rfl) (dl_cons_eq (fun _ => rfl) (dl_cons_eq (fun _ => rfl) (dl_cons_eq (fun _ => rfl) (dl_cons_eq (fun _ => rfl) (dl_cons_eq (fun _ => rfl) (dl_cons_eq (fun _ => rfl) (dl_cons_eq (fun _ => rfl) (dl_cons_eq (fun _ => rfl) (dl_cons_eq (fun _ => rfl) (dl_cons_eq (fun _ => rfl) rfl)))))))))))))) (cons_eq rfl (cons_eq rfl (cons_eq rfl (cons_eq rfl (cons_eq rfl (cons_eq rfl (cons_eq rfl (cons_eq ((eD_skip (by rfl)).trans (eD_miss (fun hD => hn (hcl 12 _ rfl (hcl 13 _ rfl hD 12 dc) 11 dc)) eD_nil)) (cons_eq ((eD_skip (by rfl)).trans (eD_miss (fun hD => hn (hcl 12 _ rfl hD 11 dc)) eD_nil)) rfl)))))))))
      ·
       intro D b hn hd hcl
       obtain ⟨_, hd7⟩ := b
       refine TO.rewL (L' := [cells b2 [.int .i64 from1] 3, cells b3 [.int .i64 to1] 3, cells b4 [hd5.v] 54, vec encN_T_string 48 1 hd5.v zs2, cells b5 [.int .i64 stanza4] 3, cells jb1 [.string x1.2.Text, .int .i64 x1.2.Indent, .int .i64 x1.2.Stanza, .int .i64 x1.2.In, .int .i64 x1.2.Span_From, .int .i64 x1.2.Span_To] 36, own nest_T_string (zs2.eraseIdx (((out5.length : Int) - 1 : Int).toNat)), vec encS 9 1 eh1.v x2, emp]) (cons_eq rfl (cons_eq rfl (cons_eq rfl (cons_eq rfl (cons_eq rfl (cons_eq rfl (cons_eq rfl (cons_eq (eD_miss (fun hD => hn (hcl 13 _ rfl hD 12 dc)) eD_nil) (cons_eq (eD_miss hn eD_nil) rfl))))))))) ?_
       refine TO.buildSlice (cs := [.string ((spacesB x1.2.Indent) ++ x1.2.Text)]) (te := 9) (ps := [(0, .tmp 47)]) rfl dc (evP.cons (dl_lookup (m := 11) rfl rfl (hd 11 dc)) evP.nil) (fun _ => by kernel_rfl) (fun b9 => ?_)
       refine TO.place 8 rfl rfl ?_
       show TO _ _ _ _ _ _ _ _ _ _ [cells b2 [.int .i64 from1] 3, cells b3 [.int .i64 to1] 3, cells b4 [hd5.v] 54, vec encN_T_string 48 1 hd5.v zs2, cells b5 [.int .i64 stanza4] 3, cells jb1 [.string x1.2.Text, .int .i64 x1.2.Indent, .int .i64 x1.2.Stanza, .int .i64 x1.2.In, .int .i64 x1.2.Span_From, .int .i64 x1.2.Span_To] 36, own nest_T_string (zs2.eraseIdx (((out5.length : Int) - 1 : Int).toNat)), vec encS 9 1 eh1.v x2, cells b9 [.string ((spacesB x1.2.Indent) ++ x1.2.Text)] 9]
       exact TX.valG (b9, hd7) 12 (by rfl) (by rfl) rfl (dl_cons_eq (fun _ => rfl) (dl_cons_eq (fun _ => rfl) (dl_cons_eq (fun _ => rfl) (dl_cons_eq (fun _ => rfl) (dl_cons_eq (fun _ => rfl) (dl_cons_eq (fun _ => rfl) (dl_cons_eq (fun _ => rfl) (dl_cons_eq (fun _ => rfl) (dl_cons_eq (fun _ => rfl) (dl_cons_eq (fun _ => rfl) (dl_cons_eq (fun _ => rfl) (dl_cons_eq (fun _ => rfl) (dl_cons_eq (fun hD => absurd hD hn) (dl_cons_eq (fun _ => rfl) rfl)))))))))))))) (cons_eq rfl (cons_eq rfl (cons_eq rfl (cons_eq rfl (cons_eq rfl (cons_eq rfl (cons_eq rfl (cons_eq ((eD_skip (by rfl)).trans (eD_miss (fun hD => hn (hcl 13 _ rfl hD 12 dc)) eD_nil)) (cons_eq (eD_hit (Or.inr rfl) rfl) rfl)))))))))
      ·
       intro D b hn hd hcl
       obtain ⟨b9, _⟩ := b
       refine TO.rewL (L' := [cells b2 [.int .i64 from1] 3, cells b3 [.int .i64 to1] 3, cells b4 [hd5.v] 54, vec encN_T_string 48 1 hd5.v zs2, cells b5 [.int .i64 stanza4] 3, cells jb1 [.string x1.2.Text, .int .i64 x1.2.Indent, .int .i64 x1.2.Stanza, .int .i64 x1.2.In, .int .i64 x1.2.Span_From, .int .i64 x1.2.Span_To] 36, own nest_T_string (zs2.eraseIdx (((out5.length : Int) - 1 : Int).toNat)), vec encS 9 1 eh1.v x2, cells b9 [.string ((spacesB x1.2.Indent) ++ x1.2.Text)] 9]) (cons_eq rfl (cons_eq rfl (cons_eq rfl (cons_eq rfl (cons_eq rfl (cons_eq rfl (cons_eq rfl (cons_eq (eD_miss hn eD_nil) (cons_eq (eD_hit (hd 12 dc) rfl) rfl))))))))) ?_
       refine TO.appendVec (k := 7) (k2 := 8) (ys := [(spacesB x1.2.Indent) ++ x1.2.Text]) Tryd.underlying48 el_9 encS_len encS_one rfl dc (dl_lookup (m := 5) rfl rfl (hd 5 dc)) (dl_lookup (m := 12) rfl rfl (hd 12 dc)) rfl rfl rfl rfl hg5 (fun v2 => ?_)
       refine TO.nameHd (k := 7) rfl (fun hd7 he2 => ?_)
       subst he2
       exact TX.valG (b9, hd7) 13 (by rfl) (by rfl) rfl (dl_cons_eq (fun _ => rfl) (dl_cons_eq (fun _ => rfl) (dl_cons_eq (fun _ => rfl) (dl_cons_eq (fun _ => rfl) (dl_cons_eq (fun _ => rfl) (dl_cons_eq (fun _ => rfl) (dl_cons_eq (fun _ => rfl) (dl_cons_eq (fun _ => rfl) (dl_cons_eq (fun _ => rfl) (dl_cons_eq (fun _ => rfl) (dl_cons_eq (fun _ => rfl) (dl_cons_eq (fun _ => rfl) (dl_cons_eq (fun _ => rfl) (dl_cons_eq (fun hD => absurd hD hn) rfl)))))))))))))) (cons_eq rfl (cons_eq rfl (cons_eq rfl (cons_eq rfl (cons_eq rfl (cons_eq rfl (cons_eq rfl (cons_eq (eD_hit (Or.inr rfl) rfl) (cons_eq ((eD_skip (by rfl)).trans (eD_hit (hd 12 dc) rfl)) rfl)))))))))
      intro D b hall
      obtain ⟨b9, hd7⟩ := b
      refine TO.rewL (L' := [cells b2 [.int .i64 from1] 3, cells b3 [.int .i64 to1] 3, cells b4 [hd5.v] 54, vec encN_T_string 48 1 hd5.v zs2, cells b5 [.int .i64 stanza4] 3, cells jb1 [.string x1.2.Text, .int .i64 x1.2.Indent, .int .i64 x1.2.Stanza, .int .i64 x1.2.In, .int .i64 x1.2.Span_From, .int .i64 x1.2.Span_To] 36, own nest_T_string (zs2.eraseIdx (((out5.length : Int) - 1 : Int).toNat)), vec encS 9 1 hd7.v (x2 ++ [(spacesB x1.2.Indent) ++ x1.2.Text]), cells b9 [.string ((spacesB x1.2.Indent) ++ x1.2.Text)] 9]) (cons_eq rfl (cons_eq rfl (cons_eq rfl (cons_eq rfl (cons_eq rfl (cons_eq rfl (cons_eq rfl (cons_eq (eD_hit (hall 13 dc) rfl) (cons_eq (eD_hit (hall 12 dc) rfl) rfl))))))))) (TO.indexVecI (k := 3) eq1 Tryd.underlying54 sz_48 rfl dc rfl rfl rfl rfl ?_)
      refine TO.storeVec (i := ((out5.length : Int) - 1 : Int).toNat) (j := 0) (k := 3) (q := (x2, eh1)) (q' := (x2 ++ [(spacesB x1.2.Indent) ++ x1.2.Text], hd7)) sz_48 encN_T_string_len rfl rfl rfl rfl (getO_get eq1) rfl dc rfl (fun _ _ => rfl) ?_
      show TO _ _ _ _ _ _ _ _ _ _ [cells b2 [.int .i64 from1] 3, cells b3 [.int .i64 to1] 3, cells b4 [hd5.v] 54, vec encN_T_string 48 1 hd5.v (zs2.set (((out5.length : Int) - 1 : Int).toNat) (x2 ++ [(spacesB x1.2.Indent) ++ x1.2.Text], hd7)), cells b5 [.int .i64 stanza4] 3, cells jb1 [.string x1.2.Text, .int .i64 x1.2.Indent, .int .i64 x1.2.Stanza, .int .i64 x1.2.In, .int .i64 x1.2.Span_From, .int .i64 x1.2.Span_To] 36, own nest_T_string (zs2.eraseIdx (((out5.length : Int) - 1 : Int).toNat)), vec encS 9 1 hd7.v (x2 ++ [(spacesB x1.2.Indent) ++ x1.2.Text]), cells b9 [.string ((spacesB x1.2.Indent) ++ x1.2.Text)] 9]
      refine TO.fold1 (k := 6) rfl (Splits.of [7] kr rfl) rfl (pushE (nest := nest_T_string) (zs := zs2) (z := (x2 ++ [(spacesB x1.2.Indent) ++ x1.2.Text], hd7)) (set_get (getO_get eq1)) set_erase) ?_
      show TO _ _ _ _ _ _ _ _ _ _ [cells b2 [.int .i64 from1] 3, cells b3 [.int .i64 to1] 3, cells b4 [hd5.v] 54, vec encN_T_string 48 1 hd5.v (zs2.set (((out5.length : Int) - 1 : Int).toNat) (x2 ++ [(spacesB x1.2.Indent) ++ x1.2.Text], hd7)), cells b5 [.int .i64 stanza4] 3, cells jb1 [.string x1.2.Text, .int .i64 x1.2.Indent, .int .i64 x1.2.Stanza, .int .i64 x1.2.In, .int .i64 x1.2.Span_From, .int .i64 x1.2.Span_To] 36, own nest_T_string (zs2.set (((out5.length : Int) - 1 : Int).toNat) (x2 ++ [(spacesB x1.2.Indent) ++ x1.2.Text], hd7)), emp, cells b9 [.string ((spacesB x1.2.Indent) ++ x1.2.Text)] 9]
      refine TO.nil (TX.blockNormal (TX.fold1 (k := 3) rfl (Splits.of [6] kr rfl) rfl (closeE (enc := encN_T_string) (nest := nest_T_string) (zset hz2)) ?_))
      show TX _ _ _ _ _ _ _ [cells b2 [.int .i64 from1] 3, cells b3 [.int .i64 to1] 3, cells b4 [hd5.v] 54, vecN encN_T_string nest_T_string 48 1 hd5.v (out5.set ((out5.length : Int) - 1 : Int).toNat (x2 ++ [(spacesB x1.2.Indent) ++ x1.2.Text])), cells b5 [.int .i64 stanza4] 3, cells jb1 [.string x1.2.Text, .int .i64 x1.2.Indent, .int .i64 x1.2.Stanza, .int .i64 x1.2.In, .int .i64 x1.2.Span_From, .int .i64 x1.2.Span_To] 36, emp, emp, cells b9 [.string ((spacesB x1.2.Indent) ++ x1.2.Text)] 9]
      exact TX.round (out5.set ((out5.length : Int) - 1 : Int).toNat (x2 ++ [(spacesB x1.2.Indent) ++ x1.2.Text]), stanza4, hd5) (fun post2 e2 => by have e9 := snoc_post hxs1 e2; subst e9; subst hag1; exact h) (Splits.of [0, 1, 2, 3, 4] kr rfl)
  ·
   rintro dm1 ⟨out4, stanza3, hd4⟩ hinv
   have h : d1 out4 stanza3 = some r := hinv [] (List.append_nil _).symm
   rw [hd1] at h
   show TX _ _ _ _ _ _ _ [star ((([] : List Nat) : List Nat).map mark), emp, emp, emp, emp, cells b6 [.pointer (some ⟨bp1, 0, none⟩)] 23, emp, cells b2 [.int .i64 from1] 3, cells b3 [.int .i64 to1] 3, cells b4 [hd4.v] 54, vecN encN_T_string nest_T_string 48 1 hd4.v out4, cells b5 [.int .i64 stanza3] 3, mark dm1]
   refine TX.starCons (k := 12) (j := 0) rfl rfl dc ?_
   show TX _ _ _ _ _ _ _ [star ((dm1 :: ([] : List Nat) : List Nat).map mark), emp, emp, emp, emp, cells b6 [.pointer (some ⟨bp1, 0, none⟩)] 23, emp, cells b2 [.int .i64 from1] 3, cells b3 [.int .i64 to1] 3, cells b4 [hd4.v] 54, vecN encN_T_string nest_T_string 48 1 hd4.v out4, cells b5 [.int .i64 stanza3] 3, emp]
   refine TX.blockNormal ?_
   exact TX.meetD (out4, b4, hd4, dm1 :: ([] : List Nat)) h rfl (Sbs.cons rfl (Sbs.nil)) (Splits.of [9, 10, 0] kr rfl)
  ·
   rintro dm1 c pre x1 post g hxs hX
   exact (show False from hX).elim
 ·
  rintro ⟨out1, b1, hd1, ds1⟩ h
  rw [hj1] at h
  show TC _ _ _ _ _ (marksOf ds1) _ _ [(7, .pointer (some ⟨b1, 0, none⟩))] [cells b1 [hd1.v] 54, vecN encN_T_string nest_T_string 48 1 hd1.v out1, star ((ds1 : List Nat).map mark)]
  refine TC.seq (TC.region (TO.load (k := 0) sc_54 rfl dc rfl rfl rfl (TO.assign rfl dc rfl (TO.nil (TX.next (TC.ret ?_))))))
  cases h
  exact TX.finM (rs := [.tmp 6]) ds1 hd1.v (.inl rfl) (Splits.open0 (k := 2) rfl) Tryd.results61 (.cons (.tmp rfl) .nil) rfl (Splits.of [1] kr rfl)
def poem_made_s1 (stanzas1 : List (List ByteArray)) (j1 : Int → Option ((Option Gpoem_Poem) × Int)) (ag1 : Int → Int → Option ((Option Gpoem_Poem) × Int)) (n4 : Int) (x3 : Int) : Option ((Option Gpoem_Poem) × Int) := bcond (decide ((x3 : Int) < (stanzas1.length : Int))) ( andThen (getO stanzas1 x3) fun (x4 : List ByteArray) => grd (I64 (n4 + (x4.length : Int))) <| grd (I64 (x3 + 1)) <| ag1 (n4 + (x4.length : Int)) (x3 + 1)
) ( j1 n4
)
def poem_made_v (title1 : ByteArray) (stanzas1 : List (List ByteArray)) : Option ((Option Gpoem_Poem) × Int) := joinK (fun (j1 : Int → Option ((Option Gpoem_Poem) × Int)) => loopG (fun _ _ => none) (poem_made_s1 stanzas1 j1) fuel 0 0
) (fun (n1 : Int) => andThen (poem_printed_v title1 stanzas1) fun (r1 : ByteArray) => bcond (decide ((512 : Int) < n1)) ( some (none, 3)
) ( bcond (decide ((65536 : Int) < (r1.size : Int))) ( some (none, 3)
) ( andThen (poem_Read_v r1) fun (r2 : ((Option Gpoem_Poem) × Gapi_Spot)) => some (r2.1, 0)
)
)
)
set_option maxRecDepth 100000 in
set_option maxHeartbeats 4000000 in
theorem poem_made_fn {title1 : ByteArray} {vvstanzas1 : Value} {vstanzas1 : Hd} {Zstanzas1 : List ((List ByteArray) × Hd)} {kstanzas1 : Nat} {zstanzas1 : List ((List ByteArray) × Hd)} {stanzas1 : List (List ByteArray)} (hwstanzas1 : Vw vvstanzas1 Zstanzas1 1 kstanzas1 vstanzas1.v zstanzas1) (hzstanzas1 : zstanzas1.map Prod.fst = stanzas1) {r : ((Option Gpoem_Poem) × Int)} (h : poem_made_v title1 stanzas1 = some r) : FnR Tryd.prog 62 [.string title1, vstanzas1.v] [roRow encN_T_string 1 vvstanzas1 kstanzas1 Zstanzas1, rdOwn nestR_T_string Zstanzas1] [] (fun v0 : Value => .tuple #[v0, .int .i64 r.2]) (fun v0 => [pobj encN_Gpoem_Poem nest_Gpoem_Poem 93 v0 r.1]) := by
 unfold poem_made_v at h
 refine FnR.intro Tryd.func62 rfl Tryd.ntmps62 (by simp) ?_
 intro w0 K hrd
 obtain ⟨j1, hj1, h⟩ := joinE h
 refine TC.cutN (β := Int) 2 rfl (fun b => j1 b = some r) (fun b => []) (fun b => [(0, .string title1), (1, vstanzas1.v), (6, .int .i64 b)]) (fun b => []) (fun cut => ?_) ?_
 ·
  refine TC.seq (TC.region (TO.assign rfl dc rfl (TO.assign rfl dc rfl (TO.nil (TX.next (TC.seq (TC.region (TO.assign rfl dc rfl (TO.nil (TX.next (cut (TC.seq (TC.region ?_)))))))))))))
  refine TO.move rfl dc rfl (TO.lenVwZ hzstanzas1 hwstanzas1 rfl dc rfl Tryd.underlying54 (TO.move rfl dc rfl (TO.nil (TX.next (TC.block ?_)))))
  refine TC.loopD (β := Nat × Int × Int) (fun b => loopG (fun _ _ => none) (poem_made_s1 stanzas1 j1) b.1 b.2.1 b.2.2 = some r) (fun b => []) (fun b => [(0, .string title1), (1, vstanzas1.v), (6, .int .i64 b.2.1), (12, vstanzas1.v), (13, .int .i64 (stanzas1.length : Int)), (14, .int .i64 b.2.2)]) (fun b => []) (fun b => b.1) (fuel, 0, 0) h rfl (Sbs.cons rfl (Sbs.cons rfl (Sbs.cons rfl (Sbs.cons rfl (Sbs.cons rfl (Sbs.cons rfl (Sbs.nil))))))) Splits.nil ?_
  rintro ⟨n5, n4, x3⟩ h
  cases n5 with
  | zero => exact noneE h
  | succ n5 =>
   obtain ⟨ag1, hag1⟩ : ∃ ag, ag = loopG (fun _ _ => none) (poem_made_s1 stanzas1 j1) n5 := ⟨_, rfl⟩
   have h : poem_made_s1 stanzas1 j1 ag1 n4 x3 = some r := by rw [hag1]; exact h
   unfold poem_made_s1 at h
   show TC _ _ _ _ _ ([]) _ _ [(0, .string title1), (1, vstanzas1.v), (6, .int .i64 n4), (12, vstanzas1.v), (13, .int .i64 (stanzas1.length : Int)), (14, .int .i64 x3)] []
   refine TC.seq (TC.region (TO.bin rfl dc rfl rfl bin_lss (TO.nil (TX.next (TC.seq ?_)))))
   refine TC.condB rfl (fun hb1 => ?_) (fun hb1 => ?_)
   ·
    have h := condT hb1 h
    refine TC.skip (TX.next (TC.seq (TC.block (TC.seq (TC.region ?_)))))
    obtain ⟨x4, hq1, h⟩ := andE h
    obtain ⟨eh1, eq1⟩ := getO_z hzstanzas1 hq1
    have hrd : Rd _ _ [roRow encN_T_string 1 vvstanzas1 kstanzas1 Zstanzas1, rdOwn nestR_T_string Zstanzas1, rdSl encS 1 eh1 x4] := hrd.openEl (i := 1) (z := (x4, eh1)) rfl (Vw.get hwstanzas1 eq1)
    obtain ⟨vv1, k1, L1, hV1, hrd⟩ := hrd.openSl (i := 2) rfl
    replace hrd : Rd _ _ [roRow encN_T_string 1 vvstanzas1 kstanzas1 Zstanzas1, rdOwn nestR_T_string Zstanzas1, rdSl encS 1 eh1 x4, roRow encS 1 vv1 k1 L1] := hrd
    refine TO.indexVw hwstanzas1 eq1 Tryd.underlying54 sz_48 rfl dc rfl rfl rfl (TO.loadRowRd (n := kstanzas1 + (x3 : Int).toNat) (j := 0) (i := 0) (q := (x4, eh1)) hrd rfl (by omega) sc_48 rfl dc rfl (Vw.get hwstanzas1 eq1) rfl rfl (TO.assign rfl dc rfl (TO.nil (TX.next (TC.region (TO.move rfl dc rfl (TO.move rfl dc rfl (TO.lenVw hV1 rfl dc rfl Tryd.underlying48 ?_))))))))
    obtain ⟨hg1, h⟩ := grdE h
    refine TO.bin rfl dc rfl rfl (bin_add (r := n4 + (x4.length : Int)) (IntWalk.i64_in _ hg1)) (TO.assign rfl dc rfl (TO.nil (TX.blockNormal (TX.next (TC.region ?_)))))
    obtain ⟨hg2, h⟩ := grdE h
    refine TO.bin rfl dc rfl rfl (bin_add (r := x3 + 1) (IntWalk.i64_in _ hg2)) (TO.move rfl dc rfl (TO.nil ?_))
    subst hag1
    exact TX.againD (n5, n4 + (x4.length : Int), x3 + 1) h (Nat.lt_succ_self _) rfl (Sbs.cons rfl (Sbs.cons rfl (Sbs.cons rfl (Sbs.cons rfl (Sbs.cons rfl (Sbs.cons rfl (Sbs.nil))))))) Splits.nil
   ·
    have h := condF hb1 h
    refine TC.exit (TX.thenExit (TX.thenExit (TX.blockHere ?_)))
    exact TX.meetD n4 h rfl (Sbs.cons rfl (Sbs.cons rfl (Sbs.cons rfl (Sbs.nil)))) Splits.nil
 ·
  rintro n1 h
  rw [hj1] at h
  show TC _ _ _ _ _ ([]) _ _ [(0, .string title1), (1, vstanzas1.v), (6, .int .i64 n1)] []
  refine TC.seq (TC.region (TO.move rfl dc rfl (TO.move rfl dc rfl ?_)))
  obtain ⟨r1, hq2, h⟩ := andE h
  refine TO.callPR (v := .string r1) (vs := [.string title1, vstanzas1.v]) hrd rfl dc rfl rfl rfl en_60 (poem_printed_fn (vstanzas1 := vstanzas1) hwstanzas1 hzstanzas1 hq2) (.ro 0 rfl (.ro 1 rfl .nil)) (TO.assign rfl dc rfl (TO.nil (TX.next (TC.seq (TC.seq (TC.region (TO.move rfl dc rfl (TO.bin rfl dc rfl rfl bin_gtr (TO.move rfl dc rfl ?_)))))))))
  refine TO.split (s := 28) rfl (fun hb2 => ?_) (fun hb2 => ?_)
  ·
   have h := condT hb2 h
   refine TO.skip rfl dc (TO.skip rfl dc (TO.skip rfl dc (TO.pick (b := true) rfl dc rfl rfl (TO.nil (TX.next (TC.condT rfl (TC.seq (TC.region (TO.assign rfl dc rfl (TO.assign rfl dc rfl (TO.nil (TX.next (TC.ret ?_)))))))))))))
   refine TX.thenRet (TX.newObj encN_Gpoem_Poem nest_Gpoem_Poem 93 ?_)
   show TX _ _ _ _ _ _ _ [pobj encN_Gpoem_Poem nest_Gpoem_Poem 93 (.pointer none) none]
   cases h
   exact TX.fin (rs := [.tmp 4, .tmp 5]) (.pointer none) (.inl rfl) Tryd.results62 (.cons (.tmp rfl) (.cons (.tmp rfl) .nil)) rfl (Splits.of [0] kr rfl)
  ·
   have h := condF hb2 h
   refine TO.move rfl dc rfl (TO.lenStr rfl dc rfl Tryd.underlying9 (TO.bin rfl dc rfl rfl bin_gtr (TO.pick (b := false) rfl dc rfl rfl (TO.nil (TX.next ?_)))))
   refine TC.condB rfl (fun hb3 => ?_) (fun hb3 => ?_)
   ·
    have h := condT hb3 h
    refine TC.seq (TC.region (TO.assign rfl dc rfl (TO.assign rfl dc rfl (TO.nil (TX.next (TC.ret (TX.thenRet (TX.newObj encN_Gpoem_Poem nest_Gpoem_Poem 93 ?_))))))))
    show TX _ _ _ _ _ _ _ [pobj encN_Gpoem_Poem nest_Gpoem_Poem 93 (.pointer none) none]
    cases h
    exact TX.fin (rs := [.tmp 4, .tmp 5]) (.pointer none) (.inl rfl) Tryd.results62 (.cons (.tmp rfl) (.cons (.tmp rfl) .nil)) rfl (Splits.of [0] kr rfl)
   ·
    have h := condF hb3 h
    refine TC.skip (TX.next (TC.seq (TC.region (TO.move rfl dc rfl ?_))))
    obtain ⟨r2, hq3, h⟩ := andE h
    refine TO.call (vs := [.string r1]) rfl dc rfl rfl rfl en_13 (poem_Read_fn hq3) Splits.nil ?_
    rintro v1
    show TO _ _ _ _ _ _ _ _ _ _ [pobj encN_Gpoem_Poem nest_Gpoem_Poem 93 v1 r2.1]
    refine TO.weakenL (L' := [pobj encN_Gpoem_Poem nest_Gpoem_Poem 93 v1 r2.1]) (Splits.of [0] kr rfl) (TO.move rfl dc rfl (TO.extract rfl dc rfl rfl (TO.extract rfl dc rfl rfl ?_)))
    refine TO.alloc zr_26 rfl dc (fun b1 => ?_)
    refine TO.assign rfl dc rfl (TO.stores (k := 1) (vs := [.int .i64 r2.2.Err, .int .i64 r2.2.At]) (l' := [.int .i64 r2.2.Err, .int .i64 r2.2.At]) sz_26 rfl rfl rfl rfl rfl (show _ ≤ _ by simp) rfl rfl ?_)
    show TO _ _ _ _ _ _ _ _ _ _ [pobj encN_Gpoem_Poem nest_Gpoem_Poem 93 v1 r2.1, cells b1 [.int .i64 r2.2.Err, .int .i64 r2.2.At] 26]
    refine TO.nil (TX.next (TC.seq (TC.region (TO.move rfl dc rfl (TO.assign rfl dc rfl (TO.assign rfl dc rfl (TO.nil (TX.next (TC.ret ?_)))))))))
    cases h
    exact TX.fin (rs := [.tmp 4, .tmp 5]) v1 (.inl rfl) Tryd.results62 (.cons (.tmp rfl) (.cons (.tmp rfl) .nil)) rfl (Splits.of [0] kr rfl)
def poem_Poem_Print_v (p1 : Gpoem_Poem) : Option ByteArray := andThen (poem_Poem_rows_v p1 0 (p1.told_lines.length : Int)) fun (r1 : (List (List ByteArray))) => andThen (poem_printed_v p1.told_title r1) fun (r2 : ByteArray) => some r2
set_option maxRecDepth 100000 in
set_option maxHeartbeats 4000000 in
theorem poem_Poem_Print_fn {bp1 : Nat} {p1 : Gpoem_Poem} {p1_h0 p1_h1 : Hd} {r : ByteArray} (h : poem_Poem_Print_v p1 = some r) : FnR Tryd.prog 18 [.pointer (some ⟨bp1, 0, none⟩)] [cells bp1 [.string p1.told_title, p1_h0.v, p1_h1.v, .string p1.source] 93, vec enc_Gapi_Verse 36 6 p1_h0.v p1.told_lines, vec enc_Gapi_Span 34 2 p1_h1.v p1.told_stanzas] [] (fun _ : Unit => (.string r)) (fun _ => []) := by
 unfold poem_Poem_Print_v at h
 refine FnR.intro Tryd.func18 rfl Tryd.ntmps18 (by simp) ?_
 intro w0 K hrd
 refine TC.seq (TC.region (TO.assign rfl dc rfl (TO.nil (TX.next (TC.seq (TC.seq (TC.region (TO.move rfl dc rfl (TO.bin rfl dc rfl rfl (bin_ptrnileqlR Tryd.underlying23) (TO.nil (TX.next (TC.condF rfl (TC.skip ?_)))))))))))))
 refine TX.next (TC.seq ?_)
 obtain ⟨r1, hq1, h⟩ := andE h
 obtain ⟨r2, hq2, h⟩ := andE h
 refine TC.drawB (β := Hd) 13 12 _ [(0, 5, .pointer (some ⟨bp1, 0, none⟩)), (1, 6, .pointer (some ⟨bp1, 0, none⟩)), (2, 7, .pointer (some ⟨bp1, 0, none⟩)), (3, 8, .pointer (some ⟨bp1, 0, none⟩)), (4, 9, .string p1.told_title), (5, 10, .pointer (some ⟨bp1, 0, none⟩)), (6, 11, .pointer (some ⟨bp1, 0, none⟩)), (7, 12, .pointer (some ⟨bp1, 0, none⟩)), (8, 13, .pointer (some ⟨bp1, 0, none⟩)), (9, 14, .pointer (some ⟨bp1, 1, none⟩)), (10, 15, p1_h0.v), (11, 16, .int .i64 (p1.told_lines.length : Int))] (fun hd1 => [(17, hd1.v)]) (fun hd1 => [vecN encN_T_string nest_T_string 48 1 hd1.v r1]) mixed kr kr rfl dc dc (by rfl) kr kr (DrawPreX.cons ?_ (DrawPreX.cons ?_ (DrawPreX.cons ?_ (DrawPreX.cons ?_ (DrawPreX.cons ?_ (DrawPreX.cons ?_ (DrawPreX.cons ?_ (DrawPreX.cons ?_ (DrawPreX.cons ?_ (DrawPreX.cons ?_ (DrawPreX.cons ?_ (DrawPreX.cons ?_ (DrawPreX.here DrawPreX.nil))))))))))))) (fun hd1 => (DrawPreX.cons ?_ (DrawPreX.cons ?_ (DrawPreX.cons ?_ (DrawPreX.cons ?_ (DrawPreX.cons ?_ (DrawPreX.cons ?_ (DrawPreX.cons ?_ (DrawPreX.cons ?_ (DrawPreX.cons ?_ (DrawPreX.cons ?_ (DrawPreX.cons ?_ (DrawPreX.cons ?_ (DrawPreX.here DrawPreX.nil)))))))))))))) ?_ ?_
 ·
  intro D hn hd hcl hu hi
  refine TO.move rfl dc (dl_old (by rfl) rfl) ?_
  exact TX.quiet 0 hu hi rfl
 ·
  intro D hn hd hcl hu hi
  refine TO.nilCheck rfl dc (dl_lookup (m := 0) hu rfl (hd 0 dc)) ?_
  exact TX.quiet 1 hu hi rfl
 ·
  intro D hn hd hcl hu hi
  refine TO.fieldAddr fl_93_0 rfl dc (dl_lookup (m := 1) hu rfl (hd 1 dc)) (show _ = 0 from rfl) ?_
  exact TX.quiet 2 hu hi rfl
 ·
  intro D hn hd hcl hu hi
  refine TO.fieldAddr fl_91_0 rfl dc (dl_lookup (m := 2) hu rfl (hd 2 dc)) (show _ = 0 from rfl) ?_
  exact TX.quiet 3 hu hi rfl
 ·
  intro D hn hd hcl hu hi
  refine TO.loadRd (i := 0) hrd rfl sc_9 rfl dc (dl_lookup (m := 3) hu rfl (hd 3 dc)) rfl ?_
  exact TX.quiet 4 hu hi rfl
 ·
  intro D hn hd hcl hu hi
  refine TO.move rfl dc (dl_old (by rfl) rfl) ?_
  exact TX.quiet 5 hu hi rfl
 ·
  intro D hn hd hcl hu hi
  refine TO.move rfl dc (dl_old (by rfl) rfl) ?_
  exact TX.quiet 6 hu hi rfl
 ·
  intro D hn hd hcl hu hi
  refine TO.nilCheck rfl dc (dl_lookup (m := 6) hu rfl (hd 6 dc)) ?_
  exact TX.quiet 7 hu hi rfl
 ·
  intro D hn hd hcl hu hi
  refine TO.fieldAddr fl_93_0 rfl dc (dl_lookup (m := 7) hu rfl (hd 7 dc)) (show _ = 0 from rfl) ?_
  exact TX.quiet 8 hu hi rfl
 ·
  intro D hn hd hcl hu hi
  refine TO.fieldAddr fl_91_1 rfl dc (dl_lookup (m := 8) hu rfl (hd 8 dc)) (show _ = 1 from rfl) ?_
  exact TX.quiet 9 hu hi rfl
 ·
  intro D hn hd hcl hu hi
  refine TO.loadRd (i := 0) hrd rfl sc_57 rfl dc (dl_lookup (m := 9) hu rfl (hd 9 dc)) rfl ?_
  exact TX.quiet 10 hu hi rfl
 ·
  intro D hn hd hcl hu hi
  refine TO.lenVw (hrd.vw (i := 1) rfl) rfl dc (dl_lookup (m := 10) hu rfl (hd 10 dc)) Tryd.underlying57 ?_
  exact TX.quiet 11 hu hi rfl
 ·
  intro D hn hd hcl hu hi
  refine TO.move rfl dc (dl_old (by rfl) rfl) ?_
  exact TX.quiet 0 hu hi rfl
 ·
  intro D hn hd hcl hu hi
  refine TO.nilCheck rfl dc (dl_lookup (m := 0) hu rfl (hd 0 dc)) ?_
  exact TX.quiet 1 hu hi rfl
 ·
  intro D hn hd hcl hu hi
  refine TO.fieldAddr fl_93_0 rfl dc (dl_lookup (m := 1) hu rfl (hd 1 dc)) (show _ = 0 from rfl) ?_
  exact TX.quiet 2 hu hi rfl
 ·
  intro D hn hd hcl hu hi
  refine TO.fieldAddr fl_91_0 rfl dc (dl_lookup (m := 2) hu rfl (hd 2 dc)) (show _ = 0 from rfl) ?_
  exact TX.quiet 3 hu hi rfl
 ·
  intro D hn hd hcl hu hi
  refine TO.loadRd (i := 0) hrd rfl sc_9 rfl dc (dl_lookup (m := 3) hu rfl (hd 3 dc)) rfl ?_
  exact TX.quiet 4 hu hi rfl
 ·
  intro D hn hd hcl hu hi
  refine TO.move rfl dc (dl_old (by rfl) rfl) ?_
  exact TX.quiet 5 hu hi rfl
 ·
  intro D hn hd hcl hu hi
  refine TO.move rfl dc (dl_old (by rfl) rfl) ?_
  exact TX.quiet 6 hu hi rfl
 ·
  intro D hn hd hcl hu hi
  refine TO.nilCheck rfl dc (dl_lookup (m := 6) hu rfl (hd 6 dc)) ?_
  exact TX.quiet 7 hu hi rfl
 ·
  intro D hn hd hcl hu hi
  refine TO.fieldAddr fl_93_0 rfl dc (dl_lookup (m := 7) hu rfl (hd 7 dc)) (show _ = 0 from rfl) ?_
  exact TX.quiet 8 hu hi rfl
 ·
  intro D hn hd hcl hu hi
  refine TO.fieldAddr fl_91_1 rfl dc (dl_lookup (m := 8) hu rfl (hd 8 dc)) (show _ = 1 from rfl) ?_
  exact TX.quiet 9 hu hi rfl
 ·
  intro D hn hd hcl hu hi
  refine TO.loadRd (i := 0) hrd rfl sc_57 rfl dc (dl_lookup (m := 9) hu rfl (hd 9 dc)) rfl ?_
  exact TX.quiet 10 hu hi rfl
 ·
  intro D hn hd hcl hu hi
  refine TO.lenVw (hrd.vw (i := 1) rfl) rfl dc (dl_lookup (m := 10) hu rfl (hd 10 dc)) Tryd.underlying57 ?_
  exact TX.quiet 11 hu hi rfl
 ·
  intro D hn hd hcl
  refine TO.callR (vs := [.pointer (some ⟨bp1, 0, none⟩), .int .i64 0, .int .i64 (p1.told_lines.length : Int)]) hrd rfl dc rfl (evL.cons (dl_lookup (m := 5) kr rfl (hd 5 dc)) (evL.cons rfl (evL.cons (dl_lookup (m := 11) kr rfl (hd 11 dc)) evL.nil))) rfl en_61 (poem_Poem_rows_fn (bp1 := bp1) (p1 := p1) (p1_h0 := p1_h0) (p1_h1 := p1_h1) hq1) Splits.nil (.ro 0 rfl (.ro 1 rfl (.ro 2 rfl .nil))) ?_
  rintro v1
  show TO _ _ _ _ _ _ _ _ _ _ [vecN encN_T_string nest_T_string 48 1 v1 r1]
  refine TO.weakenL (L' := [vecN encN_T_string nest_T_string 48 1 v1 r1]) (Splits.of [0] kr rfl) ?_
  refine TO.nameHdN (k := 0) rfl (fun hd1 he1 => ?_)
  subst he1
  exact fun a w ha hw => ⟨hd1, Sbs.mid (by rfl) _ _ _ ha, hw⟩
 intro hd1
 show TO _ _ _ _ _ _ _ _ _ _ [vecN encN_T_string nest_T_string 48 1 hd1.v r1]
 refine TO.callPR (v := .string r2) (vs := [.string p1.told_title, hd1.v]) hrd rfl dc rfl rfl rfl en_60 (FnR.closeN (nest := nest_T_string) (e := 48) (v := hd1.v) (xs := r1) (RD1 := []) (RD2 := []) encN_T_string_len gives_T_string (fun zs_c0 hz_c0 hV_c0 => (poem_printed_fn (vstanzas1 := hd1) hV_c0 hz_c0 hq2))) (.own (Splits.of [0] (by kernel_rfl) rfl) (fun _ _ h => sepL.one1.1 h) .nil) ?_
 refine TO.assign rfl dc rfl (TO.nil (TX.next (TC.ret ?_)))
 cases h
 exact TX.fin (rs := [.tmp 2]) () (.inl rfl) Tryd.results18 (.cons (.tmp rfl) .nil) rfl Splits.nil
def poem_Poem_Set_v (p1 : Gpoem_Poem) (k1 : Int) (line1 : ByteArray) : Option ((Option Gpoem_Poem) × Int) := bcond (decide ((k1 : Int) < 0)) ( some (none, 5)
) ( bcond (decide (((p1.told_lines.length : Int) : Int) ≤ k1)) ( some (none, 5)
) ( bcond (!(mayL line1 1024)) ( some (none, 170)
) ( andThen (poem_empty_v line1) fun (r1 : Bool) => bcond (r1) ( some (none, 170)
) ( andThen (poem_Poem_rows_v p1 0 (p1.told_lines.length : Int)) fun (r2 : (List (List ByteArray))) => andThen (getO p1.told_lines k1) fun (q1 : Gapi_Verse) => andThen (getO r2 q1.Stanza) fun (x1 : List ByteArray) => andThen (getO x1 q1.In) fun (q2 : ByteArray) => andThen (poem_made_v p1.told_title (r2.set ((q1.Stanza : Int).toNat) (x1.set (q1.In : Int).toNat line1))) fun (r3 : ((Option Gpoem_Poem) × Int)) => some (r3.1, r3.2)
)
)
)
)
set_option maxRecDepth 100000 in
set_option maxHeartbeats 4000000 in
theorem poem_Poem_Set_fn {bp1 : Nat} {p1 : Gpoem_Poem} {p1_h0 p1_h1 : Hd} {k1 : Int} {line1 : ByteArray} {r : ((Option Gpoem_Poem) × Int)} (h : poem_Poem_Set_v p1 k1 line1 = some r) : FnR Tryd.prog 29 [.pointer (some ⟨bp1, 0, none⟩), .int .i64 k1, .string line1] [cells bp1 [.string p1.told_title, p1_h0.v, p1_h1.v, .string p1.source] 93, vec enc_Gapi_Verse 36 6 p1_h0.v p1.told_lines, vec enc_Gapi_Span 34 2 p1_h1.v p1.told_stanzas] [] (fun v0 : Value => .tuple #[v0, .int .i64 r.2]) (fun v0 => [pobj encN_Gpoem_Poem nest_Gpoem_Poem 93 v0 r.1]) := by
 unfold poem_Poem_Set_v at h
 refine FnR.intro Tryd.func29 rfl Tryd.ntmps29 (by simp) ?_
 intro w0 K hrd
 refine TC.seq (TC.region (TO.assign rfl dc rfl (TO.assign rfl dc rfl (TO.nil (TX.next (TC.seq (TC.block (TC.seq (TC.region (TO.move rfl dc rfl (TO.bin rfl dc rfl rfl (bin_ptrnileqlR Tryd.underlying23) (TO.assign rfl dc rfl (TO.nil ?_)))))))))))))
 refine TX.next (TC.condF rfl (TC.seq (TC.region (TO.move rfl dc rfl (TO.bin rfl dc rfl rfl bin_lss (TO.move rfl dc rfl ?_))))))
 refine TO.split (s := 16) rfl (fun hb1 => ?_) (fun hb1 => ?_)
 ·
  have h := condT hb1 h
  refine TO.skip rfl dc (TO.skip rfl dc (TO.skip rfl dc (TO.skip rfl dc (TO.skip rfl dc (TO.skip rfl dc (TO.skip rfl dc (TO.skip rfl dc (TO.pick (b := true) rfl dc rfl rfl (TO.assign rfl dc rfl (TO.nil (TX.next (TC.condT rfl (TC.seq ?_)))))))))))))
  refine TC.region (TO.assign rfl dc rfl (TO.assign rfl dc rfl (TO.nil (TX.next (TC.ret (TX.blockRet (TX.thenRet (TX.newObj encN_Gpoem_Poem nest_Gpoem_Poem 93 ?_))))))))
  show TX _ _ _ _ _ _ _ [pobj encN_Gpoem_Poem nest_Gpoem_Poem 93 (.pointer none) none]
  cases h
  exact TX.fin (rs := [.tmp 6, .tmp 7]) (.pointer none) (.inl rfl) Tryd.results29 (.cons (.tmp rfl) (.cons (.tmp rfl) .nil)) rfl (Splits.of [0] kr rfl)
 ·
  have h := condF hb1 h
  refine TO.move rfl dc rfl (TO.move rfl dc rfl (TO.nilCheck rfl dc rfl (TO.fieldAddr fl_93_0 rfl dc rfl (show _ = 0 from rfl) (TO.fieldAddr fl_91_1 rfl dc rfl (show _ = 1 from rfl) (TO.loadRd (i := 0) hrd rfl sc_57 rfl dc rfl rfl (TO.lenVw (hrd.vw (i := 1) rfl) rfl dc rfl Tryd.underlying57 (TO.bin rfl dc rfl rfl bin_geq (TO.pick (b := false) rfl dc rfl rfl (TO.assign rfl dc rfl (TO.nil (TX.next ?_)))))))))))
  refine TC.condB rfl (fun hb2 => ?_) (fun hb2 => ?_)
  ·
   have h := condT hb2 h
   refine TC.seq (TC.region (TO.assign rfl dc rfl (TO.assign rfl dc rfl (TO.nil (TX.next (TC.ret (TX.blockRet (TX.thenRet (TX.newObj encN_Gpoem_Poem nest_Gpoem_Poem 93 ?_)))))))))
   show TX _ _ _ _ _ _ _ [pobj encN_Gpoem_Poem nest_Gpoem_Poem 93 (.pointer none) none]
   cases h
   exact TX.fin (rs := [.tmp 6, .tmp 7]) (.pointer none) (.inl rfl) Tryd.results29 (.cons (.tmp rfl) (.cons (.tmp rfl) .nil)) rfl (Splits.of [0] kr rfl)
  ·
   have h := condF hb2 h
   refine TC.seq (TC.region (TO.move rfl dc rfl (TO.callP (v := .bool (mayL line1 1024)) (vs := [.string line1, .int .i64 1024]) rfl dc rfl rfl rfl en_63 (may_p line1 1024 dc) (TO.un rfl dc rfl un_not (TO.move rfl dc rfl ?_)))))
   refine TO.split (s := 30) rfl (fun hb3 => ?_) (fun hb3 => ?_)
   ·
    have h := condT hb3 h
    refine TO.skip rfl dc (TO.skip rfl dc (TO.pick (b := true) rfl dc rfl rfl (TO.assign rfl dc rfl (TO.nil (TX.next (TC.condT rfl (TC.seq (TC.region (TO.assign rfl dc rfl (TO.assign rfl dc rfl (TO.nil (TX.next (TC.ret ?_)))))))))))))
    refine TX.blockRet (TX.thenRet (TX.newObj encN_Gpoem_Poem nest_Gpoem_Poem 93 ?_))
    show TX _ _ _ _ _ _ _ [pobj encN_Gpoem_Poem nest_Gpoem_Poem 93 (.pointer none) none]
    cases h
    exact TX.fin (rs := [.tmp 6, .tmp 7]) (.pointer none) (.inl rfl) Tryd.results29 (.cons (.tmp rfl) (.cons (.tmp rfl) .nil)) rfl (Splits.of [0] kr rfl)
   ·
    have h := condF hb3 h
    refine TO.move rfl dc rfl ?_
    obtain ⟨r1, hq1, h⟩ := andE h
    refine TO.callP (v := .bool r1) (vs := [.string line1]) rfl dc rfl rfl rfl en_48 (poem_empty_fn hq1) (TO.pick (b := false) rfl dc rfl rfl (TO.assign rfl dc rfl (TO.nil (TX.next ?_))))
    refine TC.condB rfl (fun hb4 => ?_) (fun hb4 => ?_)
    ·
     have h := condT hb4 h
     refine TC.seq (TC.region (TO.assign rfl dc rfl (TO.assign rfl dc rfl (TO.nil (TX.next (TC.ret (TX.blockRet (TX.thenRet (TX.newObj encN_Gpoem_Poem nest_Gpoem_Poem 93 ?_)))))))))
     show TX _ _ _ _ _ _ _ [pobj encN_Gpoem_Poem nest_Gpoem_Poem 93 (.pointer none) none]
     cases h
     exact TX.fin (rs := [.tmp 6, .tmp 7]) (.pointer none) (.inl rfl) Tryd.results29 (.cons (.tmp rfl) (.cons (.tmp rfl) .nil)) rfl (Splits.of [0] kr rfl)
    ·
     have h := condF hb4 h
     refine TC.skip (TX.blockNormal (TX.next (TC.seq (TC.region (TO.move rfl dc rfl (TO.move rfl dc rfl (TO.nilCheck rfl dc rfl (TO.fieldAddr fl_93_0 rfl dc rfl (show _ = 0 from rfl) (TO.fieldAddr fl_91_1 rfl dc rfl (show _ = 1 from rfl) (TO.loadRd (i := 0) hrd rfl sc_57 rfl dc rfl rfl (TO.lenVw (hrd.vw (i := 1) rfl) rfl dc rfl Tryd.underlying57 ?_)))))))))))
     obtain ⟨r2, hq2, h⟩ := andE h
     refine TO.callR (vs := [.pointer (some ⟨bp1, 0, none⟩), .int .i64 0, .int .i64 (p1.told_lines.length : Int)]) hrd rfl dc rfl rfl rfl en_61 (poem_Poem_rows_fn (bp1 := bp1) (p1 := p1) (p1_h0 := p1_h0) (p1_h1 := p1_h1) hq2) Splits.nil (.ro 0 rfl (.ro 1 rfl (.ro 2 rfl .nil))) ?_
     rintro v1
     show TO _ _ _ _ _ _ _ _ _ _ [vecN encN_T_string nest_T_string 48 1 v1 r2]
     refine TO.weakenL (L' := [vecN encN_T_string nest_T_string 48 1 v1 r2]) (Splits.of [0] kr rfl) ?_
     refine TO.nameHdN (k := 0) rfl (fun hd1 he1 => ?_)
     subst he1
     refine TO.assign rfl dc rfl (TO.nil (TX.next (TC.seq (TC.region (TO.move rfl dc rfl (TO.nilCheck rfl dc rfl (TO.fieldAddr fl_93_0 rfl dc rfl (show _ = 0 from rfl) (TO.fieldAddr fl_91_1 rfl dc rfl (show _ = 1 from rfl) (TO.loadRd (i := 0) hrd rfl sc_57 rfl dc rfl rfl (TO.move rfl dc rfl ?_))))))))))
     obtain ⟨q1, hq3, h⟩ := andE h
     refine TO.indexVw (hrd.vw (i := 1) rfl) hq3 Tryd.underlying57 sz_36 rfl dc rfl rfl rfl (TO.loadsVecRd (m := 0 + (k1 : Int).toNat) (j := 0) (i := 1) (q := q1) (cs := [.string q1.Text, .int .i64 q1.Indent, .int .i64 q1.Stanza, .int .i64 q1.In, .int .i64 q1.Span_From, .int .i64 q1.Span_To]) hrd rfl rw_36 enc_Gapi_Verse_len rfl dc rfl (Vw.get (hrd.vw (i := 1) rfl) hq3) rfl rfl rfl ?_)
     refine TO.alloc zr_36 rfl dc (fun b1 => ?_)
     refine TO.stores (k := 1) (vs := [.string q1.Text, .int .i64 q1.Indent, .int .i64 q1.Stanza, .int .i64 q1.In, .int .i64 q1.Span_From, .int .i64 q1.Span_To]) (l' := [.string q1.Text, .int .i64 q1.Indent, .int .i64 q1.Stanza, .int .i64 q1.In, .int .i64 q1.Span_From, .int .i64 q1.Span_To]) sz_36 rfl rfl rfl rfl rfl (show _ ≤ _ by simp) rfl rfl ?_
     show TO _ _ _ _ _ _ _ _ _ _ [vecN encN_T_string nest_T_string 48 1 hd1.v r2, cells b1 [.string q1.Text, .int .i64 q1.Indent, .int .i64 q1.Stanza, .int .i64 q1.In, .int .i64 q1.Span_From, .int .i64 q1.Span_To] 36]
     refine TO.nil (TX.next (TC.seq ?_))
     refine TC.unfold1 (k := 0) rfl openE (fun zs1 hz1 => ?_)
     show TC _ _ _ _ _ _ _ _ _ [vec encN_T_string 48 1 hd1.v zs1, cells b1 [.string q1.Text, .int .i64 q1.Indent, .int .i64 q1.Stanza, .int .i64 q1.In, .int .i64 q1.Span_From, .int .i64 q1.Span_To] 36, own nest_T_string zs1]
     obtain ⟨x1, hq4, h⟩ := andE h
     obtain ⟨eh1, eq1⟩ := getO_z hz1 hq4
     obtain ⟨q2, hq5, h⟩ := andE h
     refine TC.unfold1 (k := 2) rfl (pullE (getO_get eq1)) (fun _ _ => ?_)
     show TC _ _ _ _ _ _ _ _ _ [vec encN_T_string 48 1 hd1.v zs1, cells b1 [.string q1.Text, .int .i64 q1.Indent, .int .i64 q1.Stanza, .int .i64 q1.In, .int .i64 q1.Span_From, .int .i64 q1.Span_To] 36, own nest_T_string (zs1.eraseIdx ((q1.Stanza : Int).toNat)), vec encS 9 1 eh1.v x1]
     refine TC.drawN 8 [(0, 50, hd1.v), (1, 51, .pointer (some ⟨b1, 2, none⟩)), (2, 52, .int .i64 q1.Stanza), (3, 53, .pointer (some ⟨vblk hd1.v, (q1.Stanza : Int).toNat * 1, none⟩)), (4, 54, eh1.v), (5, 55, .pointer (some ⟨b1, 3, none⟩)), (6, 56, .int .i64 q1.In), (7, 57, .string line1)] mixed kr kr dc (by rfl) kr kr (DrawPre.cons ?_ (DrawPre.cons ?_ (DrawPre.cons ?_ (DrawPre.cons ?_ (DrawPre.cons ?_ (DrawPre.cons ?_ (DrawPre.cons ?_ (DrawPre.cons ?_ DrawPre.nil)))))))) ?_
     ·
      intro D hn hd hcl hu hi
      refine TO.move rfl dc (dl_old (by rfl) rfl) ?_
      exact TX.quiet 0 hu hi rfl
     ·
      intro D hn hd hcl hu hi
      refine TO.fieldAddr fl_36_2 rfl dc (dl_old (by rfl) rfl) (show _ = 2 from rfl) ?_
      exact TX.quiet 1 hu hi rfl
     ·
      intro D hn hd hcl hu hi
      refine TO.load (k := 1) sc_3 rfl dc (dl_lookup (m := 1) hu rfl (hd 1 dc)) rfl rfl ?_
      exact TX.quiet 2 hu hi rfl
     ·
      intro D hn hd hcl hu hi
      refine TO.indexVecI (k := 0) eq1 Tryd.underlying54 sz_48 rfl dc (dl_lookup (m := 0) hu rfl (hd 0 dc)) (dl_lookup (m := 2) hu rfl (hd 2 dc)) rfl rfl ?_
      exact TX.quiet 3 hu hi rfl
     ·
      intro D hn hd hcl hu hi
      refine TO.loadVec (i := (q1.Stanza : Int).toNat) (j := 0) (k := 0) (q := (x1, eh1)) sc_48 encN_T_string_len rfl dc (dl_lookup (m := 3) hu rfl (hd 3 dc)) rfl (getO_get eq1) rfl dc rfl ?_
      exact TX.quiet 4 hu hi rfl
     ·
      intro D hn hd hcl hu hi
      refine TO.fieldAddr fl_36_3 rfl dc (dl_old (by rfl) rfl) (show _ = 3 from rfl) ?_
      exact TX.quiet 5 hu hi rfl
     ·
      intro D hn hd hcl hu hi
      refine TO.load (k := 1) sc_3 rfl dc (dl_lookup (m := 5) hu rfl (hd 5 dc)) rfl rfl ?_
      exact TX.quiet 6 hu hi rfl
     ·
      intro D hn hd hcl hu hi
      refine TO.move rfl dc (dl_old (by rfl) rfl) ?_
      exact TX.quiet 7 hu hi rfl
     refine TO.indexVecI (k := 3) hq5 Tryd.underlying48 sz_9 rfl dc rfl rfl rfl rfl ?_
     refine TO.storeVec (i := (q1.In : Int).toNat) (j := 0) (k := 3) (q := q2) (q' := line1) sz_9 encS_len rfl rfl rfl rfl (getO_get hq5) rfl dc rfl (fun _ _ => rfl) ?_
     refine TO.nil (TX.next (TC.seq (TC.region (TO.move rfl dc rfl (TO.nilCheck rfl dc rfl (TO.fieldAddr fl_93_0 rfl dc rfl (show _ = 0 from rfl) (TO.fieldAddr fl_91_0 rfl dc rfl (show _ = 0 from rfl) (TO.loadRd (i := 0) hrd rfl sc_9 rfl dc rfl rfl (TO.move rfl dc rfl (TO.ent (k := 0) rfl (vec_setE (zs_self (getO_get eq1)).symm (q1 := (x1, eh1)) (q2 := (x1.set (q1.In : Int).toNat line1, eh1)) encN_T_string_len rfl) (TO.fold1 (k := 2) rfl (Splits.of [3] kr rfl) rfl (pushE (nest := nest_T_string) (zs := zs1) (z := (x1.set (q1.In : Int).toNat line1, eh1)) (set_get (getO_get eq1)) set_erase) ?_)))))))))))
     show TO _ _ _ _ _ _ _ _ _ _ [vec encN_T_string 48 1 hd1.v (zs1.set ((q1.Stanza : Int).toNat) (x1.set (q1.In : Int).toNat line1, eh1)), cells b1 [.string q1.Text, .int .i64 q1.Indent, .int .i64 q1.Stanza, .int .i64 q1.In, .int .i64 q1.Span_From, .int .i64 q1.Span_To] 36, own nest_T_string (zs1.set ((q1.Stanza : Int).toNat) (x1.set (q1.In : Int).toNat line1, eh1)), emp]
     refine TO.vecVw (k := 0) rfl (fun hw1 => ?_)
     obtain ⟨r3, hq6, h⟩ := andE h
     refine TO.callR (vs := [.string p1.told_title, hd1.v]) hrd rfl dc rfl rfl rfl en_62 (poem_made_fn (vstanzas1 := hd1) hw1 (zset hz1) hq6) Splits.nil (.own (As := [vec encN_T_string 48 1 hd1.v (zs1.set ((q1.Stanza : Int).toNat) (x1.set (q1.In : Int).toNat line1, eh1))]) (Splits.of [0] (by kernel_rfl) rfl) (fun _ _ h => roRow_vecK encN_T_string_len (sepL.one1.1 h)) (.own (As := [own nest_T_string (zs1.set ((q1.Stanza : Int).toNat) (x1.set (q1.In : Int).toNat line1, eh1))]) (Splits.of [2] (by kernel_rfl) rfl) (fun _ _ h => rdOwn_own gives_T_string (sepL.one1.1 h)) .nil)) ?_
     rintro v2
     show TO _ _ _ _ _ _ _ _ _ _ [vec encN_T_string 48 1 hd1.v (zs1.set ((q1.Stanza : Int).toNat) (x1.set (q1.In : Int).toNat line1, eh1)), cells b1 [.string q1.Text, .int .i64 q1.Indent, .int .i64 q1.Stanza, .int .i64 q1.In, .int .i64 q1.Span_From, .int .i64 q1.Span_To] 36, own nest_T_string (zs1.set ((q1.Stanza : Int).toNat) (x1.set (q1.In : Int).toNat line1, eh1)), emp, pobj encN_Gpoem_Poem nest_Gpoem_Poem 93 v2 r3.1]
     refine TO.weakenL (L' := [vec encN_T_string 48 1 hd1.v (zs1.set ((q1.Stanza : Int).toNat) (x1.set (q1.In : Int).toNat line1, eh1)), cells b1 [.string q1.Text, .int .i64 q1.Indent, .int .i64 q1.Stanza, .int .i64 q1.In, .int .i64 q1.Span_From, .int .i64 q1.Span_To] 36, own nest_T_string (zs1.set ((q1.Stanza : Int).toNat) (x1.set (q1.In : Int).toNat line1, eh1)), emp, pobj encN_Gpoem_Poem nest_Gpoem_Poem 93 v2 r3.1]) (Splits.of [0, 1, 2, 3, 4] kr rfl) (TO.extract rfl dc rfl rfl (TO.extract rfl dc rfl rfl (TO.assign rfl dc rfl (TO.assign rfl dc rfl (TO.nil (TX.next (TC.ret ?_)))))))
     cases h
     exact TX.fin (rs := [.tmp 6, .tmp 7]) v2 (.inl rfl) Tryd.results29 (.cons (.tmp rfl) (.cons (.tmp rfl) .nil)) rfl (Splits.of [4] kr rfl)
def poem_Poem_Cut_v (p1 : Gpoem_Poem) (from1 : Int) (to1 : Int) : Option ((Option Gpoem_Poem) × Int) := bcond (decide ((from1 : Int) < 0)) ( some (none, 5)
) ( bcond (decide ((to1 : Int) < from1)) ( some (none, 5)
) ( bcond (decide (((p1.told_lines.length : Int) : Int) < to1)) ( some (none, 5)
) ( andThen (poem_Poem_rows_v p1 from1 to1) fun (r1 : (List (List ByteArray))) => andThen (poem_made_v p1.told_title r1) fun (r2 : ((Option Gpoem_Poem) × Int)) => some (r2.1, r2.2)
)
)
)
set_option maxRecDepth 100000 in
set_option maxHeartbeats 4000000 in
theorem poem_Poem_Cut_fn {bp1 : Nat} {p1 : Gpoem_Poem} {p1_h0 p1_h1 : Hd} {from1 : Int} {to1 : Int} {r : ((Option Gpoem_Poem) × Int)} (h : poem_Poem_Cut_v p1 from1 to1 = some r) : FnR Tryd.prog 25 [.pointer (some ⟨bp1, 0, none⟩), .int .i64 from1, .int .i64 to1] [cells bp1 [.string p1.told_title, p1_h0.v, p1_h1.v, .string p1.source] 93, vec enc_Gapi_Verse 36 6 p1_h0.v p1.told_lines, vec enc_Gapi_Span 34 2 p1_h1.v p1.told_stanzas] [] (fun v0 : Value => .tuple #[v0, .int .i64 r.2]) (fun v0 => [pobj encN_Gpoem_Poem nest_Gpoem_Poem 93 v0 r.1]) := by
 unfold poem_Poem_Cut_v at h
 refine FnR.intro Tryd.func25 rfl Tryd.ntmps25 (by simp) ?_
 intro w0 K hrd
 refine TC.seq (TC.region (TO.assign rfl dc rfl (TO.assign rfl dc rfl (TO.nil (TX.next (TC.seq (TC.block (TC.seq (TC.region (TO.move rfl dc rfl (TO.bin rfl dc rfl rfl (bin_ptrnileqlR Tryd.underlying23) (TO.assign rfl dc rfl (TO.nil ?_)))))))))))))
 refine TX.next (TC.condF rfl (TC.seq (TC.region (TO.move rfl dc rfl (TO.bin rfl dc rfl rfl bin_lss (TO.move rfl dc rfl ?_))))))
 refine TO.split (s := 14) rfl (fun hb1 => ?_) (fun hb1 => ?_)
 ·
  have h := condT hb1 h
  refine TO.skip rfl dc (TO.skip rfl dc (TO.skip rfl dc (TO.pick (b := true) rfl dc rfl rfl (TO.move rfl dc rfl (TO.skip rfl dc (TO.skip rfl dc (TO.skip rfl dc (TO.skip rfl dc (TO.skip rfl dc (TO.skip rfl dc (TO.skip rfl dc (TO.skip rfl dc (TO.pick (b := true) rfl dc rfl rfl ?_)))))))))))))
  refine TO.assign rfl dc rfl (TO.nil (TX.next (TC.condT rfl (TC.seq (TC.region (TO.assign rfl dc rfl (TO.assign rfl dc rfl (TO.nil (TX.next (TC.ret (TX.blockRet (TX.thenRet (TX.newObj encN_Gpoem_Poem nest_Gpoem_Poem 93 ?_)))))))))))))
  show TX _ _ _ _ _ _ _ [pobj encN_Gpoem_Poem nest_Gpoem_Poem 93 (.pointer none) none]
  cases h
  exact TX.fin (rs := [.tmp 6, .tmp 7]) (.pointer none) (.inl rfl) Tryd.results25 (.cons (.tmp rfl) (.cons (.tmp rfl) .nil)) rfl (Splits.of [0] kr rfl)
 ·
  have h := condF hb1 h
  refine TO.move rfl dc rfl (TO.move rfl dc rfl (TO.bin rfl dc rfl rfl bin_lss (TO.pick (b := false) rfl dc rfl rfl (TO.move rfl dc rfl ?_))))
  refine TO.split (s := 19) rfl (fun hb2 => ?_) (fun hb2 => ?_)
  ·
   have h := condT hb2 h
   refine TO.skip rfl dc (TO.skip rfl dc (TO.skip rfl dc (TO.skip rfl dc (TO.skip rfl dc (TO.skip rfl dc (TO.skip rfl dc (TO.skip rfl dc (TO.pick (b := true) rfl dc rfl rfl (TO.assign rfl dc rfl (TO.nil (TX.next (TC.condT rfl (TC.seq ?_)))))))))))))
   refine TC.region (TO.assign rfl dc rfl (TO.assign rfl dc rfl (TO.nil (TX.next (TC.ret (TX.blockRet (TX.thenRet (TX.newObj encN_Gpoem_Poem nest_Gpoem_Poem 93 ?_))))))))
   show TX _ _ _ _ _ _ _ [pobj encN_Gpoem_Poem nest_Gpoem_Poem 93 (.pointer none) none]
   cases h
   exact TX.fin (rs := [.tmp 6, .tmp 7]) (.pointer none) (.inl rfl) Tryd.results25 (.cons (.tmp rfl) (.cons (.tmp rfl) .nil)) rfl (Splits.of [0] kr rfl)
  ·
   have h := condF hb2 h
   refine TO.move rfl dc rfl (TO.move rfl dc rfl (TO.nilCheck rfl dc rfl (TO.fieldAddr fl_93_0 rfl dc rfl (show _ = 0 from rfl) (TO.fieldAddr fl_91_1 rfl dc rfl (show _ = 1 from rfl) (TO.loadRd (i := 0) hrd rfl sc_57 rfl dc rfl rfl (TO.lenVw (hrd.vw (i := 1) rfl) rfl dc rfl Tryd.underlying57 (TO.bin rfl dc rfl rfl bin_gtr (TO.pick (b := false) rfl dc rfl rfl (TO.assign rfl dc rfl (TO.nil (TX.next ?_)))))))))))
   refine TC.condB rfl (fun hb3 => ?_) (fun hb3 => ?_)
   ·
    have h := condT hb3 h
    refine TC.seq (TC.region (TO.assign rfl dc rfl (TO.assign rfl dc rfl (TO.nil (TX.next (TC.ret (TX.blockRet (TX.thenRet (TX.newObj encN_Gpoem_Poem nest_Gpoem_Poem 93 ?_)))))))))
    show TX _ _ _ _ _ _ _ [pobj encN_Gpoem_Poem nest_Gpoem_Poem 93 (.pointer none) none]
    cases h
    exact TX.fin (rs := [.tmp 6, .tmp 7]) (.pointer none) (.inl rfl) Tryd.results25 (.cons (.tmp rfl) (.cons (.tmp rfl) .nil)) rfl (Splits.of [0] kr rfl)
   ·
    have h := condF hb3 h
    refine TC.skip (TX.blockNormal (TX.next (TC.seq ?_)))
    obtain ⟨r1, hq1, h⟩ := andE h
    obtain ⟨r2, hq2, h⟩ := andE h
    refine TC.pad 2 ?_
    show TC _ _ _ _ _ _ _ _ _ [emp, emp]
    refine let vals1 : (Hd × Value) → List (Nat × Nat × Value) := fun b => [(0, 29, .pointer (some ⟨bp1, 0, none⟩)), (1, 30, .pointer (some ⟨bp1, 0, none⟩)), (2, 31, .pointer (some ⟨bp1, 0, none⟩)), (3, 32, .pointer (some ⟨bp1, 0, none⟩)), (4, 33, .string p1.told_title), (5, 34, .pointer (some ⟨bp1, 0, none⟩)), (6, 35, .int .i64 from1), (7, 36, .int .i64 to1), (8, 37, b.1.v), (9, 38, .tuple #[b.2, .int .i64 r2.2]), (10, 39, b.2), (11, 40, .int .i64 r2.2)]; let LL1 : (Nat → Prop) → (Hd × Value) → List Asn := fun D b => [eD D emp [(8, vecN encN_T_string nest_T_string 48 1 b.1.v r1)], eD D emp [(9, pobj encN_Gpoem_Poem nest_Gpoem_Poem 93 b.2 r2.1)]]; ?_
    refine TC.drawG (β := Hd × Value) 12 (Hd.nil, (.slice none 0 0 : Value)) vals1 LL1 mixed kr kr dc (fun _ => rfl) (cons_eq eD_none (cons_eq eD_none rfl)) (DrawG.cons ?_ (DrawG.cons ?_ (DrawG.cons ?_ (DrawG.cons ?_ (DrawG.cons ?_ (DrawG.cons ?_ (DrawG.cons ?_ (DrawG.cons ?_ (DrawG.cons ?_ (DrawG.cons ?_ (DrawG.cons ?_ (DrawG.cons ?_ DrawG.nil)))))))))))) ?_
    ·
     intro D b hn hd hcl
     obtain ⟨hd1, v2⟩ := b
     refine TO.rewL (L' := [eD D emp [(8, vecN encN_T_string nest_T_string 48 1 hd1.v r1)], emp]) (cons_eq rfl (cons_eq (eD_miss (fun hD => hn (hcl 1 _ rfl (hcl 2 _ rfl (hcl 3 _ rfl (hcl 4 _ rfl (hcl 9 _ rfl hD 4 dc) 3 dc) 2 dc) 1 dc) 0 dc)) eD_nil) rfl)) ?_
     refine TO.move rfl dc (dl_old (by rfl) rfl) ?_
     exact TX.valG (hd1, v2) 0 (by rfl) (by rfl) rfl (dl_cons_eq (fun _ => rfl) (dl_cons_eq (fun _ => rfl) (dl_cons_eq (fun _ => rfl) (dl_cons_eq (fun _ => rfl) (dl_cons_eq (fun _ => rfl) (dl_cons_eq (fun _ => rfl) (dl_cons_eq (fun _ => rfl) (dl_cons_eq (fun _ => rfl) (dl_cons_eq (fun _ => rfl) (dl_cons_eq (fun _ => rfl) (dl_cons_eq (fun _ => rfl) (dl_cons_eq (fun _ => rfl) rfl)))))))))))) (cons_eq ((eD_skip (by rfl)).trans rfl) (cons_eq ((eD_skip (by rfl)).trans (eD_miss (fun hD => hn (hcl 1 _ rfl (hcl 2 _ rfl (hcl 3 _ rfl (hcl 4 _ rfl (hcl 9 _ rfl hD 4 dc) 3 dc) 2 dc) 1 dc) 0 dc)) eD_nil)) rfl))
    ·
     intro D b hn hd hcl
     obtain ⟨hd1, v2⟩ := b
     refine TO.rewL (L' := [eD D emp [(8, vecN encN_T_string nest_T_string 48 1 hd1.v r1)], emp]) (cons_eq rfl (cons_eq (eD_miss (fun hD => hn (hcl 2 _ rfl (hcl 3 _ rfl (hcl 4 _ rfl (hcl 9 _ rfl hD 4 dc) 3 dc) 2 dc) 1 dc)) eD_nil) rfl)) ?_
     refine TO.nilCheck rfl dc (dl_lookup (m := 0) rfl rfl (hd 0 dc)) ?_
     exact TX.valG (hd1, v2) 1 (by rfl) (by rfl) rfl (dl_cons_eq (fun _ => rfl) (dl_cons_eq (fun _ => rfl) (dl_cons_eq (fun _ => rfl) (dl_cons_eq (fun _ => rfl) (dl_cons_eq (fun _ => rfl) (dl_cons_eq (fun _ => rfl) (dl_cons_eq (fun _ => rfl) (dl_cons_eq (fun _ => rfl) (dl_cons_eq (fun _ => rfl) (dl_cons_eq (fun _ => rfl) (dl_cons_eq (fun _ => rfl) (dl_cons_eq (fun _ => rfl) rfl)))))))))))) (cons_eq ((eD_skip (by rfl)).trans rfl) (cons_eq ((eD_skip (by rfl)).trans (eD_miss (fun hD => hn (hcl 2 _ rfl (hcl 3 _ rfl (hcl 4 _ rfl (hcl 9 _ rfl hD 4 dc) 3 dc) 2 dc) 1 dc)) eD_nil)) rfl))
    ·
     intro D b hn hd hcl
     obtain ⟨hd1, v2⟩ := b
     refine TO.rewL (L' := [eD D emp [(8, vecN encN_T_string nest_T_string 48 1 hd1.v r1)], emp]) (cons_eq rfl (cons_eq (eD_miss (fun hD => hn (hcl 3 _ rfl (hcl 4 _ rfl (hcl 9 _ rfl hD 4 dc) 3 dc) 2 dc)) eD_nil) rfl)) ?_
     refine TO.fieldAddr fl_93_0 rfl dc (dl_lookup (m := 1) rfl rfl (hd 1 dc)) (show _ = 0 from rfl) ?_
     exact TX.valG (hd1, v2) 2 (by rfl) (by rfl) rfl (dl_cons_eq (fun _ => rfl) (dl_cons_eq (fun _ => rfl) (dl_cons_eq (fun _ => rfl) (dl_cons_eq (fun _ => rfl) (dl_cons_eq (fun _ => rfl) (dl_cons_eq (fun _ => rfl) (dl_cons_eq (fun _ => rfl) (dl_cons_eq (fun _ => rfl) (dl_cons_eq (fun _ => rfl) (dl_cons_eq (fun _ => rfl) (dl_cons_eq (fun _ => rfl) (dl_cons_eq (fun _ => rfl) rfl)))))))))))) (cons_eq ((eD_skip (by rfl)).trans rfl) (cons_eq ((eD_skip (by rfl)).trans (eD_miss (fun hD => hn (hcl 3 _ rfl (hcl 4 _ rfl (hcl 9 _ rfl hD 4 dc) 3 dc) 2 dc)) eD_nil)) rfl))
    ·
     intro D b hn hd hcl
     obtain ⟨hd1, v2⟩ := b
     refine TO.rewL (L' := [eD D emp [(8, vecN encN_T_string nest_T_string 48 1 hd1.v r1)], emp]) (cons_eq rfl (cons_eq (eD_miss (fun hD => hn (hcl 4 _ rfl (hcl 9 _ rfl hD 4 dc) 3 dc)) eD_nil) rfl)) ?_
     refine TO.fieldAddr fl_91_0 rfl dc (dl_lookup (m := 2) rfl rfl (hd 2 dc)) (show _ = 0 from rfl) ?_
     exact TX.valG (hd1, v2) 3 (by rfl) (by rfl) rfl (dl_cons_eq (fun _ => rfl) (dl_cons_eq (fun _ => rfl) (dl_cons_eq (fun _ => rfl) (dl_cons_eq (fun _ => rfl) (dl_cons_eq (fun _ => rfl) (dl_cons_eq (fun _ => rfl) (dl_cons_eq (fun _ => rfl) (dl_cons_eq (fun _ => rfl) (dl_cons_eq (fun _ => rfl) (dl_cons_eq (fun _ => rfl) (dl_cons_eq (fun _ => rfl) (dl_cons_eq (fun _ => rfl) rfl)))))))))))) (cons_eq ((eD_skip (by rfl)).trans rfl) (cons_eq ((eD_skip (by rfl)).trans (eD_miss (fun hD => hn (hcl 4 _ rfl (hcl 9 _ rfl hD 4 dc) 3 dc)) eD_nil)) rfl))
    ·
     intro D b hn hd hcl
     obtain ⟨hd1, v2⟩ := b
     refine TO.rewL (L' := [eD D emp [(8, vecN encN_T_string nest_T_string 48 1 hd1.v r1)], emp]) (cons_eq rfl (cons_eq (eD_miss (fun hD => hn (hcl 9 _ rfl hD 4 dc)) eD_nil) rfl)) ?_
     refine TO.loadRd (i := 0) hrd rfl sc_9 rfl dc (dl_lookup (m := 3) rfl rfl (hd 3 dc)) rfl ?_
     exact TX.valG (hd1, v2) 4 (by rfl) (by rfl) rfl (dl_cons_eq (fun _ => rfl) (dl_cons_eq (fun _ => rfl) (dl_cons_eq (fun _ => rfl) (dl_cons_eq (fun _ => rfl) (dl_cons_eq (fun _ => rfl) (dl_cons_eq (fun _ => rfl) (dl_cons_eq (fun _ => rfl) (dl_cons_eq (fun _ => rfl) (dl_cons_eq (fun _ => rfl) (dl_cons_eq (fun _ => rfl) (dl_cons_eq (fun _ => rfl) (dl_cons_eq (fun _ => rfl) rfl)))))))))))) (cons_eq ((eD_skip (by rfl)).trans rfl) (cons_eq ((eD_skip (by rfl)).trans (eD_miss (fun hD => hn (hcl 9 _ rfl hD 4 dc)) eD_nil)) rfl))
    ·
     intro D b hn hd hcl
     obtain ⟨hd1, v2⟩ := b
     refine TO.rewL (L' := [emp, emp]) (cons_eq (eD_miss (fun hD => hn (hcl 8 _ rfl hD 5 dc)) eD_nil) (cons_eq (eD_miss (fun hD => hn (hcl 8 _ rfl (hcl 9 _ rfl hD 8 dc) 5 dc)) eD_nil) rfl)) ?_
     refine TO.move rfl dc (dl_old (by rfl) rfl) ?_
     exact TX.valG (hd1, v2) 5 (by rfl) (by rfl) rfl (dl_cons_eq (fun _ => rfl) (dl_cons_eq (fun _ => rfl) (dl_cons_eq (fun _ => rfl) (dl_cons_eq (fun _ => rfl) (dl_cons_eq (fun _ => rfl) (dl_cons_eq (fun _ => rfl) (dl_cons_eq (fun _ => rfl) (dl_cons_eq (fun _ => rfl) (dl_cons_eq (fun _ => rfl) (dl_cons_eq (fun _ => rfl) (dl_cons_eq (fun _ => rfl) (dl_cons_eq (fun _ => rfl) rfl)))))))))))) (cons_eq ((eD_skip (by rfl)).trans (eD_miss (fun hD => hn (hcl 8 _ rfl hD 5 dc)) eD_nil)) (cons_eq ((eD_skip (by rfl)).trans (eD_miss (fun hD => hn (hcl 8 _ rfl (hcl 9 _ rfl hD 8 dc) 5 dc)) eD_nil)) rfl))
    ·
     intro D b hn hd hcl
     obtain ⟨hd1, v2⟩ := b
     refine TO.rewL (L' := [emp, emp]) (cons_eq (eD_miss (fun hD => hn (hcl 8 _ rfl hD 6 dc)) eD_nil) (cons_eq (eD_miss (fun hD => hn (hcl 8 _ rfl (hcl 9 _ rfl hD 8 dc) 6 dc)) eD_nil) rfl)) ?_
     refine TO.move rfl dc (dl_old (by rfl) rfl) ?_
     exact TX.valG (hd1, v2) 6 (by rfl) (by rfl) rfl (dl_cons_eq (fun _ => rfl) (dl_cons_eq (fun _ => rfl) (dl_cons_eq (fun _ => rfl) (dl_cons_eq (fun _ => rfl) (dl_cons_eq (fun _ => rfl) (dl_cons_eq (fun _ => rfl) (dl_cons_eq (fun _ => rfl) (dl_cons_eq (fun _ => rfl) (dl_cons_eq (fun _ => rfl) (dl_cons_eq (fun _ => rfl) (dl_cons_eq (fun _ => rfl) (dl_cons_eq (fun _ => rfl) rfl)))))))))))) (cons_eq ((eD_skip (by rfl)).trans (eD_miss (fun hD => hn (hcl 8 _ rfl hD 6 dc)) eD_nil)) (cons_eq ((eD_skip (by rfl)).trans (eD_miss (fun hD => hn (hcl 8 _ rfl (hcl 9 _ rfl hD 8 dc) 6 dc)) eD_nil)) rfl))
    ·
     intro D b hn hd hcl
     obtain ⟨hd1, v2⟩ := b
     refine TO.rewL (L' := [emp, emp]) (cons_eq (eD_miss (fun hD => hn (hcl 8 _ rfl hD 7 dc)) eD_nil) (cons_eq (eD_miss (fun hD => hn (hcl 8 _ rfl (hcl 9 _ rfl hD 8 dc) 7 dc)) eD_nil) rfl)) ?_
     refine TO.move rfl dc (dl_old (by rfl) rfl) ?_
     exact TX.valG (hd1, v2) 7 (by rfl) (by rfl) rfl (dl_cons_eq (fun _ => rfl) (dl_cons_eq (fun _ => rfl) (dl_cons_eq (fun _ => rfl) (dl_cons_eq (fun _ => rfl) (dl_cons_eq (fun _ => rfl) (dl_cons_eq (fun _ => rfl) (dl_cons_eq (fun _ => rfl) (dl_cons_eq (fun _ => rfl) (dl_cons_eq (fun _ => rfl) (dl_cons_eq (fun _ => rfl) (dl_cons_eq (fun _ => rfl) (dl_cons_eq (fun _ => rfl) rfl)))))))))))) (cons_eq ((eD_skip (by rfl)).trans (eD_miss (fun hD => hn (hcl 8 _ rfl hD 7 dc)) eD_nil)) (cons_eq ((eD_skip (by rfl)).trans (eD_miss (fun hD => hn (hcl 8 _ rfl (hcl 9 _ rfl hD 8 dc) 7 dc)) eD_nil)) rfl))
    ·
     intro D b hn hd hcl
     obtain ⟨_, v2⟩ := b
     refine TO.rewL (L' := [emp, emp]) (cons_eq (eD_miss hn eD_nil) (cons_eq (eD_miss (fun hD => hn (hcl 9 _ rfl hD 8 dc)) eD_nil) rfl)) ?_
     refine TO.callR (vs := [.pointer (some ⟨bp1, 0, none⟩), .int .i64 from1, .int .i64 to1]) hrd rfl dc rfl (evL.cons (dl_lookup (m := 5) rfl rfl (hd 5 dc)) (evL.cons (dl_lookup (m := 6) rfl rfl (hd 6 dc)) (evL.cons (dl_lookup (m := 7) rfl rfl (hd 7 dc)) evL.nil))) rfl en_61 (poem_Poem_rows_fn (bp1 := bp1) (p1 := p1) (p1_h0 := p1_h0) (p1_h1 := p1_h1) hq1) Splits.nil (.ro 0 rfl (.ro 1 rfl (.ro 2 rfl .nil))) ?_
     rintro v1
     show TO _ _ _ _ _ _ _ _ _ _ [emp, emp, vecN encN_T_string nest_T_string 48 1 v1 r1]
     refine TO.weakenL (L' := [emp, emp, vecN encN_T_string nest_T_string 48 1 v1 r1]) (Splits.of [0, 1, 2] kr rfl) ?_
     refine TO.nameHdN (k := 2) rfl (fun hd1 he1 => ?_)
     subst he1
     refine TO.place 0 rfl rfl ?_
     show TO _ _ _ _ _ _ _ _ _ _ [vecN encN_T_string nest_T_string 48 1 hd1.v r1, emp]
     exact TX.valG (hd1, v2) 8 (by rfl) (by rfl) rfl (dl_cons_eq (fun _ => rfl) (dl_cons_eq (fun _ => rfl) (dl_cons_eq (fun _ => rfl) (dl_cons_eq (fun _ => rfl) (dl_cons_eq (fun _ => rfl) (dl_cons_eq (fun _ => rfl) (dl_cons_eq (fun _ => rfl) (dl_cons_eq (fun _ => rfl) (dl_cons_eq (fun hD => absurd hD hn) (dl_cons_eq (fun _ => rfl) (dl_cons_eq (fun _ => rfl) (dl_cons_eq (fun _ => rfl) rfl)))))))))))) (cons_eq (eD_hit (Or.inr rfl) rfl) (cons_eq ((eD_skip (by rfl)).trans (eD_miss (fun hD => hn (hcl 9 _ rfl hD 8 dc)) eD_nil)) rfl))
    ·
     intro D b hn hd hcl
     obtain ⟨hd1, _⟩ := b
     refine TO.rewL (L' := [vecN encN_T_string nest_T_string 48 1 hd1.v r1, emp]) (cons_eq (eD_hit (hd 8 dc) rfl) (cons_eq (eD_miss hn eD_nil) rfl)) ?_
     refine TO.callR (vs := [.string p1.told_title, hd1.v]) hrd rfl dc rfl (evL.cons (dl_lookup (m := 4) rfl rfl (hd 4 dc)) (evL.cons (dl_lookup (m := 8) rfl rfl (hd 8 dc)) evL.nil)) rfl en_62 (FnR.closeN (nest := nest_T_string) (e := 48) (v := hd1.v) (xs := r1) (RD1 := []) (RD2 := []) encN_T_string_len gives_T_string (fun zs_c0 hz_c0 hV_c0 => (poem_made_fn (vstanzas1 := hd1) hV_c0 hz_c0 hq2))) Splits.nil (.own (Splits.of [0] (by kernel_rfl) rfl) (fun _ _ h => sepL.one1.1 h) .nil) ?_
     rintro v2
     show TO _ _ _ _ _ _ _ _ _ _ [vecN encN_T_string nest_T_string 48 1 hd1.v r1, emp, pobj encN_Gpoem_Poem nest_Gpoem_Poem 93 v2 r2.1]
     refine TO.weakenL (L' := [vecN encN_T_string nest_T_string 48 1 hd1.v r1, emp, pobj encN_Gpoem_Poem nest_Gpoem_Poem 93 v2 r2.1]) (Splits.of [0, 1, 2] kr rfl) (TO.place 1 rfl rfl ?_)
     show TO _ _ _ _ _ _ _ _ _ _ [vecN encN_T_string nest_T_string 48 1 hd1.v r1, pobj encN_Gpoem_Poem nest_Gpoem_Poem 93 v2 r2.1]
     exact TX.valG (hd1, v2) 9 (by rfl) (by rfl) rfl (dl_cons_eq (fun _ => rfl) (dl_cons_eq (fun _ => rfl) (dl_cons_eq (fun _ => rfl) (dl_cons_eq (fun _ => rfl) (dl_cons_eq (fun _ => rfl) (dl_cons_eq (fun _ => rfl) (dl_cons_eq (fun _ => rfl) (dl_cons_eq (fun _ => rfl) (dl_cons_eq (fun _ => rfl) (dl_cons_eq (fun hD => absurd hD hn) (dl_cons_eq (fun hD => absurd (hcl 10 _ rfl hD 9 dc) hn) (dl_cons_eq (fun _ => rfl) rfl)))))))))))) (cons_eq ((eD_skip (by rfl)).trans (eD_hit (hd 8 dc) rfl)) (cons_eq (eD_hit (Or.inr rfl) rfl) rfl))
    ·
     intro D b hn hd hcl
     obtain ⟨hd1, v2⟩ := b
     refine TO.rewL (L' := [vecN encN_T_string nest_T_string 48 1 hd1.v r1, pobj encN_Gpoem_Poem nest_Gpoem_Poem 93 v2 r2.1]) (cons_eq (eD_hit (hcl 9 _ rfl (hd 9 dc) 8 dc) rfl) (cons_eq (eD_hit (hd 9 dc) rfl) rfl)) (TO.extract rfl dc (dl_lookup (m := 9) rfl rfl (hd 9 dc)) rfl ?_)
     exact TX.valG (hd1, v2) 10 (by rfl) (by rfl) rfl (dl_cons_eq (fun _ => rfl) (dl_cons_eq (fun _ => rfl) (dl_cons_eq (fun _ => rfl) (dl_cons_eq (fun _ => rfl) (dl_cons_eq (fun _ => rfl) (dl_cons_eq (fun _ => rfl) (dl_cons_eq (fun _ => rfl) (dl_cons_eq (fun _ => rfl) (dl_cons_eq (fun _ => rfl) (dl_cons_eq (fun _ => rfl) (dl_cons_eq (fun _ => rfl) (dl_cons_eq (fun _ => rfl) rfl)))))))))))) (cons_eq ((eD_skip (by rfl)).trans (eD_hit (hcl 9 _ rfl (hd 9 dc) 8 dc) rfl)) (cons_eq ((eD_skip (by rfl)).trans (eD_hit (hd 9 dc) rfl)) rfl))
    ·
     intro D b hn hd hcl
     obtain ⟨hd1, v2⟩ := b
     refine TO.rewL (L' := [vecN encN_T_string nest_T_string 48 1 hd1.v r1, pobj encN_Gpoem_Poem nest_Gpoem_Poem 93 v2 r2.1]) (cons_eq (eD_hit (hcl 9 _ rfl (hd 9 dc) 8 dc) rfl) (cons_eq (eD_hit (hd 9 dc) rfl) rfl)) (TO.extract rfl dc (dl_lookup (m := 9) rfl rfl (hd 9 dc)) rfl ?_)
     exact TX.valG (hd1, v2) 11 (by rfl) (by rfl) rfl (dl_cons_eq (fun _ => rfl) (dl_cons_eq (fun _ => rfl) (dl_cons_eq (fun _ => rfl) (dl_cons_eq (fun _ => rfl) (dl_cons_eq (fun _ => rfl) (dl_cons_eq (fun _ => rfl) (dl_cons_eq (fun _ => rfl) (dl_cons_eq (fun _ => rfl) (dl_cons_eq (fun _ => rfl) (dl_cons_eq (fun _ => rfl) (dl_cons_eq (fun _ => rfl) (dl_cons_eq (fun _ => rfl) rfl)))))))))))) (cons_eq ((eD_skip (by rfl)).trans (eD_hit (hcl 9 _ rfl (hd 9 dc) 8 dc) rfl)) (cons_eq ((eD_skip (by rfl)).trans (eD_hit (hd 9 dc) rfl)) rfl))
    intro D b hall
    obtain ⟨hd1, v2⟩ := b
    refine TO.rewL (L' := [vecN encN_T_string nest_T_string 48 1 hd1.v r1, pobj encN_Gpoem_Poem nest_Gpoem_Poem 93 v2 r2.1]) (cons_eq (eD_hit (hall 8 dc) rfl) (cons_eq (eD_hit (hall 9 dc) rfl) rfl)) (TO.assign rfl dc rfl (TO.assign rfl dc rfl (TO.nil (TX.next (TC.ret ?_)))))
    cases h
    exact TX.fin (rs := [.tmp 6, .tmp 7]) v2 (.inl rfl) Tryd.results25 (.cons (.tmp rfl) (.cons (.tmp rfl) .nil)) rfl (Splits.of [1] kr rfl)
def poem_Poem_Join_v (p1 : Gpoem_Poem) (q1 : Gpoem_Poem) : Option ((Option Gpoem_Poem) × Int) := andThen (poem_Poem_rows_v p1 0 (p1.told_lines.length : Int)) fun (r1 : (List (List ByteArray))) => andThen (poem_Poem_rows_v q1 0 (q1.told_lines.length : Int)) fun (r2 : (List (List ByteArray))) => grd (r1.length + r2.length ≤ 2147483648) <| andThen (poem_made_v p1.told_title (r1 ++ r2)) fun (r3 : ((Option Gpoem_Poem) × Int)) => some (r3.1, r3.2)
set_option maxRecDepth 100000 in
set_option maxHeartbeats 4000000 in
theorem poem_Poem_Join_fn {bp1 : Nat} {p1 : Gpoem_Poem} {p1_h0 p1_h1 : Hd} {bq1 : Nat} {q1 : Gpoem_Poem} {q1_h0 q1_h1 : Hd} {r : ((Option Gpoem_Poem) × Int)} (h : poem_Poem_Join_v p1 q1 = some r) : FnR Tryd.prog 22 [.pointer (some ⟨bp1, 0, none⟩), .pointer (some ⟨bq1, 0, none⟩)] [cells bp1 [.string p1.told_title, p1_h0.v, p1_h1.v, .string p1.source] 93, vec enc_Gapi_Verse 36 6 p1_h0.v p1.told_lines, vec enc_Gapi_Span 34 2 p1_h1.v p1.told_stanzas, cells bq1 [.string q1.told_title, q1_h0.v, q1_h1.v, .string q1.source] 93, vec enc_Gapi_Verse 36 6 q1_h0.v q1.told_lines, vec enc_Gapi_Span 34 2 q1_h1.v q1.told_stanzas] [] (fun v0 : Value => .tuple #[v0, .int .i64 r.2]) (fun v0 => [pobj encN_Gpoem_Poem nest_Gpoem_Poem 93 v0 r.1]) := by
 unfold poem_Poem_Join_v at h
 refine FnR.intro Tryd.func22 rfl Tryd.ntmps22 (by simp) ?_
 intro w0 K hrd
 refine TC.seq (TC.region (TO.assign rfl dc rfl (TO.assign rfl dc rfl (TO.nil (TX.next (TC.seq (TC.seq (TC.region (TO.move rfl dc rfl (TO.bin rfl dc rfl rfl (bin_ptrnileqlR Tryd.underlying23) (TO.move rfl dc rfl (TO.move rfl dc rfl (TO.bin rfl dc rfl rfl (bin_ptrnileqlR Tryd.underlying23) ?_)))))))))))))
 refine TO.pick (b := false) rfl dc rfl rfl (TO.nil (TX.next (TC.condF rfl (TC.skip (TX.next (TC.seq ?_))))))
 obtain ⟨r1, hq1, h⟩ := andE h
 obtain ⟨r2, hq2, h⟩ := andE h
 obtain ⟨hg1, h⟩ := grdE h
 obtain ⟨r3, hq3, h⟩ := andE h
 refine TC.pad 5 ?_
 show TC _ _ _ _ _ _ _ _ _ [emp, emp, emp, emp, emp]
 refine let vals1 : (Hd × Hd × {zs : List ((List ByteArray) × Hd) // zs.map Prod.fst = r1} × {zs : List ((List ByteArray) × Hd) // zs.map Prod.fst = r2} × Hd × Value) → List (Nat × Nat × Value) := fun b => [(0, 12, .pointer (some ⟨bp1, 0, none⟩)), (1, 13, .pointer (some ⟨bp1, 0, none⟩)), (2, 14, .pointer (some ⟨bp1, 0, none⟩)), (3, 15, .pointer (some ⟨bp1, 0, none⟩)), (4, 16, .string p1.told_title), (5, 17, .pointer (some ⟨bp1, 0, none⟩)), (6, 18, .pointer (some ⟨bp1, 0, none⟩)), (7, 19, .pointer (some ⟨bp1, 0, none⟩)), (8, 20, .pointer (some ⟨bp1, 0, none⟩)), (9, 21, .pointer (some ⟨bp1, 1, none⟩)), (10, 22, p1_h0.v), (11, 23, .int .i64 (p1.told_lines.length : Int)), (12, 24, b.1.v), (13, 25, .pointer (some ⟨bq1, 0, none⟩)), (14, 26, .pointer (some ⟨bq1, 0, none⟩)), (15, 27, .pointer (some ⟨bq1, 0, none⟩)), (16, 28, .pointer (some ⟨bq1, 0, none⟩)), (17, 29, .pointer (some ⟨bq1, 1, none⟩)), (18, 30, q1_h0.v), (19, 31, .int .i64 (q1.told_lines.length : Int)), (20, 32, b.2.1.v), (21, 33, b.2.2.2.2.1.v), (22, 34, .tuple #[b.2.2.2.2.2, .int .i64 r3.2]), (23, 35, b.2.2.2.2.2), (24, 36, .int .i64 r3.2)]; let LL1 : (Nat → Prop) → (Hd × Hd × {zs : List ((List ByteArray) × Hd) // zs.map Prod.fst = r1} × {zs : List ((List ByteArray) × Hd) // zs.map Prod.fst = r2} × Hd × Value) → List Asn := fun D b => [eD D emp [(21, vecN encN_T_string nest_T_string 48 1 b.2.2.2.2.1.v (r1 ++ r2)), (12, vecN encN_T_string nest_T_string 48 1 b.1.v r1)], eD D emp [(21, vec encN_T_string 48 1 b.2.1.v b.2.2.2.1.1), (20, vecN encN_T_string nest_T_string 48 1 b.2.1.v r2)], eD D emp [(21, emp)], eD D emp [(21, emp)], eD D emp [(22, pobj encN_Gpoem_Poem nest_Gpoem_Poem 93 b.2.2.2.2.2 r3.1)]]; ?_
 refine TC.drawG (β := Hd × Hd × {zs : List ((List ByteArray) × Hd) // zs.map Prod.fst = r1} × {zs : List ((List ByteArray) × Hd) // zs.map Prod.fst = r2} × Hd × Value) 25 (Hd.nil, Hd.nil, ⟨r1.map (fun x => (x, Hd.nil)), zdef _ _⟩, ⟨r2.map (fun x => (x, Hd.nil)), zdef _ _⟩, Hd.nil, (.slice none 0 0 : Value)) vals1 LL1 mixed kr kr dc (fun _ => rfl) (cons_eq eD_none (cons_eq eD_none (cons_eq eD_none (cons_eq eD_none (cons_eq eD_none rfl))))) (DrawG.cons ?_ (DrawG.cons ?_ (DrawG.cons ?_ (DrawG.cons ?_ (DrawG.cons ?_ (DrawG.cons ?_ (DrawG.cons ?_ (DrawG.cons ?_ (DrawG.cons ?_ (DrawG.cons ?_ (DrawG.cons ?_ (DrawG.cons ?_ (DrawG.cons ?_ (DrawG.cons ?_ (DrawG.cons ?_ (DrawG.cons ?_ (DrawG.cons ?_ (DrawG.cons ?_ (DrawG.cons ?_ (DrawG.cons ?_ (DrawG.cons ?_ (DrawG.cons ?_ (DrawG.cons ?_ (DrawG.cons ?_ (DrawG.cons ?_ DrawG.nil))))))))))))))))))))))))) ?_
 ·
  intro D b hn hd hcl
  obtain ⟨hd1, hd2, ⟨zs1, hz1⟩, ⟨zs2, hz2⟩, hd3, v4⟩ := b
  refine TO.rewL (L' := [eD D emp [(21, vecN encN_T_string nest_T_string 48 1 hd3.v (r1 ++ r2)), (12, vecN encN_T_string nest_T_string 48 1 hd1.v r1)], eD D emp [(21, vec encN_T_string 48 1 hd2.v zs2), (20, vecN encN_T_string nest_T_string 48 1 hd2.v r2)], eD D emp [(21, emp)], eD D emp [(21, emp)], emp]) (cons_eq rfl (cons_eq rfl (cons_eq rfl (cons_eq rfl (cons_eq (eD_miss (fun hD => hn (hcl 1 _ rfl (hcl 2 _ rfl (hcl 3 _ rfl (hcl 4 _ rfl (hcl 22 _ rfl hD 4 dc) 3 dc) 2 dc) 1 dc) 0 dc)) eD_nil) rfl))))) ?_
  refine TO.move rfl dc (dl_old (by rfl) rfl) ?_
  exact TX.valG (hd1, hd2, ⟨zs1, hz1⟩, ⟨zs2, hz2⟩, hd3, v4) 0 (by rfl) (by rfl) rfl (dl_cons_eq (fun _ => rfl) (dl_cons_eq (fun _ => rfl) (dl_cons_eq (fun _ => rfl) (dl_cons_eq (fun _ => rfl) (dl_cons_eq (fun _ => rfl) (dl_cons_eq (fun _ => rfl) (dl_cons_eq (fun _ => rfl) (dl_cons_eq (fun _ => rfl) (dl_cons_eq (fun _ => rfl) (dl_cons_eq (fun _ => rfl) (dl_cons_eq (fun _ => rfl) (dl_cons_eq (fun _ => rfl) (dl_cons_eq (fun _ => rfl) (dl_cons_eq (fun _ => rfl) (dl_cons_eq (fun _ => rfl) (dl_cons_eq (fun _ => rfl) (dl_cons_eq (fun _ => rfl) (dl_cons_eq (fun _ => rfl) (dl_cons_eq (fun _ => rfl) (dl_cons_eq (fun _ => rfl) (dl_cons_eq (fun _ => rfl) (dl_cons_eq (fun _ => rfl) (dl_cons_eq (fun _ => rfl) (dl_cons_eq (fun _ => rfl) (dl_cons_eq (fun _ => rfl) rfl))))))))))))))))))))))))) (cons_eq ((eD_skip (by rfl)).trans rfl) (cons_eq ((eD_skip (by rfl)).trans rfl) (cons_eq ((eD_skip (by rfl)).trans rfl) (cons_eq ((eD_skip (by rfl)).trans rfl) (cons_eq ((eD_skip (by rfl)).trans (eD_miss (fun hD => hn (hcl 1 _ rfl (hcl 2 _ rfl (hcl 3 _ rfl (hcl 4 _ rfl (hcl 22 _ rfl hD 4 dc) 3 dc) 2 dc) 1 dc) 0 dc)) eD_nil)) rfl)))))
 ·
  intro D b hn hd hcl
  obtain ⟨hd1, hd2, ⟨zs1, hz1⟩, ⟨zs2, hz2⟩, hd3, v4⟩ := b
  refine TO.rewL (L' := [eD D emp [(21, vecN encN_T_string nest_T_string 48 1 hd3.v (r1 ++ r2)), (12, vecN encN_T_string nest_T_string 48 1 hd1.v r1)], eD D emp [(21, vec encN_T_string 48 1 hd2.v zs2), (20, vecN encN_T_string nest_T_string 48 1 hd2.v r2)], eD D emp [(21, emp)], eD D emp [(21, emp)], emp]) (cons_eq rfl (cons_eq rfl (cons_eq rfl (cons_eq rfl (cons_eq (eD_miss (fun hD => hn (hcl 2 _ rfl (hcl 3 _ rfl (hcl 4 _ rfl (hcl 22 _ rfl hD 4 dc) 3 dc) 2 dc) 1 dc)) eD_nil) rfl))))) ?_
  refine TO.nilCheck rfl dc (dl_lookup (m := 0) rfl rfl (hd 0 dc)) ?_
  exact TX.valG (hd1, hd2, ⟨zs1, hz1⟩, ⟨zs2, hz2⟩, hd3, v4) 1 (by rfl) (by rfl) rfl (dl_cons_eq (fun _ => rfl) (dl_cons_eq (fun _ => rfl) (dl_cons_eq (fun _ => rfl) (dl_cons_eq (fun _ => rfl) (dl_cons_eq (fun _ => rfl) (dl_cons_eq (fun _ => rfl) (dl_cons_eq (fun _ => rfl) (dl_cons_eq (fun _ => rfl) (dl_cons_eq (fun _ => rfl) (dl_cons_eq (fun _ => rfl) (dl_cons_eq (fun _ => rfl) (dl_cons_eq (fun _ => rfl) (dl_cons_eq (fun _ => rfl) (dl_cons_eq (fun _ => rfl) (dl_cons_eq (fun _ => rfl) (dl_cons_eq (fun _ => rfl) (dl_cons_eq (fun _ => rfl) (dl_cons_eq (fun _ => rfl) (dl_cons_eq (fun _ => rfl) (dl_cons_eq (fun _ => rfl) (dl_cons_eq (fun _ => rfl) (dl_cons_eq (fun _ => rfl) (dl_cons_eq (fun _ => rfl) (dl_cons_eq (fun _ => rfl) (dl_cons_eq (fun _ => rfl) rfl))))))))))))))))))))))))) (cons_eq ((eD_skip (by rfl)).trans rfl) (cons_eq ((eD_skip (by rfl)).trans rfl) (cons_eq ((eD_skip (by rfl)).trans rfl) (cons_eq ((eD_skip (by rfl)).trans rfl) (cons_eq ((eD_skip (by rfl)).trans (eD_miss (fun hD => hn (hcl 2 _ rfl (hcl 3 _ rfl (hcl 4 _ rfl (hcl 22 _ rfl hD 4 dc) 3 dc) 2 dc) 1 dc)) eD_nil)) rfl)))))
 ·
  intro D b hn hd hcl
  obtain ⟨hd1, hd2, ⟨zs1, hz1⟩, ⟨zs2, hz2⟩, hd3, v4⟩ := b
  refine TO.rewL (L' := [eD D emp [(21, vecN encN_T_string nest_T_string 48 1 hd3.v (r1 ++ r2)), (12, vecN encN_T_string nest_T_string 48 1 hd1.v r1)], eD D emp [(21, vec encN_T_string 48 1 hd2.v zs2), (20, vecN encN_T_string nest_T_string 48 1 hd2.v r2)], eD D emp [(21, emp)], eD D emp [(21, emp)], emp]) (cons_eq rfl (cons_eq rfl (cons_eq rfl (cons_eq rfl (cons_eq (eD_miss (fun hD => hn (hcl 3 _ rfl (hcl 4 _ rfl (hcl 22 _ rfl hD 4 dc) 3 dc) 2 dc)) eD_nil) rfl))))) ?_
  refine TO.fieldAddr fl_93_0 rfl dc (dl_lookup (m := 1) rfl rfl (hd 1 dc)) (show _ = 0 from rfl) ?_
  exact TX.valG (hd1, hd2, ⟨zs1, hz1⟩, ⟨zs2, hz2⟩, hd3, v4) 2 (by rfl) (by rfl) rfl (dl_cons_eq (fun _ => rfl) (dl_cons_eq (fun _ => rfl) (dl_cons_eq (fun _ => rfl) (dl_cons_eq (fun _ => rfl) (dl_cons_eq (fun _ => rfl) (dl_cons_eq (fun _ => rfl) (dl_cons_eq (fun _ => rfl) (dl_cons_eq (fun _ => rfl) (dl_cons_eq (fun _ => rfl) (dl_cons_eq (fun _ => rfl) (dl_cons_eq (fun _ => rfl) (dl_cons_eq (fun _ => rfl) (dl_cons_eq (fun _ => rfl) (dl_cons_eq (fun _ => rfl) (dl_cons_eq (fun _ => rfl) (dl_cons_eq (fun _ => rfl) (dl_cons_eq (fun _ => rfl) (dl_cons_eq (fun _ => rfl) (dl_cons_eq (fun _ => rfl) (dl_cons_eq (fun _ => rfl) (dl_cons_eq (fun _ => rfl) (dl_cons_eq (fun _ => rfl) (dl_cons_eq (fun _ => rfl) (dl_cons_eq (fun _ => rfl) (dl_cons_eq (fun _ => rfl) rfl))))))))))))))))))))))))) (cons_eq ((eD_skip (by rfl)).trans rfl) (cons_eq ((eD_skip (by rfl)).trans rfl) (cons_eq ((eD_skip (by rfl)).trans rfl) (cons_eq ((eD_skip (by rfl)).trans rfl) (cons_eq ((eD_skip (by rfl)).trans (eD_miss (fun hD => hn (hcl 3 _ rfl (hcl 4 _ rfl (hcl 22 _ rfl hD 4 dc) 3 dc) 2 dc)) eD_nil)) rfl)))))
 ·
  intro D b hn hd hcl
  obtain ⟨hd1, hd2, ⟨zs1, hz1⟩, ⟨zs2, hz2⟩, hd3, v4⟩ := b
  refine TO.rewL (L' := [eD D emp [(21, vecN encN_T_string nest_T_string 48 1 hd3.v (r1 ++ r2)), (12, vecN encN_T_string nest_T_string 48 1 hd1.v r1)], eD D emp [(21, vec encN_T_string 48 1 hd2.v zs2), (20, vecN encN_T_string nest_T_string 48 1 hd2.v r2)], eD D emp [(21, emp)], eD D emp [(21, emp)], emp]) (cons_eq rfl (cons_eq rfl (cons_eq rfl (cons_eq rfl (cons_eq (eD_miss (fun hD => hn (hcl 4 _ rfl (hcl 22 _ rfl hD 4 dc) 3 dc)) eD_nil) rfl))))) ?_
  refine TO.fieldAddr fl_91_0 rfl dc (dl_lookup (m := 2) rfl rfl (hd 2 dc)) (show _ = 0 from rfl) ?_
  exact TX.valG (hd1, hd2, ⟨zs1, hz1⟩, ⟨zs2, hz2⟩, hd3, v4) 3 (by rfl) (by rfl) rfl (dl_cons_eq (fun _ => rfl) (dl_cons_eq (fun _ => rfl) (dl_cons_eq (fun _ => rfl) (dl_cons_eq (fun _ => rfl) (dl_cons_eq (fun _ => rfl) (dl_cons_eq (fun _ => rfl) (dl_cons_eq (fun _ => rfl) (dl_cons_eq (fun _ => rfl) (dl_cons_eq (fun _ => rfl) (dl_cons_eq (fun _ => rfl) (dl_cons_eq (fun _ => rfl) (dl_cons_eq (fun _ => rfl) (dl_cons_eq (fun _ => rfl) (dl_cons_eq (fun _ => rfl) (dl_cons_eq (fun _ => rfl) (dl_cons_eq (fun _ => rfl) (dl_cons_eq (fun _ => rfl) (dl_cons_eq (fun _ => rfl) (dl_cons_eq (fun _ => rfl) (dl_cons_eq (fun _ => rfl) (dl_cons_eq (fun _ => rfl) (dl_cons_eq (fun _ => rfl) (dl_cons_eq (fun _ => rfl) (dl_cons_eq (fun _ => rfl) (dl_cons_eq (fun _ => rfl) rfl))))))))))))))))))))))))) (cons_eq ((eD_skip (by rfl)).trans rfl) (cons_eq ((eD_skip (by rfl)).trans rfl) (cons_eq ((eD_skip (by rfl)).trans rfl) (cons_eq ((eD_skip (by rfl)).trans rfl) (cons_eq ((eD_skip (by rfl)).trans (eD_miss (fun hD => hn (hcl 4 _ rfl (hcl 22 _ rfl hD 4 dc) 3 dc)) eD_nil)) rfl)))))
 ·
  intro D b hn hd hcl
  obtain ⟨hd1, hd2, ⟨zs1, hz1⟩, ⟨zs2, hz2⟩, hd3, v4⟩ := b
  refine TO.rewL (L' := [eD D emp [(21, vecN encN_T_string nest_T_string 48 1 hd3.v (r1 ++ r2)), (12, vecN encN_T_string nest_T_string 48 1 hd1.v r1)], eD D emp [(21, vec encN_T_string 48 1 hd2.v zs2), (20, vecN encN_T_string nest_T_string 48 1 hd2.v r2)], eD D emp [(21, emp)], eD D emp [(21, emp)], emp]) (cons_eq rfl (cons_eq rfl (cons_eq rfl (cons_eq rfl (cons_eq (eD_miss (fun hD => hn (hcl 22 _ rfl hD 4 dc)) eD_nil) rfl))))) ?_
  refine TO.loadRd (i := 0) hrd rfl sc_9 rfl dc (dl_lookup (m := 3) rfl rfl (hd 3 dc)) rfl ?_
  exact TX.valG (hd1, hd2, ⟨zs1, hz1⟩, ⟨zs2, hz2⟩, hd3, v4) 4 (by rfl) (by rfl) rfl (dl_cons_eq (fun _ => rfl) (dl_cons_eq (fun _ => rfl) (dl_cons_eq (fun _ => rfl) (dl_cons_eq (fun _ => rfl) (dl_cons_eq (fun _ => rfl) (dl_cons_eq (fun _ => rfl) (dl_cons_eq (fun _ => rfl) (dl_cons_eq (fun _ => rfl) (dl_cons_eq (fun _ => rfl) (dl_cons_eq (fun _ => rfl) (dl_cons_eq (fun _ => rfl) (dl_cons_eq (fun _ => rfl) (dl_cons_eq (fun _ => rfl) (dl_cons_eq (fun _ => rfl) (dl_cons_eq (fun _ => rfl) (dl_cons_eq (fun _ => rfl) (dl_cons_eq (fun _ => rfl) (dl_cons_eq (fun _ => rfl) (dl_cons_eq (fun _ => rfl) (dl_cons_eq (fun _ => rfl) (dl_cons_eq (fun _ => rfl) (dl_cons_eq (fun _ => rfl) (dl_cons_eq (fun _ => rfl) (dl_cons_eq (fun _ => rfl) (dl_cons_eq (fun _ => rfl) rfl))))))))))))))))))))))))) (cons_eq ((eD_skip (by rfl)).trans rfl) (cons_eq ((eD_skip (by rfl)).trans rfl) (cons_eq ((eD_skip (by rfl)).trans rfl) (cons_eq ((eD_skip (by rfl)).trans rfl) (cons_eq ((eD_skip (by rfl)).trans (eD_miss (fun hD => hn (hcl 22 _ rfl hD 4 dc)) eD_nil)) rfl)))))
 ·
  intro D b hn hd hcl
  obtain ⟨hd1, hd2, ⟨zs1, hz1⟩, ⟨zs2, hz2⟩, hd3, v4⟩ := b
  refine TO.rewL (L' := [emp, emp, emp, emp, emp]) (cons_eq (eD_miss (fun hD => hn (hcl 12 _ rfl (hcl 21 _ rfl hD 12 dc) 5 dc)) (eD_miss (fun hD => hn (hcl 12 _ rfl hD 5 dc)) eD_nil)) (cons_eq (eD_miss (fun hD => hn (hcl 12 _ rfl (hcl 21 _ rfl hD 12 dc) 5 dc)) (eD_miss (fun hD => hn (hcl 12 _ rfl (hcl 20 _ rfl hD 12 dc) 5 dc)) eD_nil)) (cons_eq (eD_miss (fun hD => hn (hcl 12 _ rfl (hcl 21 _ rfl hD 12 dc) 5 dc)) eD_nil) (cons_eq (eD_miss (fun hD => hn (hcl 12 _ rfl (hcl 21 _ rfl hD 12 dc) 5 dc)) eD_nil) (cons_eq (eD_miss (fun hD => hn (hcl 12 _ rfl (hcl 21 _ rfl (hcl 22 _ rfl hD 21 dc) 12 dc) 5 dc)) eD_nil) rfl))))) ?_
  refine TO.move rfl dc (dl_old (by rfl) rfl) ?_
  exact TX.valG (hd1, hd2, ⟨zs1, hz1⟩, ⟨zs2, hz2⟩, hd3, v4) 5 (by rfl) (by rfl) rfl (dl_cons_eq (fun _ => rfl) (dl_cons_eq (fun _ => rfl) (dl_cons_eq (fun _ => rfl) (dl_cons_eq (fun _ => rfl) (dl_cons_eq (fun _ => rfl) (dl_cons_eq (fun _ => rfl) (dl_cons_eq (fun _ => rfl) (dl_cons_eq (fun _ => rfl) (dl_cons_eq (fun _ => rfl) (dl_cons_eq (fun _ => rfl) (dl_cons_eq (fun _ => rfl) (dl_cons_eq (fun _ => rfl) (dl_cons_eq (fun _ => rfl) (dl_cons_eq (fun _ => rfl) (dl_cons_eq (fun _ => rfl) (dl_cons_eq (fun _ => rfl) (dl_cons_eq (fun _ => rfl) (dl_cons_eq (fun _ => rfl) (dl_cons_eq (fun _ => rfl) (dl_cons_eq (fun _ => rfl) (dl_cons_eq (fun _ => rfl) (dl_cons_eq (fun _ => rfl) (dl_cons_eq (fun _ => rfl) (dl_cons_eq (fun _ => rfl) (dl_cons_eq (fun _ => rfl) rfl))))))))))))))))))))))))) (cons_eq ((eD_skip (by rfl)).trans (eD_miss (fun hD => hn (hcl 12 _ rfl (hcl 21 _ rfl hD 12 dc) 5 dc)) (eD_miss (fun hD => hn (hcl 12 _ rfl hD 5 dc)) eD_nil))) (cons_eq ((eD_skip (by rfl)).trans (eD_miss (fun hD => hn (hcl 12 _ rfl (hcl 21 _ rfl hD 12 dc) 5 dc)) (eD_miss (fun hD => hn (hcl 12 _ rfl (hcl 20 _ rfl hD 12 dc) 5 dc)) eD_nil))) (cons_eq ((eD_skip (by rfl)).trans (eD_miss (fun hD => hn (hcl 12 _ rfl (hcl 21 _ rfl hD 12 dc) 5 dc)) eD_nil)) (cons_eq ((eD_skip (by rfl)).trans (eD_miss (fun hD => hn (hcl 12 _ rfl (hcl 21 _ rfl hD 12 dc) 5 dc)) eD_nil)) (cons_eq ((eD_skip (by rfl)).trans (eD_miss (fun hD => hn (hcl 12 _ rfl (hcl 21 _ rfl (hcl 22 _ rfl hD 21 dc) 12 dc) 5 dc)) eD_nil)) rfl)))))
 ·
  intro D b hn hd hcl
  obtain ⟨hd1, hd2, ⟨zs1, hz1⟩, ⟨zs2, hz2⟩, hd3, v4⟩ := b
  refine TO.rewL (L' := [emp, emp, emp, emp, emp]) (cons_eq (eD_miss (fun hD => hn (hcl 7 _ rfl (hcl 8 _ rfl (hcl 9 _ rfl (hcl 10 _ rfl (hcl 11 _ rfl (hcl 12 _ rfl (hcl 21 _ rfl hD 12 dc) 11 dc) 10 dc) 9 dc) 8 dc) 7 dc) 6 dc)) (eD_miss (fun hD => hn (hcl 7 _ rfl (hcl 8 _ rfl (hcl 9 _ rfl (hcl 10 _ rfl (hcl 11 _ rfl (hcl 12 _ rfl hD 11 dc) 10 dc) 9 dc) 8 dc) 7 dc) 6 dc)) eD_nil)) (cons_eq (eD_miss (fun hD => hn (hcl 7 _ rfl (hcl 8 _ rfl (hcl 9 _ rfl (hcl 10 _ rfl (hcl 11 _ rfl (hcl 12 _ rfl (hcl 21 _ rfl hD 12 dc) 11 dc) 10 dc) 9 dc) 8 dc) 7 dc) 6 dc)) (eD_miss (fun hD => hn (hcl 7 _ rfl (hcl 8 _ rfl (hcl 9 _ rfl (hcl 10 _ rfl (hcl 11 _ rfl (hcl 12 _ rfl (hcl 20 _ rfl hD 12 dc) 11 dc) 10 dc) 9 dc) 8 dc) 7 dc) 6 dc)) eD_nil)) (cons_eq (eD_miss (fun hD => hn (hcl 7 _ rfl (hcl 8 _ rfl (hcl 9 _ rfl (hcl 10 _ rfl (hcl 11 _ rfl (hcl 12 _ rfl (hcl 21 _ rfl hD 12 dc) 11 dc) 10 dc) 9 dc) 8 dc) 7 dc) 6 dc)) eD_nil) (cons_eq (eD_miss (fun hD => hn (hcl 7 _ rfl (hcl 8 _ rfl (hcl 9 _ rfl (hcl 10 _ rfl (hcl 11 _ rfl (hcl 12 _ rfl (hcl 21 _ rfl hD 12 dc) 11 dc) 10 dc) 9 dc) 8 dc) 7 dc) 6 dc)) eD_nil) (cons_eq (eD_miss (fun hD => hn (hcl 7 _ rfl (hcl 8 _ rfl (hcl 9 _ rfl (hcl 10 _ rfl (hcl 11 _ rfl (hcl 12 _ rfl (hcl 21 _ rfl (hcl 22 _ rfl hD 21 dc) 12 dc) 11 dc) 10 dc) 9 dc) 8 dc) 7 dc) 6 dc)) eD_nil) rfl))))) ?_
  refine TO.move rfl dc (dl_old (by rfl) rfl) ?_
  exact TX.valG (hd1, hd2, ⟨zs1, hz1⟩, ⟨zs2, hz2⟩, hd3, v4) 6 (by rfl) (by rfl) rfl (dl_cons_eq (fun _ => rfl) (dl_cons_eq (fun _ => rfl) (dl_cons_eq (fun _ => rfl) (dl_cons_eq (fun _ => rfl) (dl_cons_eq (fun _ => rfl) (dl_cons_eq (fun _ => rfl) (dl_cons_eq (fun _ => rfl) (dl_cons_eq (fun _ => rfl) (dl_cons_eq (fun _ => rfl) (dl_cons_eq (fun _ => rfl) (dl_cons_eq (fun _ => rfl) (dl_cons_eq (fun _ => rfl) (dl_cons_eq (fun _ => rfl) (dl_cons_eq (fun _ => rfl) (dl_cons_eq (fun _ => rfl) (dl_cons_eq (fun _ => rfl) (dl_cons_eq (fun _ => rfl) (dl_cons_eq (fun _ => rfl) (dl_cons_eq (fun _ => rfl) (dl_cons_eq (fun _ => rfl) (dl_cons_eq (fun _ => rfl) (dl_cons_eq (fun _ => rfl) (dl_cons_eq (fun _ => rfl) (dl_cons_eq (fun _ => rfl) (dl_cons_eq (fun _ => rfl) rfl))))))))))))))))))))))))) (cons_eq ((eD_skip (by rfl)).trans (eD_miss (fun hD => hn (hcl 7 _ rfl (hcl 8 _ rfl (hcl 9 _ rfl (hcl 10 _ rfl (hcl 11 _ rfl (hcl 12 _ rfl (hcl 21 _ rfl hD 12 dc) 11 dc) 10 dc) 9 dc) 8 dc) 7 dc) 6 dc)) (eD_miss (fun hD => hn (hcl 7 _ rfl (hcl 8 _ rfl (hcl 9 _ rfl (hcl 10 _ rfl (hcl 11 _ rfl (hcl 12 _ rfl hD 11 dc) 10 dc) 9 dc) 8 dc) 7 dc) 6 dc)) eD_nil))) (cons_eq ((eD_skip (by rfl)).trans (eD_miss (fun hD => hn (hcl 7 _ rfl (hcl 8 _ rfl (hcl 9 _ rfl (hcl 10 _ rfl (hcl 11 _ rfl (hcl 12 _ rfl (hcl 21 _ rfl hD 12 dc) 11 dc) 10 dc) 9 dc) 8 dc) 7 dc) 6 dc)) (eD_miss (fun hD => hn (hcl 7 _ rfl (hcl 8 _ rfl (hcl 9 _ rfl (hcl 10 _ rfl (hcl 11 _ rfl (hcl 12 _ rfl (hcl 20 _ rfl hD 12 dc) 11 dc) 10 dc) 9 dc) 8 dc) 7 dc) 6 dc)) eD_nil))) (cons_eq ((eD_skip (by rfl)).trans (eD_miss (fun hD => hn (hcl 7 _ rfl (hcl 8 _ rfl (hcl 9 _ rfl (hcl 10 _ rfl (hcl 11 _ rfl (hcl 12 _ rfl (hcl 21 _ rfl hD 12 dc) 11 dc) 10 dc) 9 dc) 8 dc) 7 dc) 6 dc)) eD_nil)) (cons_eq ((eD_skip (by rfl)).trans (eD_miss (fun hD => hn (hcl 7 _ rfl (hcl 8 _ rfl (hcl 9 _ rfl (hcl 10 _ rfl (hcl 11 _ rfl (hcl 12 _ rfl (hcl 21 _ rfl hD 12 dc) 11 dc) 10 dc) 9 dc) 8 dc) 7 dc) 6 dc)) eD_nil)) (cons_eq ((eD_skip (by rfl)).trans (eD_miss (fun hD => hn (hcl 7 _ rfl (hcl 8 _ rfl (hcl 9 _ rfl (hcl 10 _ rfl (hcl 11 _ rfl (hcl 12 _ rfl (hcl 21 _ rfl (hcl 22 _ rfl hD 21 dc) 12 dc) 11 dc) 10 dc) 9 dc) 8 dc) 7 dc) 6 dc)) eD_nil)) rfl)))))
 ·
  intro D b hn hd hcl
  obtain ⟨hd1, hd2, ⟨zs1, hz1⟩, ⟨zs2, hz2⟩, hd3, v4⟩ := b
  refine TO.rewL (L' := [emp, emp, emp, emp, emp]) (cons_eq (eD_miss (fun hD => hn (hcl 8 _ rfl (hcl 9 _ rfl (hcl 10 _ rfl (hcl 11 _ rfl (hcl 12 _ rfl (hcl 21 _ rfl hD 12 dc) 11 dc) 10 dc) 9 dc) 8 dc) 7 dc)) (eD_miss (fun hD => hn (hcl 8 _ rfl (hcl 9 _ rfl (hcl 10 _ rfl (hcl 11 _ rfl (hcl 12 _ rfl hD 11 dc) 10 dc) 9 dc) 8 dc) 7 dc)) eD_nil)) (cons_eq (eD_miss (fun hD => hn (hcl 8 _ rfl (hcl 9 _ rfl (hcl 10 _ rfl (hcl 11 _ rfl (hcl 12 _ rfl (hcl 21 _ rfl hD 12 dc) 11 dc) 10 dc) 9 dc) 8 dc) 7 dc)) (eD_miss (fun hD => hn (hcl 8 _ rfl (hcl 9 _ rfl (hcl 10 _ rfl (hcl 11 _ rfl (hcl 12 _ rfl (hcl 20 _ rfl hD 12 dc) 11 dc) 10 dc) 9 dc) 8 dc) 7 dc)) eD_nil)) (cons_eq (eD_miss (fun hD => hn (hcl 8 _ rfl (hcl 9 _ rfl (hcl 10 _ rfl (hcl 11 _ rfl (hcl 12 _ rfl (hcl 21 _ rfl hD 12 dc) 11 dc) 10 dc) 9 dc) 8 dc) 7 dc)) eD_nil) (cons_eq (eD_miss (fun hD => hn (hcl 8 _ rfl (hcl 9 _ rfl (hcl 10 _ rfl (hcl 11 _ rfl (hcl 12 _ rfl (hcl 21 _ rfl hD 12 dc) 11 dc) 10 dc) 9 dc) 8 dc) 7 dc)) eD_nil) (cons_eq (eD_miss (fun hD => hn (hcl 8 _ rfl (hcl 9 _ rfl (hcl 10 _ rfl (hcl 11 _ rfl (hcl 12 _ rfl (hcl 21 _ rfl (hcl 22 _ rfl hD 21 dc) 12 dc) 11 dc) 10 dc) 9 dc) 8 dc) 7 dc)) eD_nil) rfl))))) ?_
  refine TO.nilCheck rfl dc (dl_lookup (m := 6) rfl rfl (hd 6 dc)) ?_
  exact TX.valG (hd1, hd2, ⟨zs1, hz1⟩, ⟨zs2, hz2⟩, hd3, v4) 7 (by rfl) (by rfl) rfl (dl_cons_eq (fun _ => rfl) (dl_cons_eq (fun _ => rfl) (dl_cons_eq (fun _ => rfl) (dl_cons_eq (fun _ => rfl) (dl_cons_eq (fun _ => rfl) (dl_cons_eq (fun _ => rfl) (dl_cons_eq (fun _ => rfl) (dl_cons_eq (fun _ => rfl) (dl_cons_eq (fun _ => rfl) (dl_cons_eq (fun _ => rfl) (dl_cons_eq (fun _ => rfl) (dl_cons_eq (fun _ => rfl) (dl_cons_eq (fun _ => rfl) (dl_cons_eq (fun _ => rfl) (dl_cons_eq (fun _ => rfl) (dl_cons_eq (fun _ => rfl) (dl_cons_eq (fun _ => rfl) (dl_cons_eq (fun _ => rfl) (dl_cons_eq (fun _ => rfl) (dl_cons_eq (fun _ => rfl) (dl_cons_eq (fun _ => rfl) (dl_cons_eq (fun _ => rfl) (dl_cons_eq (fun _ => rfl) (dl_cons_eq (fun _ => rfl) (dl_cons_eq (fun _ => rfl) rfl))))))))))))))))))))))))) (cons_eq ((eD_skip (by rfl)).trans (eD_miss (fun hD => hn (hcl 8 _ rfl (hcl 9 _ rfl (hcl 10 _ rfl (hcl 11 _ rfl (hcl 12 _ rfl (hcl 21 _ rfl hD 12 dc) 11 dc) 10 dc) 9 dc) 8 dc) 7 dc)) (eD_miss (fun hD => hn (hcl 8 _ rfl (hcl 9 _ rfl (hcl 10 _ rfl (hcl 11 _ rfl (hcl 12 _ rfl hD 11 dc) 10 dc) 9 dc) 8 dc) 7 dc)) eD_nil))) (cons_eq ((eD_skip (by rfl)).trans (eD_miss (fun hD => hn (hcl 8 _ rfl (hcl 9 _ rfl (hcl 10 _ rfl (hcl 11 _ rfl (hcl 12 _ rfl (hcl 21 _ rfl hD 12 dc) 11 dc) 10 dc) 9 dc) 8 dc) 7 dc)) (eD_miss (fun hD => hn (hcl 8 _ rfl (hcl 9 _ rfl (hcl 10 _ rfl (hcl 11 _ rfl (hcl 12 _ rfl (hcl 20 _ rfl hD 12 dc) 11 dc) 10 dc) 9 dc) 8 dc) 7 dc)) eD_nil))) (cons_eq ((eD_skip (by rfl)).trans (eD_miss (fun hD => hn (hcl 8 _ rfl (hcl 9 _ rfl (hcl 10 _ rfl (hcl 11 _ rfl (hcl 12 _ rfl (hcl 21 _ rfl hD 12 dc) 11 dc) 10 dc) 9 dc) 8 dc) 7 dc)) eD_nil)) (cons_eq ((eD_skip (by rfl)).trans (eD_miss (fun hD => hn (hcl 8 _ rfl (hcl 9 _ rfl (hcl 10 _ rfl (hcl 11 _ rfl (hcl 12 _ rfl (hcl 21 _ rfl hD 12 dc) 11 dc) 10 dc) 9 dc) 8 dc) 7 dc)) eD_nil)) (cons_eq ((eD_skip (by rfl)).trans (eD_miss (fun hD => hn (hcl 8 _ rfl (hcl 9 _ rfl (hcl 10 _ rfl (hcl 11 _ rfl (hcl 12 _ rfl (hcl 21 _ rfl (hcl 22 _ rfl hD 21 dc) 12 dc) 11 dc) 10 dc) 9 dc) 8 dc) 7 dc)) eD_nil)) rfl)))))
 ·
  intro D b hn hd hcl
  obtain ⟨hd1, hd2, ⟨zs1, hz1⟩, ⟨zs2, hz2⟩, hd3, v4⟩ := b
  refine TO.rewL (L' := [emp, emp, emp, emp, emp]) (cons_eq (eD_miss (fun hD => hn (hcl 9 _ rfl (hcl 10 _ rfl (hcl 11 _ rfl (hcl 12 _ rfl (hcl 21 _ rfl hD 12 dc) 11 dc) 10 dc) 9 dc) 8 dc)) (eD_miss (fun hD => hn (hcl 9 _ rfl (hcl 10 _ rfl (hcl 11 _ rfl (hcl 12 _ rfl hD 11 dc) 10 dc) 9 dc) 8 dc)) eD_nil)) (cons_eq (eD_miss (fun hD => hn (hcl 9 _ rfl (hcl 10 _ rfl (hcl 11 _ rfl (hcl 12 _ rfl (hcl 21 _ rfl hD 12 dc) 11 dc) 10 dc) 9 dc) 8 dc)) (eD_miss (fun hD => hn (hcl 9 _ rfl (hcl 10 _ rfl (hcl 11 _ rfl (hcl 12 _ rfl (hcl 20 _ rfl hD 12 dc) 11 dc) 10 dc) 9 dc) 8 dc)) eD_nil)) (cons_eq (eD_miss (fun hD => hn (hcl 9 _ rfl (hcl 10 _ rfl (hcl 11 _ rfl (hcl 12 _ rfl (hcl 21 _ rfl hD 12 dc) 11 dc) 10 dc) 9 dc) 8 dc)) eD_nil) (cons_eq (eD_miss (fun hD => hn (hcl 9 _ rfl (hcl 10 _ rfl (hcl 11 _ rfl (hcl 12 _ rfl (hcl 21 _ rfl hD 12 dc) 11 dc) 10 dc) 9 dc) 8 dc)) eD_nil) (cons_eq (eD_miss (fun hD => hn (hcl 9 _ rfl (hcl 10 _ rfl (hcl 11 _ rfl (hcl 12 _ rfl (hcl 21 _ rfl (hcl 22 _ rfl hD 21 dc) 12 dc) 11 dc) 10 dc) 9 dc) 8 dc)) eD_nil) rfl))))) ?_
  refine TO.fieldAddr fl_93_0 rfl dc (dl_lookup (m := 7) rfl rfl (hd 7 dc)) (show _ = 0 from rfl) ?_
  exact TX.valG (hd1, hd2, ⟨zs1, hz1⟩, ⟨zs2, hz2⟩, hd3, v4) 8 (by rfl) (by rfl) rfl (dl_cons_eq (fun _ => rfl) (dl_cons_eq (fun _ => rfl) (dl_cons_eq (fun _ => rfl) (dl_cons_eq (fun _ => rfl) (dl_cons_eq (fun _ => rfl) (dl_cons_eq (fun _ => rfl) (dl_cons_eq (fun _ => rfl) (dl_cons_eq (fun _ => rfl) (dl_cons_eq (fun _ => rfl) (dl_cons_eq (fun _ => rfl) (dl_cons_eq (fun _ => rfl) (dl_cons_eq (fun _ => rfl) (dl_cons_eq (fun _ => rfl) (dl_cons_eq (fun _ => rfl) (dl_cons_eq (fun _ => rfl) (dl_cons_eq (fun _ => rfl) (dl_cons_eq (fun _ => rfl) (dl_cons_eq (fun _ => rfl) (dl_cons_eq (fun _ => rfl) (dl_cons_eq (fun _ => rfl) (dl_cons_eq (fun _ => rfl) (dl_cons_eq (fun _ => rfl) (dl_cons_eq (fun _ => rfl) (dl_cons_eq (fun _ => rfl) (dl_cons_eq (fun _ => rfl) rfl))))))))))))))))))))))))) (cons_eq ((eD_skip (by rfl)).trans (eD_miss (fun hD => hn (hcl 9 _ rfl (hcl 10 _ rfl (hcl 11 _ rfl (hcl 12 _ rfl (hcl 21 _ rfl hD 12 dc) 11 dc) 10 dc) 9 dc) 8 dc)) (eD_miss (fun hD => hn (hcl 9 _ rfl (hcl 10 _ rfl (hcl 11 _ rfl (hcl 12 _ rfl hD 11 dc) 10 dc) 9 dc) 8 dc)) eD_nil))) (cons_eq ((eD_skip (by rfl)).trans (eD_miss (fun hD => hn (hcl 9 _ rfl (hcl 10 _ rfl (hcl 11 _ rfl (hcl 12 _ rfl (hcl 21 _ rfl hD 12 dc) 11 dc) 10 dc) 9 dc) 8 dc)) (eD_miss (fun hD => hn (hcl 9 _ rfl (hcl 10 _ rfl (hcl 11 _ rfl (hcl 12 _ rfl (hcl 20 _ rfl hD 12 dc) 11 dc) 10 dc) 9 dc) 8 dc)) eD_nil))) (cons_eq ((eD_skip (by rfl)).trans (eD_miss (fun hD => hn (hcl 9 _ rfl (hcl 10 _ rfl (hcl 11 _ rfl (hcl 12 _ rfl (hcl 21 _ rfl hD 12 dc) 11 dc) 10 dc) 9 dc) 8 dc)) eD_nil)) (cons_eq ((eD_skip (by rfl)).trans (eD_miss (fun hD => hn (hcl 9 _ rfl (hcl 10 _ rfl (hcl 11 _ rfl (hcl 12 _ rfl (hcl 21 _ rfl hD 12 dc) 11 dc) 10 dc) 9 dc) 8 dc)) eD_nil)) (cons_eq ((eD_skip (by rfl)).trans (eD_miss (fun hD => hn (hcl 9 _ rfl (hcl 10 _ rfl (hcl 11 _ rfl (hcl 12 _ rfl (hcl 21 _ rfl (hcl 22 _ rfl hD 21 dc) 12 dc) 11 dc) 10 dc) 9 dc) 8 dc)) eD_nil)) rfl)))))
 ·
  intro D b hn hd hcl
  obtain ⟨hd1, hd2, ⟨zs1, hz1⟩, ⟨zs2, hz2⟩, hd3, v4⟩ := b
  refine TO.rewL (L' := [emp, emp, emp, emp, emp]) (cons_eq (eD_miss (fun hD => hn (hcl 10 _ rfl (hcl 11 _ rfl (hcl 12 _ rfl (hcl 21 _ rfl hD 12 dc) 11 dc) 10 dc) 9 dc)) (eD_miss (fun hD => hn (hcl 10 _ rfl (hcl 11 _ rfl (hcl 12 _ rfl hD 11 dc) 10 dc) 9 dc)) eD_nil)) (cons_eq (eD_miss (fun hD => hn (hcl 10 _ rfl (hcl 11 _ rfl (hcl 12 _ rfl (hcl 21 _ rfl hD 12 dc) 11 dc) 10 dc) 9 dc)) (eD_miss (fun hD => hn (hcl 10 _ rfl (hcl 11 _ rfl (hcl 12 _ rfl (hcl 20 _ rfl hD 12 dc) 11 dc) 10 dc) 9 dc)) eD_nil)) (cons_eq (eD_miss (fun hD => hn (hcl 10 _ rfl (hcl 11 _ rfl (hcl 12 _ rfl (hcl 21 _ rfl hD 12 dc) 11 dc) 10 dc) 9 dc)) eD_nil) (cons_eq (eD_miss (fun hD => hn (hcl 10 _ rfl (hcl 11 _ rfl (hcl 12 _ rfl (hcl 21 _ rfl hD 12 dc) 11 dc) 10 dc) 9 dc)) eD_nil) (cons_eq (eD_miss (fun hD => hn (hcl 10 _ rfl (hcl 11 _ rfl (hcl 12 _ rfl (hcl 21 _ rfl (hcl 22 _ rfl hD 21 dc) 12 dc) 11 dc) 10 dc) 9 dc)) eD_nil) rfl))))) ?_
  refine TO.fieldAddr fl_91_1 rfl dc (dl_lookup (m := 8) rfl rfl (hd 8 dc)) (show _ = 1 from rfl) ?_
  exact TX.valG (hd1, hd2, ⟨zs1, hz1⟩, ⟨zs2, hz2⟩, hd3, v4) 9 (by rfl) (by rfl) rfl (dl_cons_eq (fun _ => rfl) (dl_cons_eq (fun _ => rfl) (dl_cons_eq (fun _ => rfl) (dl_cons_eq (fun _ => rfl) (dl_cons_eq (fun _ => rfl) (dl_cons_eq (fun _ => rfl) (dl_cons_eq (fun _ => rfl) (dl_cons_eq (fun _ => rfl) (dl_cons_eq (fun _ => rfl) (dl_cons_eq (fun _ => rfl) (dl_cons_eq (fun _ => rfl) (dl_cons_eq (fun _ => rfl) (dl_cons_eq (fun _ => rfl) (dl_cons_eq (fun _ => rfl) (dl_cons_eq (fun _ => rfl) (dl_cons_eq (fun _ => rfl) (dl_cons_eq (fun _ => rfl) (dl_cons_eq (fun _ => rfl) (dl_cons_eq (fun _ => rfl) (dl_cons_eq (fun _ => rfl) (dl_cons_eq (fun _ => rfl) (dl_cons_eq (fun _ => rfl) (dl_cons_eq (fun _ => rfl) (dl_cons_eq (fun _ => rfl) (dl_cons_eq (fun _ => rfl) rfl))))))))))))))))))))))))) (cons_eq ((eD_skip (by rfl)).trans (eD_miss (fun hD => hn (hcl 10 _ rfl (hcl 11 _ rfl (hcl 12 _ rfl (hcl 21 _ rfl hD 12 dc) 11 dc) 10 dc) 9 dc)) (eD_miss (fun hD => hn (hcl 10 _ rfl (hcl 11 _ rfl (hcl 12 _ rfl hD 11 dc) 10 dc) 9 dc)) eD_nil))) (cons_eq ((eD_skip (by rfl)).trans (eD_miss (fun hD => hn (hcl 10 _ rfl (hcl 11 _ rfl (hcl 12 _ rfl (hcl 21 _ rfl hD 12 dc) 11 dc) 10 dc) 9 dc)) (eD_miss (fun hD => hn (hcl 10 _ rfl (hcl 11 _ rfl (hcl 12 _ rfl (hcl 20 _ rfl hD 12 dc) 11 dc) 10 dc) 9 dc)) eD_nil))) (cons_eq ((eD_skip (by rfl)).trans (eD_miss (fun hD => hn (hcl 10 _ rfl (hcl 11 _ rfl (hcl 12 _ rfl (hcl 21 _ rfl hD 12 dc) 11 dc) 10 dc) 9 dc)) eD_nil)) (cons_eq ((eD_skip (by rfl)).trans (eD_miss (fun hD => hn (hcl 10 _ rfl (hcl 11 _ rfl (hcl 12 _ rfl (hcl 21 _ rfl hD 12 dc) 11 dc) 10 dc) 9 dc)) eD_nil)) (cons_eq ((eD_skip (by rfl)).trans (eD_miss (fun hD => hn (hcl 10 _ rfl (hcl 11 _ rfl (hcl 12 _ rfl (hcl 21 _ rfl (hcl 22 _ rfl hD 21 dc) 12 dc) 11 dc) 10 dc) 9 dc)) eD_nil)) rfl)))))
 ·
  intro D b hn hd hcl
  obtain ⟨hd1, hd2, ⟨zs1, hz1⟩, ⟨zs2, hz2⟩, hd3, v4⟩ := b
  refine TO.rewL (L' := [emp, emp, emp, emp, emp]) (cons_eq (eD_miss (fun hD => hn (hcl 11 _ rfl (hcl 12 _ rfl (hcl 21 _ rfl hD 12 dc) 11 dc) 10 dc)) (eD_miss (fun hD => hn (hcl 11 _ rfl (hcl 12 _ rfl hD 11 dc) 10 dc)) eD_nil)) (cons_eq (eD_miss (fun hD => hn (hcl 11 _ rfl (hcl 12 _ rfl (hcl 21 _ rfl hD 12 dc) 11 dc) 10 dc)) (eD_miss (fun hD => hn (hcl 11 _ rfl (hcl 12 _ rfl (hcl 20 _ rfl hD 12 dc) 11 dc) 10 dc)) eD_nil)) (cons_eq (eD_miss (fun hD => hn (hcl 11 _ rfl (hcl 12 _ rfl (hcl 21 _ rfl hD 12 dc) 11 dc) 10 dc)) eD_nil) (cons_eq (eD_miss (fun hD => hn (hcl 11 _ rfl (hcl 12 _ rfl (hcl 21 _ rfl hD 12 dc) 11 dc) 10 dc)) eD_nil) (cons_eq (eD_miss (fun hD => hn (hcl 11 _ rfl (hcl 12 _ rfl (hcl 21 _ rfl (hcl 22 _ rfl hD 21 dc) 12 dc) 11 dc) 10 dc)) eD_nil) rfl))))) ?_
  refine TO.loadRd (i := 0) hrd rfl sc_57 rfl dc (dl_lookup (m := 9) rfl rfl (hd 9 dc)) rfl ?_
  exact TX.valG (hd1, hd2, ⟨zs1, hz1⟩, ⟨zs2, hz2⟩, hd3, v4) 10 (by rfl) (by rfl) rfl (dl_cons_eq (fun _ => rfl) (dl_cons_eq (fun _ => rfl) (dl_cons_eq (fun _ => rfl) (dl_cons_eq (fun _ => rfl) (dl_cons_eq (fun _ => rfl) (dl_cons_eq (fun _ => rfl) (dl_cons_eq (fun _ => rfl) (dl_cons_eq (fun _ => rfl) (dl_cons_eq (fun _ => rfl) (dl_cons_eq (fun _ => rfl) (dl_cons_eq (fun _ => rfl) (dl_cons_eq (fun _ => rfl) (dl_cons_eq (fun _ => rfl) (dl_cons_eq (fun _ => rfl) (dl_cons_eq (fun _ => rfl) (dl_cons_eq (fun _ => rfl) (dl_cons_eq (fun _ => rfl) (dl_cons_eq (fun _ => rfl) (dl_cons_eq (fun _ => rfl) (dl_cons_eq (fun _ => rfl) (dl_cons_eq (fun _ => rfl) (dl_cons_eq (fun _ => rfl) (dl_cons_eq (fun _ => rfl) (dl_cons_eq (fun _ => rfl) (dl_cons_eq (fun _ => rfl) rfl))))))))))))))))))))))))) (cons_eq ((eD_skip (by rfl)).trans (eD_miss (fun hD => hn (hcl 11 _ rfl (hcl 12 _ rfl (hcl 21 _ rfl hD 12 dc) 11 dc) 10 dc)) (eD_miss (fun hD => hn (hcl 11 _ rfl (hcl 12 _ rfl hD 11 dc) 10 dc)) eD_nil))) (cons_eq ((eD_skip (by rfl)).trans (eD_miss (fun hD => hn (hcl 11 _ rfl (hcl 12 _ rfl (hcl 21 _ rfl hD 12 dc) 11 dc) 10 dc)) (eD_miss (fun hD => hn (hcl 11 _ rfl (hcl 12 _ rfl (hcl 20 _ rfl hD 12 dc) 11 dc) 10 dc)) eD_nil))) (cons_eq ((eD_skip (by rfl)).trans (eD_miss (fun hD => hn (hcl 11 _ rfl (hcl 12 _ rfl (hcl 21 _ rfl hD 12 dc) 11 dc) 10 dc)) eD_nil)) (cons_eq ((eD_skip (by rfl)).trans (eD_miss (fun hD => hn (hcl 11 _ rfl (hcl 12 _ rfl (hcl 21 _ rfl hD 12 dc) 11 dc) 10 dc)) eD_nil)) (cons_eq ((eD_skip (by rfl)).trans (eD_miss (fun hD => hn (hcl 11 _ rfl (hcl 12 _ rfl (hcl 21 _ rfl (hcl 22 _ rfl hD 21 dc) 12 dc) 11 dc) 10 dc)) eD_nil)) rfl)))))
 ·
  intro D b hn hd hcl
  obtain ⟨hd1, hd2, ⟨zs1, hz1⟩, ⟨zs2, hz2⟩, hd3, v4⟩ := b
  refine TO.rewL (L' := [emp, emp, emp, emp, emp]) (cons_eq (eD_miss (fun hD => hn (hcl 12 _ rfl (hcl 21 _ rfl hD 12 dc) 11 dc)) (eD_miss (fun hD => hn (hcl 12 _ rfl hD 11 dc)) eD_nil)) (cons_eq (eD_miss (fun hD => hn (hcl 12 _ rfl (hcl 21 _ rfl hD 12 dc) 11 dc)) (eD_miss (fun hD => hn (hcl 12 _ rfl (hcl 20 _ rfl hD 12 dc) 11 dc)) eD_nil)) (cons_eq (eD_miss (fun hD => hn (hcl 12 _ rfl (hcl 21 _ rfl hD 12 dc) 11 dc)) eD_nil) (cons_eq (eD_miss (fun hD => hn (hcl 12 _ rfl (hcl 21 _ rfl hD 12 dc) 11 dc)) eD_nil) (cons_eq (eD_miss (fun hD => hn (hcl 12 _ rfl (hcl 21 _ rfl (hcl 22 _ rfl hD 21 dc) 12 dc) 11 dc)) eD_nil) rfl))))) ?_
  refine TO.lenVw (hrd.vw (i := 1) rfl) rfl dc (dl_lookup (m := 10) rfl rfl (hd 10 dc)) Tryd.underlying57 ?_
  exact TX.valG (hd1, hd2, ⟨zs1, hz1⟩, ⟨zs2, hz2⟩, hd3, v4) 11 (by rfl) (by rfl) rfl (dl_cons_eq (fun _ => rfl) (dl_cons_eq (fun _ => rfl) (dl_cons_eq (fun _ => rfl) (dl_cons_eq (fun _ => rfl) (dl_cons_eq (fun _ => rfl) (dl_cons_eq (fun _ => rfl) (dl_cons_eq (fun _ => rfl) (dl_cons_eq (fun _ => rfl) (dl_cons_eq (fun _ => rfl) (dl_cons_eq (fun _ => rfl) (dl_cons_eq (fun _ => rfl) (dl_cons_eq (fun _ => rfl) (dl_cons_eq (fun _ => rfl) (dl_cons_eq (fun _ => rfl) (dl_cons_eq (fun _ => rfl) (dl_cons_eq (fun _ => rfl) (dl_cons_eq (fun _ => rfl) (dl_cons_eq (fun _ => rfl) (dl_cons_eq (fun _ => rfl) (dl_cons_eq (fun _ => rfl) (dl_cons_eq (fun _ => rfl) (dl_cons_eq (fun _ => rfl) (dl_cons_eq (fun _ => rfl) (dl_cons_eq (fun _ => rfl) (dl_cons_eq (fun _ => rfl) rfl))))))))))))))))))))))))) (cons_eq ((eD_skip (by rfl)).trans (eD_miss (fun hD => hn (hcl 12 _ rfl (hcl 21 _ rfl hD 12 dc) 11 dc)) (eD_miss (fun hD => hn (hcl 12 _ rfl hD 11 dc)) eD_nil))) (cons_eq ((eD_skip (by rfl)).trans (eD_miss (fun hD => hn (hcl 12 _ rfl (hcl 21 _ rfl hD 12 dc) 11 dc)) (eD_miss (fun hD => hn (hcl 12 _ rfl (hcl 20 _ rfl hD 12 dc) 11 dc)) eD_nil))) (cons_eq ((eD_skip (by rfl)).trans (eD_miss (fun hD => hn (hcl 12 _ rfl (hcl 21 _ rfl hD 12 dc) 11 dc)) eD_nil)) (cons_eq ((eD_skip (by rfl)).trans (eD_miss (fun hD => hn (hcl 12 _ rfl (hcl 21 _ rfl hD 12 dc) 11 dc)) eD_nil)) (cons_eq ((eD_skip (by rfl)).trans (eD_miss (fun hD => hn (hcl 12 _ rfl (hcl 21 _ rfl (hcl 22 _ rfl hD 21 dc) 12 dc) 11 dc)) eD_nil)) rfl)))))
 ·
  intro D b hn hd hcl
  obtain ⟨_, hd2, ⟨zs1, hz1⟩, ⟨zs2, hz2⟩, hd3, v4⟩ := b
  refine TO.rewL (L' := [emp, emp, emp, emp, emp]) (cons_eq (eD_miss (fun hD => hn (hcl 21 _ rfl hD 12 dc)) (eD_miss hn eD_nil)) (cons_eq (eD_miss (fun hD => hn (hcl 21 _ rfl hD 12 dc)) (eD_miss (fun hD => hn (hcl 20 _ rfl hD 12 dc)) eD_nil)) (cons_eq (eD_miss (fun hD => hn (hcl 21 _ rfl hD 12 dc)) eD_nil) (cons_eq (eD_miss (fun hD => hn (hcl 21 _ rfl hD 12 dc)) eD_nil) (cons_eq (eD_miss (fun hD => hn (hcl 21 _ rfl (hcl 22 _ rfl hD 21 dc) 12 dc)) eD_nil) rfl))))) ?_
  refine TO.callR (vs := [.pointer (some ⟨bp1, 0, none⟩), .int .i64 0, .int .i64 (p1.told_lines.length : Int)]) hrd rfl dc rfl (evL.cons (dl_lookup (m := 5) rfl rfl (hd 5 dc)) (evL.cons rfl (evL.cons (dl_lookup (m := 11) rfl rfl (hd 11 dc)) evL.nil))) rfl en_61 (poem_Poem_rows_fn (bp1 := bp1) (p1 := p1) (p1_h0 := p1_h0) (p1_h1 := p1_h1) hq1) Splits.nil (.ro 0 rfl (.ro 1 rfl (.ro 2 rfl .nil))) ?_
  rintro v1
  show TO _ _ _ _ _ _ _ _ _ _ [emp, emp, emp, emp, emp, vecN encN_T_string nest_T_string 48 1 v1 r1]
  refine TO.weakenL (L' := [emp, emp, emp, emp, emp, vecN encN_T_string nest_T_string 48 1 v1 r1]) (Splits.of [0, 1, 2, 3, 4, 5] kr rfl) ?_
  refine TO.nameHdN (k := 5) rfl (fun hd1 he1 => ?_)
  subst he1
  refine TO.place 0 rfl rfl ?_
  show TO _ _ _ _ _ _ _ _ _ _ [vecN encN_T_string nest_T_string 48 1 hd1.v r1, emp, emp, emp, emp]
  exact TX.valG (hd1, hd2, ⟨zs1, hz1⟩, ⟨zs2, hz2⟩, hd3, v4) 12 (by rfl) (by rfl) rfl (dl_cons_eq (fun _ => rfl) (dl_cons_eq (fun _ => rfl) (dl_cons_eq (fun _ => rfl) (dl_cons_eq (fun _ => rfl) (dl_cons_eq (fun _ => rfl) (dl_cons_eq (fun _ => rfl) (dl_cons_eq (fun _ => rfl) (dl_cons_eq (fun _ => rfl) (dl_cons_eq (fun _ => rfl) (dl_cons_eq (fun _ => rfl) (dl_cons_eq (fun _ => rfl) (dl_cons_eq (fun _ => rfl) (dl_cons_eq (fun hD => absurd hD hn) (dl_cons_eq (fun _ => rfl) (dl_cons_eq (fun _ => rfl) (dl_cons_eq (fun _ => rfl) (dl_cons_eq (fun _ => rfl) (dl_cons_eq (fun _ => rfl) (dl_cons_eq (fun _ => rfl) (dl_cons_eq (fun _ => rfl) (dl_cons_eq (fun _ => rfl) (dl_cons_eq (fun _ => rfl) (dl_cons_eq (fun _ => rfl) (dl_cons_eq (fun _ => rfl) (dl_cons_eq (fun _ => rfl) rfl))))))))))))))))))))))))) (cons_eq (eD_miss (fun h => h.elim (fun hD => hn (hcl 21 _ rfl hD 12 dc)) (fun h => absurd h dc)) (eD_hit (Or.inr rfl) rfl)) (cons_eq ((eD_skip (by rfl)).trans (eD_miss (fun hD => hn (hcl 21 _ rfl hD 12 dc)) (eD_miss (fun hD => hn (hcl 20 _ rfl hD 12 dc)) eD_nil))) (cons_eq ((eD_skip (by rfl)).trans (eD_miss (fun hD => hn (hcl 21 _ rfl hD 12 dc)) eD_nil)) (cons_eq ((eD_skip (by rfl)).trans (eD_miss (fun hD => hn (hcl 21 _ rfl hD 12 dc)) eD_nil)) (cons_eq ((eD_skip (by rfl)).trans (eD_miss (fun hD => hn (hcl 21 _ rfl (hcl 22 _ rfl hD 21 dc) 12 dc)) eD_nil)) rfl)))))
 ·
  intro D b hn hd hcl
  obtain ⟨hd1, hd2, ⟨zs1, hz1⟩, ⟨zs2, hz2⟩, hd3, v4⟩ := b
  refine TO.rewL (L' := [eD D emp [(12, vecN encN_T_string nest_T_string 48 1 hd1.v r1)], emp, emp, emp, emp]) (cons_eq (eD_miss (fun hD => hn (hcl 20 _ rfl (hcl 21 _ rfl hD 20 dc) 13 dc)) rfl) (cons_eq (eD_miss (fun hD => hn (hcl 20 _ rfl (hcl 21 _ rfl hD 20 dc) 13 dc)) (eD_miss (fun hD => hn (hcl 20 _ rfl hD 13 dc)) eD_nil)) (cons_eq (eD_miss (fun hD => hn (hcl 20 _ rfl (hcl 21 _ rfl hD 20 dc) 13 dc)) eD_nil) (cons_eq (eD_miss (fun hD => hn (hcl 20 _ rfl (hcl 21 _ rfl hD 20 dc) 13 dc)) eD_nil) (cons_eq (eD_miss (fun hD => hn (hcl 20 _ rfl (hcl 21 _ rfl (hcl 22 _ rfl hD 21 dc) 20 dc) 13 dc)) eD_nil) rfl))))) ?_
  refine TO.move rfl dc (dl_old (by rfl) rfl) ?_
  exact TX.valG (hd1, hd2, ⟨zs1, hz1⟩, ⟨zs2, hz2⟩, hd3, v4) 13 (by rfl) (by rfl) rfl (dl_cons_eq (fun _ => rfl) (dl_cons_eq (fun _ => rfl) (dl_cons_eq (fun _ => rfl) (dl_cons_eq (fun _ => rfl) (dl_cons_eq (fun _ => rfl) (dl_cons_eq (fun _ => rfl) (dl_cons_eq (fun _ => rfl) (dl_cons_eq (fun _ => rfl) (dl_cons_eq (fun _ => rfl) (dl_cons_eq (fun _ => rfl) (dl_cons_eq (fun _ => rfl) (dl_cons_eq (fun _ => rfl) (dl_cons_eq (fun _ => rfl) (dl_cons_eq (fun _ => rfl) (dl_cons_eq (fun _ => rfl) (dl_cons_eq (fun _ => rfl) (dl_cons_eq (fun _ => rfl) (dl_cons_eq (fun _ => rfl) (dl_cons_eq (fun _ => rfl) (dl_cons_eq (fun _ => rfl) (dl_cons_eq (fun _ => rfl) (dl_cons_eq (fun _ => rfl) (dl_cons_eq (fun _ => rfl) (dl_cons_eq (fun _ => rfl) (dl_cons_eq (fun _ => rfl) rfl))))))))))))))))))))))))) (cons_eq ((eD_skip (by rfl)).trans (eD_miss (fun hD => hn (hcl 20 _ rfl (hcl 21 _ rfl hD 20 dc) 13 dc)) rfl)) (cons_eq ((eD_skip (by rfl)).trans (eD_miss (fun hD => hn (hcl 20 _ rfl (hcl 21 _ rfl hD 20 dc) 13 dc)) (eD_miss (fun hD => hn (hcl 20 _ rfl hD 13 dc)) eD_nil))) (cons_eq ((eD_skip (by rfl)).trans (eD_miss (fun hD => hn (hcl 20 _ rfl (hcl 21 _ rfl hD 20 dc) 13 dc)) eD_nil)) (cons_eq ((eD_skip (by rfl)).trans (eD_miss (fun hD => hn (hcl 20 _ rfl (hcl 21 _ rfl hD 20 dc) 13 dc)) eD_nil)) (cons_eq ((eD_skip (by rfl)).trans (eD_miss (fun hD => hn (hcl 20 _ rfl (hcl 21 _ rfl (hcl 22 _ rfl hD 21 dc) 20 dc) 13 dc)) eD_nil)) rfl)))))
 ·
  intro D b hn hd hcl
  obtain ⟨hd1, hd2, ⟨zs1, hz1⟩, ⟨zs2, hz2⟩, hd3, v4⟩ := b
  refine TO.rewL (L' := [eD D emp [(12, vecN encN_T_string nest_T_string 48 1 hd1.v r1)], emp, emp, emp, emp]) (cons_eq (eD_miss (fun hD => hn (hcl 15 _ rfl (hcl 16 _ rfl (hcl 17 _ rfl (hcl 18 _ rfl (hcl 19 _ rfl (hcl 20 _ rfl (hcl 21 _ rfl hD 20 dc) 19 dc) 18 dc) 17 dc) 16 dc) 15 dc) 14 dc)) rfl) (cons_eq (eD_miss (fun hD => hn (hcl 15 _ rfl (hcl 16 _ rfl (hcl 17 _ rfl (hcl 18 _ rfl (hcl 19 _ rfl (hcl 20 _ rfl (hcl 21 _ rfl hD 20 dc) 19 dc) 18 dc) 17 dc) 16 dc) 15 dc) 14 dc)) (eD_miss (fun hD => hn (hcl 15 _ rfl (hcl 16 _ rfl (hcl 17 _ rfl (hcl 18 _ rfl (hcl 19 _ rfl (hcl 20 _ rfl hD 19 dc) 18 dc) 17 dc) 16 dc) 15 dc) 14 dc)) eD_nil)) (cons_eq (eD_miss (fun hD => hn (hcl 15 _ rfl (hcl 16 _ rfl (hcl 17 _ rfl (hcl 18 _ rfl (hcl 19 _ rfl (hcl 20 _ rfl (hcl 21 _ rfl hD 20 dc) 19 dc) 18 dc) 17 dc) 16 dc) 15 dc) 14 dc)) eD_nil) (cons_eq (eD_miss (fun hD => hn (hcl 15 _ rfl (hcl 16 _ rfl (hcl 17 _ rfl (hcl 18 _ rfl (hcl 19 _ rfl (hcl 20 _ rfl (hcl 21 _ rfl hD 20 dc) 19 dc) 18 dc) 17 dc) 16 dc) 15 dc) 14 dc)) eD_nil) (cons_eq (eD_miss (fun hD => hn (hcl 15 _ rfl (hcl 16 _ rfl (hcl 17 _ rfl (hcl 18 _ rfl (hcl 19 _ rfl (hcl 20 _ rfl (hcl 21 _ rfl (hcl 22 _ rfl hD 21 dc) 20 dc) 19 dc) 18 dc) 17 dc) 16 dc) 15 dc) 14 dc)) eD_nil) rfl))))) ?_
  refine TO.move rfl dc (dl_old (by rfl) rfl) ?_
  exact TX.valG (hd1, hd2, ⟨zs1, hz1⟩, ⟨zs2, hz2⟩, hd3, v4) 14 (by rfl) (by rfl) rfl (dl_cons_eq (fun _ => rfl) (dl_cons_eq (fun _ => rfl) (dl_cons_eq (fun _ => rfl) (dl_cons_eq (fun _ => rfl) (dl_cons_eq (fun _ => rfl) (dl_cons_eq (fun _ => rfl) (dl_cons_eq (fun _ => rfl) (dl_cons_eq (fun _ => rfl) (dl_cons_eq (fun _ => rfl) (dl_cons_eq (fun _ => rfl) (dl_cons_eq (fun _ => rfl) (dl_cons_eq (fun _ => rfl) (dl_cons_eq (fun _ => rfl) (dl_cons_eq (fun _ => rfl) (dl_cons_eq (fun _ => rfl) (dl_cons_eq (fun _ => rfl) (dl_cons_eq (fun _ => rfl) (dl_cons_eq (fun _ => rfl) (dl_cons_eq (fun _ => rfl) (dl_cons_eq (fun _ => rfl) (dl_cons_eq (fun _ => rfl) (dl_cons_eq (fun _ => rfl) (dl_cons_eq (fun _ => rfl) (dl_cons_eq (fun _ => rfl) (dl_cons_eq (fun _ => rfl) rfl))))))))))))))))))))))))) (cons_eq ((eD_skip (by rfl)).trans (eD_miss (fun hD => hn (hcl 15 _ rfl (hcl 16 _ rfl (hcl 17 _ rfl (hcl 18 _ rfl (hcl 19 _ rfl (hcl 20 _ rfl (hcl 21 _ rfl hD 20 dc) 19 dc) 18 dc) 17 dc) 16 dc) 15 dc) 14 dc)) rfl)) (cons_eq ((eD_skip (by rfl)).trans (eD_miss (fun hD => hn (hcl 15 _ rfl (hcl 16 _ rfl (hcl 17 _ rfl (hcl 18 _ rfl (hcl 19 _ rfl (hcl 20 _ rfl (hcl 21 _ rfl hD 20 dc) 19 dc) 18 dc) 17 dc) 16 dc) 15 dc) 14 dc)) (eD_miss (fun hD => hn (hcl 15 _ rfl (hcl 16 _ rfl (hcl 17 _ rfl (hcl 18 _ rfl (hcl 19 _ rfl (hcl 20 _ rfl hD 19 dc) 18 dc) 17 dc) 16 dc) 15 dc) 14 dc)) eD_nil))) (cons_eq ((eD_skip (by rfl)).trans (eD_miss (fun hD => hn (hcl 15 _ rfl (hcl 16 _ rfl (hcl 17 _ rfl (hcl 18 _ rfl (hcl 19 _ rfl (hcl 20 _ rfl (hcl 21 _ rfl hD 20 dc) 19 dc) 18 dc) 17 dc) 16 dc) 15 dc) 14 dc)) eD_nil)) (cons_eq ((eD_skip (by rfl)).trans (eD_miss (fun hD => hn (hcl 15 _ rfl (hcl 16 _ rfl (hcl 17 _ rfl (hcl 18 _ rfl (hcl 19 _ rfl (hcl 20 _ rfl (hcl 21 _ rfl hD 20 dc) 19 dc) 18 dc) 17 dc) 16 dc) 15 dc) 14 dc)) eD_nil)) (cons_eq ((eD_skip (by rfl)).trans (eD_miss (fun hD => hn (hcl 15 _ rfl (hcl 16 _ rfl (hcl 17 _ rfl (hcl 18 _ rfl (hcl 19 _ rfl (hcl 20 _ rfl (hcl 21 _ rfl (hcl 22 _ rfl hD 21 dc) 20 dc) 19 dc) 18 dc) 17 dc) 16 dc) 15 dc) 14 dc)) eD_nil)) rfl)))))
 ·
  intro D b hn hd hcl
  obtain ⟨hd1, hd2, ⟨zs1, hz1⟩, ⟨zs2, hz2⟩, hd3, v4⟩ := b
  refine TO.rewL (L' := [eD D emp [(12, vecN encN_T_string nest_T_string 48 1 hd1.v r1)], emp, emp, emp, emp]) (cons_eq (eD_miss (fun hD => hn (hcl 16 _ rfl (hcl 17 _ rfl (hcl 18 _ rfl (hcl 19 _ rfl (hcl 20 _ rfl (hcl 21 _ rfl hD 20 dc) 19 dc) 18 dc) 17 dc) 16 dc) 15 dc)) rfl) (cons_eq (eD_miss (fun hD => hn (hcl 16 _ rfl (hcl 17 _ rfl (hcl 18 _ rfl (hcl 19 _ rfl (hcl 20 _ rfl (hcl 21 _ rfl hD 20 dc) 19 dc) 18 dc) 17 dc) 16 dc) 15 dc)) (eD_miss (fun hD => hn (hcl 16 _ rfl (hcl 17 _ rfl (hcl 18 _ rfl (hcl 19 _ rfl (hcl 20 _ rfl hD 19 dc) 18 dc) 17 dc) 16 dc) 15 dc)) eD_nil)) (cons_eq (eD_miss (fun hD => hn (hcl 16 _ rfl (hcl 17 _ rfl (hcl 18 _ rfl (hcl 19 _ rfl (hcl 20 _ rfl (hcl 21 _ rfl hD 20 dc) 19 dc) 18 dc) 17 dc) 16 dc) 15 dc)) eD_nil) (cons_eq (eD_miss (fun hD => hn (hcl 16 _ rfl (hcl 17 _ rfl (hcl 18 _ rfl (hcl 19 _ rfl (hcl 20 _ rfl (hcl 21 _ rfl hD 20 dc) 19 dc) 18 dc) 17 dc) 16 dc) 15 dc)) eD_nil) (cons_eq (eD_miss (fun hD => hn (hcl 16 _ rfl (hcl 17 _ rfl (hcl 18 _ rfl (hcl 19 _ rfl (hcl 20 _ rfl (hcl 21 _ rfl (hcl 22 _ rfl hD 21 dc) 20 dc) 19 dc) 18 dc) 17 dc) 16 dc) 15 dc)) eD_nil) rfl))))) ?_
  refine TO.nilCheck rfl dc (dl_lookup (m := 14) rfl rfl (hd 14 dc)) ?_
  exact TX.valG (hd1, hd2, ⟨zs1, hz1⟩, ⟨zs2, hz2⟩, hd3, v4) 15 (by rfl) (by rfl) rfl (dl_cons_eq (fun _ => rfl) (dl_cons_eq (fun _ => rfl) (dl_cons_eq (fun _ => rfl) (dl_cons_eq (fun _ => rfl) (dl_cons_eq (fun _ => rfl) (dl_cons_eq (fun _ => rfl) (dl_cons_eq (fun _ => rfl) (dl_cons_eq (fun _ => rfl) (dl_cons_eq (fun _ => rfl) (dl_cons_eq (fun _ => rfl) (dl_cons_eq (fun _ => rfl) (dl_cons_eq (fun _ => rfl) (dl_cons_eq (fun _ => rfl) (dl_cons_eq (fun _ => rfl) (dl_cons_eq (fun _ => rfl) (dl_cons_eq (fun _ => rfl) (dl_cons_eq (fun _ => rfl) (dl_cons_eq (fun _ => rfl) (dl_cons_eq (fun _ => rfl) (dl_cons_eq (fun _ => rfl) (dl_cons_eq (fun _ => rfl) (dl_cons_eq (fun _ => rfl) (dl_cons_eq (fun _ => rfl) (dl_cons_eq (fun _ => rfl) (dl_cons_eq (fun _ => rfl) rfl))))))))))))))))))))))))) (cons_eq ((eD_skip (by rfl)).trans (eD_miss (fun hD => hn (hcl 16 _ rfl (hcl 17 _ rfl (hcl 18 _ rfl (hcl 19 _ rfl (hcl 20 _ rfl (hcl 21 _ rfl hD 20 dc) 19 dc) 18 dc) 17 dc) 16 dc) 15 dc)) rfl)) (cons_eq ((eD_skip (by rfl)).trans (eD_miss (fun hD => hn (hcl 16 _ rfl (hcl 17 _ rfl (hcl 18 _ rfl (hcl 19 _ rfl (hcl 20 _ rfl (hcl 21 _ rfl hD 20 dc) 19 dc) 18 dc) 17 dc) 16 dc) 15 dc)) (eD_miss (fun hD => hn (hcl 16 _ rfl (hcl 17 _ rfl (hcl 18 _ rfl (hcl 19 _ rfl (hcl 20 _ rfl hD 19 dc) 18 dc) 17 dc) 16 dc) 15 dc)) eD_nil))) (cons_eq ((eD_skip (by rfl)).trans (eD_miss (fun hD => hn (hcl 16 _ rfl (hcl 17 _ rfl (hcl 18 _ rfl (hcl 19 _ rfl (hcl 20 _ rfl (hcl 21 _ rfl hD 20 dc) 19 dc) 18 dc) 17 dc) 16 dc) 15 dc)) eD_nil)) (cons_eq ((eD_skip (by rfl)).trans (eD_miss (fun hD => hn (hcl 16 _ rfl (hcl 17 _ rfl (hcl 18 _ rfl (hcl 19 _ rfl (hcl 20 _ rfl (hcl 21 _ rfl hD 20 dc) 19 dc) 18 dc) 17 dc) 16 dc) 15 dc)) eD_nil)) (cons_eq ((eD_skip (by rfl)).trans (eD_miss (fun hD => hn (hcl 16 _ rfl (hcl 17 _ rfl (hcl 18 _ rfl (hcl 19 _ rfl (hcl 20 _ rfl (hcl 21 _ rfl (hcl 22 _ rfl hD 21 dc) 20 dc) 19 dc) 18 dc) 17 dc) 16 dc) 15 dc)) eD_nil)) rfl)))))
 ·
  intro D b hn hd hcl
  obtain ⟨hd1, hd2, ⟨zs1, hz1⟩, ⟨zs2, hz2⟩, hd3, v4⟩ := b
  refine TO.rewL (L' := [eD D emp [(12, vecN encN_T_string nest_T_string 48 1 hd1.v r1)], emp, emp, emp, emp]) (cons_eq (eD_miss (fun hD => hn (hcl 17 _ rfl (hcl 18 _ rfl (hcl 19 _ rfl (hcl 20 _ rfl (hcl 21 _ rfl hD 20 dc) 19 dc) 18 dc) 17 dc) 16 dc)) rfl) (cons_eq (eD_miss (fun hD => hn (hcl 17 _ rfl (hcl 18 _ rfl (hcl 19 _ rfl (hcl 20 _ rfl (hcl 21 _ rfl hD 20 dc) 19 dc) 18 dc) 17 dc) 16 dc)) (eD_miss (fun hD => hn (hcl 17 _ rfl (hcl 18 _ rfl (hcl 19 _ rfl (hcl 20 _ rfl hD 19 dc) 18 dc) 17 dc) 16 dc)) eD_nil)) (cons_eq (eD_miss (fun hD => hn (hcl 17 _ rfl (hcl 18 _ rfl (hcl 19 _ rfl (hcl 20 _ rfl (hcl 21 _ rfl hD 20 dc) 19 dc) 18 dc) 17 dc) 16 dc)) eD_nil) (cons_eq (eD_miss (fun hD => hn (hcl 17 _ rfl (hcl 18 _ rfl (hcl 19 _ rfl (hcl 20 _ rfl (hcl 21 _ rfl hD 20 dc) 19 dc) 18 dc) 17 dc) 16 dc)) eD_nil) (cons_eq (eD_miss (fun hD => hn (hcl 17 _ rfl (hcl 18 _ rfl (hcl 19 _ rfl (hcl 20 _ rfl (hcl 21 _ rfl (hcl 22 _ rfl hD 21 dc) 20 dc) 19 dc) 18 dc) 17 dc) 16 dc)) eD_nil) rfl))))) ?_
  refine TO.fieldAddr fl_93_0 rfl dc (dl_lookup (m := 15) rfl rfl (hd 15 dc)) (show _ = 0 from rfl) ?_
  exact TX.valG (hd1, hd2, ⟨zs1, hz1⟩, ⟨zs2, hz2⟩, hd3, v4) 16 (by rfl) (by rfl) rfl (dl_cons_eq (fun _ => rfl) (dl_cons_eq (fun _ => rfl) (dl_cons_eq (fun _ => rfl) (dl_cons_eq (fun _ => rfl) (dl_cons_eq (fun _ => rfl) (dl_cons_eq (fun _ => rfl) (dl_cons_eq (fun _ => rfl) (dl_cons_eq (fun _ => rfl) (dl_cons_eq (fun _ => rfl) (dl_cons_eq (fun _ => rfl) (dl_cons_eq (fun _ => rfl) (dl_cons_eq (fun _ => rfl) (dl_cons_eq (fun _ => rfl) (dl_cons_eq (fun _ => rfl) (dl_cons_eq (fun _ => rfl) (dl_cons_eq (fun _ => rfl) (dl_cons_eq (fun _ => rfl) (dl_cons_eq (fun _ => rfl) (dl_cons_eq (fun _ => rfl) (dl_cons_eq (fun _ => rfl) (dl_cons_eq (fun _ => rfl) (dl_cons_eq (fun _ => rfl) (dl_cons_eq (fun _ => rfl) (dl_cons_eq (fun _ => rfl) (dl_cons_eq (fun _ => rfl) rfl))))))))))))))))))))))))) (cons_eq ((eD_skip (by rfl)).trans (eD_miss (fun hD => hn (hcl 17 _ rfl (hcl 18 _ rfl (hcl 19 _ rfl (hcl 20 _ rfl (hcl 21 _ rfl hD 20 dc) 19 dc) 18 dc) 17 dc) 16 dc)) rfl)) (cons_eq ((eD_skip (by rfl)).trans (eD_miss (fun hD => hn (hcl 17 _ rfl (hcl 18 _ rfl (hcl 19 _ rfl (hcl 20 _ rfl (hcl 21 _ rfl hD 20 dc) 19 dc) 18 dc) 17 dc) 16 dc)) (eD_miss (fun hD => hn (hcl 17 _ rfl (hcl 18 _ rfl (hcl 19 _ rfl (hcl 20 _ rfl hD 19 dc) 18 dc) 17 dc) 16 dc)) eD_nil))) (cons_eq ((eD_skip (by rfl)).trans (eD_miss (fun hD => hn (hcl 17 _ rfl (hcl 18 _ rfl (hcl 19 _ rfl (hcl 20 _ rfl (hcl 21 _ rfl hD 20 dc) 19 dc) 18 dc) 17 dc) 16 dc)) eD_nil)) (cons_eq ((eD_skip (by rfl)).trans (eD_miss (fun hD => hn (hcl 17 _ rfl (hcl 18 _ rfl (hcl 19 _ rfl (hcl 20 _ rfl (hcl 21 _ rfl hD 20 dc) 19 dc) 18 dc) 17 dc) 16 dc)) eD_nil)) (cons_eq ((eD_skip (by rfl)).trans (eD_miss (fun hD => hn (hcl 17 _ rfl (hcl 18 _ rfl (hcl 19 _ rfl (hcl 20 _ rfl (hcl 21 _ rfl (hcl 22 _ rfl hD 21 dc) 20 dc) 19 dc) 18 dc) 17 dc) 16 dc)) eD_nil)) rfl)))))
 ·
  intro D b hn hd hcl
  obtain ⟨hd1, hd2, ⟨zs1, hz1⟩, ⟨zs2, hz2⟩, hd3, v4⟩ := b
  refine TO.rewL (L' := [eD D emp [(12, vecN encN_T_string nest_T_string 48 1 hd1.v r1)], emp, emp, emp, emp]) (cons_eq (eD_miss (fun hD => hn (hcl 18 _ rfl (hcl 19 _ rfl (hcl 20 _ rfl (hcl 21 _ rfl hD 20 dc) 19 dc) 18 dc) 17 dc)) rfl) (cons_eq (eD_miss (fun hD => hn (hcl 18 _ rfl (hcl 19 _ rfl (hcl 20 _ rfl (hcl 21 _ rfl hD 20 dc) 19 dc) 18 dc) 17 dc)) (eD_miss (fun hD => hn (hcl 18 _ rfl (hcl 19 _ rfl (hcl 20 _ rfl hD 19 dc) 18 dc) 17 dc)) eD_nil)) (cons_eq (eD_miss (fun hD => hn (hcl 18 _ rfl (hcl 19 _ rfl (hcl 20 _ rfl (hcl 21 _ rfl hD 20 dc) 19 dc) 18 dc) 17 dc)) eD_nil) (cons_eq (eD_miss (fun hD => hn (hcl 18 _ rfl (hcl 19 _ rfl (hcl 20 _ rfl (hcl 21 _ rfl hD 20 dc) 19 dc) 18 dc) 17 dc)) eD_nil) (cons_eq (eD_miss (fun hD => hn (hcl 18 _ rfl (hcl 19 _ rfl (hcl 20 _ rfl (hcl 21 _ rfl (hcl 22 _ rfl hD 21 dc) 20 dc) 19 dc) 18 dc) 17 dc)) eD_nil) rfl))))) ?_
  refine TO.fieldAddr fl_91_1 rfl dc (dl_lookup (m := 16) rfl rfl (hd 16 dc)) (show _ = 1 from rfl) ?_
  exact TX.valG (hd1, hd2, ⟨zs1, hz1⟩, ⟨zs2, hz2⟩, hd3, v4) 17 (by rfl) (by rfl) rfl (dl_cons_eq (fun _ => rfl) (dl_cons_eq (fun _ => rfl) (dl_cons_eq (fun _ => rfl) (dl_cons_eq (fun _ => rfl) (dl_cons_eq (fun _ => rfl) (dl_cons_eq (fun _ => rfl) (dl_cons_eq (fun _ => rfl) (dl_cons_eq (fun _ => rfl) (dl_cons_eq (fun _ => rfl) (dl_cons_eq (fun _ => rfl) (dl_cons_eq (fun _ => rfl) (dl_cons_eq (fun _ => rfl) (dl_cons_eq (fun _ => rfl) (dl_cons_eq (fun _ => rfl) (dl_cons_eq (fun _ => rfl) (dl_cons_eq (fun _ => rfl) (dl_cons_eq (fun _ => rfl) (dl_cons_eq (fun _ => rfl) (dl_cons_eq (fun _ => rfl) (dl_cons_eq (fun _ => rfl) (dl_cons_eq (fun _ => rfl) (dl_cons_eq (fun _ => rfl) (dl_cons_eq (fun _ => rfl) (dl_cons_eq (fun _ => rfl) (dl_cons_eq (fun _ => rfl) rfl))))))))))))))))))))))))) (cons_eq ((eD_skip (by rfl)).trans (eD_miss (fun hD => hn (hcl 18 _ rfl (hcl 19 _ rfl (hcl 20 _ rfl (hcl 21 _ rfl hD 20 dc) 19 dc) 18 dc) 17 dc)) rfl)) (cons_eq ((eD_skip (by rfl)).trans (eD_miss (fun hD => hn (hcl 18 _ rfl (hcl 19 _ rfl (hcl 20 _ rfl (hcl 21 _ rfl hD 20 dc) 19 dc) 18 dc) 17 dc)) (eD_miss (fun hD => hn (hcl 18 _ rfl (hcl 19 _ rfl (hcl 20 _ rfl hD 19 dc) 18 dc) 17 dc)) eD_nil))) (cons_eq ((eD_skip (by rfl)).trans (eD_miss (fun hD => hn (hcl 18 _ rfl (hcl 19 _ rfl (hcl 20 _ rfl (hcl 21 _ rfl hD 20 dc) 19 dc) 18 dc) 17 dc)) eD_nil)) (cons_eq ((eD_skip (by rfl)).trans (eD_miss (fun hD => hn (hcl 18 _ rfl (hcl 19 _ rfl (hcl 20 _ rfl (hcl 21 _ rfl hD 20 dc) 19 dc) 18 dc) 17 dc)) eD_nil)) (cons_eq ((eD_skip (by rfl)).trans (eD_miss (fun hD => hn (hcl 18 _ rfl (hcl 19 _ rfl (hcl 20 _ rfl (hcl 21 _ rfl (hcl 22 _ rfl hD 21 dc) 20 dc) 19 dc) 18 dc) 17 dc)) eD_nil)) rfl)))))
 ·
  intro D b hn hd hcl
  obtain ⟨hd1, hd2, ⟨zs1, hz1⟩, ⟨zs2, hz2⟩, hd3, v4⟩ := b
  refine TO.rewL (L' := [eD D emp [(12, vecN encN_T_string nest_T_string 48 1 hd1.v r1)], emp, emp, emp, emp]) (cons_eq (eD_miss (fun hD => hn (hcl 19 _ rfl (hcl 20 _ rfl (hcl 21 _ rfl hD 20 dc) 19 dc) 18 dc)) rfl) (cons_eq (eD_miss (fun hD => hn (hcl 19 _ rfl (hcl 20 _ rfl (hcl 21 _ rfl hD 20 dc) 19 dc) 18 dc)) (eD_miss (fun hD => hn (hcl 19 _ rfl (hcl 20 _ rfl hD 19 dc) 18 dc)) eD_nil)) (cons_eq (eD_miss (fun hD => hn (hcl 19 _ rfl (hcl 20 _ rfl (hcl 21 _ rfl hD 20 dc) 19 dc) 18 dc)) eD_nil) (cons_eq (eD_miss (fun hD => hn (hcl 19 _ rfl (hcl 20 _ rfl (hcl 21 _ rfl hD 20 dc) 19 dc) 18 dc)) eD_nil) (cons_eq (eD_miss (fun hD => hn (hcl 19 _ rfl (hcl 20 _ rfl (hcl 21 _ rfl (hcl 22 _ rfl hD 21 dc) 20 dc) 19 dc) 18 dc)) eD_nil) rfl))))) ?_
  refine TO.loadRd (i := 3) hrd rfl sc_57 rfl dc (dl_lookup (m := 17) rfl rfl (hd 17 dc)) rfl ?_
  exact TX.valG (hd1, hd2, ⟨zs1, hz1⟩, ⟨zs2, hz2⟩, hd3, v4) 18 (by rfl) (by rfl) rfl (dl_cons_eq (fun _ => rfl) (dl_cons_eq (fun _ => rfl) (dl_cons_eq (fun _ => rfl) (dl_cons_eq (fun _ => rfl) (dl_cons_eq (fun _ => rfl) (dl_cons_eq (fun _ => rfl) (dl_cons_eq (fun _ => rfl) (dl_cons_eq (fun _ => rfl) (dl_cons_eq (fun _ => rfl) (dl_cons_eq (fun _ => rfl) (dl_cons_eq (fun _ => rfl) (dl_cons_eq (fun _ => rfl) (dl_cons_eq (fun _ => rfl) (dl_cons_eq (fun _ => rfl) (dl_cons_eq (fun _ => rfl) (dl_cons_eq (fun _ => rfl) (dl_cons_eq (fun _ => rfl) (dl_cons_eq (fun _ => rfl) (dl_cons_eq (fun _ => rfl) (dl_cons_eq (fun _ => rfl) (dl_cons_eq (fun _ => rfl) (dl_cons_eq (fun _ => rfl) (dl_cons_eq (fun _ => rfl) (dl_cons_eq (fun _ => rfl) (dl_cons_eq (fun _ => rfl) rfl))))))))))))))))))))))))) (cons_eq ((eD_skip (by rfl)).trans (eD_miss (fun hD => hn (hcl 19 _ rfl (hcl 20 _ rfl (hcl 21 _ rfl hD 20 dc) 19 dc) 18 dc)) rfl)) (cons_eq ((eD_skip (by rfl)).trans (eD_miss (fun hD => hn (hcl 19 _ rfl (hcl 20 _ rfl (hcl 21 _ rfl hD 20 dc) 19 dc) 18 dc)) (eD_miss (fun hD => hn (hcl 19 _ rfl (hcl 20 _ rfl hD 19 dc) 18 dc)) eD_nil))) (cons_eq ((eD_skip (by rfl)).trans (eD_miss (fun hD => hn (hcl 19 _ rfl (hcl 20 _ rfl (hcl 21 _ rfl hD 20 dc) 19 dc) 18 dc)) eD_nil)) (cons_eq ((eD_skip (by rfl)).trans (eD_miss (fun hD => hn (hcl 19 _ rfl (hcl 20 _ rfl (hcl 21 _ rfl hD 20 dc) 19 dc) 18 dc)) eD_nil)) (cons_eq ((eD_skip (by rfl)).trans (eD_miss (fun hD => hn (hcl 19 _ rfl (hcl 20 _ rfl (hcl 21 _ rfl (hcl 22 _ rfl hD 21 dc) 20 dc) 19 dc) 18 dc)) eD_nil)) rfl)))))
 ·
  intro D b hn hd hcl
  obtain ⟨hd1, hd2, ⟨zs1, hz1⟩, ⟨zs2, hz2⟩, hd3, v4⟩ := b
  refine TO.rewL (L' := [eD D emp [(12, vecN encN_T_string nest_T_string 48 1 hd1.v r1)], emp, emp, emp, emp]) (cons_eq (eD_miss (fun hD => hn (hcl 20 _ rfl (hcl 21 _ rfl hD 20 dc) 19 dc)) rfl) (cons_eq (eD_miss (fun hD => hn (hcl 20 _ rfl (hcl 21 _ rfl hD 20 dc) 19 dc)) (eD_miss (fun hD => hn (hcl 20 _ rfl hD 19 dc)) eD_nil)) (cons_eq (eD_miss (fun hD => hn (hcl 20 _ rfl (hcl 21 _ rfl hD 20 dc) 19 dc)) eD_nil) (cons_eq (eD_miss (fun hD => hn (hcl 20 _ rfl (hcl 21 _ rfl hD 20 dc) 19 dc)) eD_nil) (cons_eq (eD_miss (fun hD => hn (hcl 20 _ rfl (hcl 21 _ rfl (hcl 22 _ rfl hD 21 dc) 20 dc) 19 dc)) eD_nil) rfl))))) ?_
  refine TO.lenVw (hrd.vw (i := 4) rfl) rfl dc (dl_lookup (m := 18) rfl rfl (hd 18 dc)) Tryd.underlying57 ?_
  exact TX.valG (hd1, hd2, ⟨zs1, hz1⟩, ⟨zs2, hz2⟩, hd3, v4) 19 (by rfl) (by rfl) rfl (dl_cons_eq (fun _ => rfl) (dl_cons_eq (fun _ => rfl) (dl_cons_eq (fun _ => rfl) (dl_cons_eq (fun _ => rfl) (dl_cons_eq (fun _ => rfl) (dl_cons_eq (fun _ => rfl) (dl_cons_eq (fun _ => rfl) (dl_cons_eq (fun _ => rfl) (dl_cons_eq (fun _ => rfl) (dl_cons_eq (fun _ => rfl) (dl_cons_eq (fun _ => rfl) (dl_cons_eq (fun _ => rfl) (dl_cons_eq (fun _ => rfl) (dl_cons_eq (fun _ => rfl) (dl_cons_eq (fun _ => rfl) (dl_cons_eq (fun _ => rfl) (dl_cons_eq (fun _ => rfl) (dl_cons_eq (fun _ => rfl) (dl_cons_eq (fun _ => rfl) (dl_cons_eq (fun _ => rfl) (dl_cons_eq (fun _ => rfl) (dl_cons_eq (fun _ => rfl) (dl_cons_eq (fun _ => rfl) (dl_cons_eq (fun _ => rfl) (dl_cons_eq (fun _ => rfl) rfl))))))))))))))))))))))))) (cons_eq ((eD_skip (by rfl)).trans (eD_miss (fun hD => hn (hcl 20 _ rfl (hcl 21 _ rfl hD 20 dc) 19 dc)) rfl)) (cons_eq ((eD_skip (by rfl)).trans (eD_miss (fun hD => hn (hcl 20 _ rfl (hcl 21 _ rfl hD 20 dc) 19 dc)) (eD_miss (fun hD => hn (hcl 20 _ rfl hD 19 dc)) eD_nil))) (cons_eq ((eD_skip (by rfl)).trans (eD_miss (fun hD => hn (hcl 20 _ rfl (hcl 21 _ rfl hD 20 dc) 19 dc)) eD_nil)) (cons_eq ((eD_skip (by rfl)).trans (eD_miss (fun hD => hn (hcl 20 _ rfl (hcl 21 _ rfl hD 20 dc) 19 dc)) eD_nil)) (cons_eq ((eD_skip (by rfl)).trans (eD_miss (fun hD => hn (hcl 20 _ rfl (hcl 21 _ rfl (hcl 22 _ rfl hD 21 dc) 20 dc) 19 dc)) eD_nil)) rfl)))))
 ·
  intro D b hn hd hcl
  obtain ⟨hd1, _, ⟨zs1, hz1⟩, ⟨zs2, hz2⟩, hd3, v4⟩ := b
  refine TO.rewL (L' := [vecN encN_T_string nest_T_string 48 1 hd1.v r1, emp, emp, emp, emp]) (cons_eq (eD_miss (fun hD => hn (hcl 21 _ rfl hD 20 dc)) (eD_hit (hd 12 dc) rfl)) (cons_eq (eD_miss (fun hD => hn (hcl 21 _ rfl hD 20 dc)) (eD_miss hn eD_nil)) (cons_eq (eD_miss (fun hD => hn (hcl 21 _ rfl hD 20 dc)) eD_nil) (cons_eq (eD_miss (fun hD => hn (hcl 21 _ rfl hD 20 dc)) eD_nil) (cons_eq (eD_miss (fun hD => hn (hcl 21 _ rfl (hcl 22 _ rfl hD 21 dc) 20 dc)) eD_nil) rfl))))) ?_
  refine TO.callR (vs := [.pointer (some ⟨bq1, 0, none⟩), .int .i64 0, .int .i64 (q1.told_lines.length : Int)]) hrd rfl dc rfl (evL.cons (dl_lookup (m := 13) rfl rfl (hd 13 dc)) (evL.cons rfl (evL.cons (dl_lookup (m := 19) rfl rfl (hd 19 dc)) evL.nil))) rfl en_61 (poem_Poem_rows_fn (bp1 := bq1) (p1 := q1) (p1_h0 := q1_h0) (p1_h1 := q1_h1) hq2) Splits.nil (.ro 3 rfl (.ro 4 rfl (.ro 5 rfl .nil))) ?_
  rintro v2
  show TO _ _ _ _ _ _ _ _ _ _ [vecN encN_T_string nest_T_string 48 1 hd1.v r1, emp, emp, emp, emp, vecN encN_T_string nest_T_string 48 1 v2 r2]
  refine TO.weakenL (L' := [vecN encN_T_string nest_T_string 48 1 hd1.v r1, emp, emp, emp, emp, vecN encN_T_string nest_T_string 48 1 v2 r2]) (Splits.of [0, 1, 2, 3, 4, 5] kr rfl) ?_
  refine TO.nameHdN (k := 5) rfl (fun hd2 he2 => ?_)
  subst he2
  refine TO.place 1 rfl rfl ?_
  show TO _ _ _ _ _ _ _ _ _ _ [vecN encN_T_string nest_T_string 48 1 hd1.v r1, vecN encN_T_string nest_T_string 48 1 hd2.v r2, emp, emp, emp]
  exact TX.valG (hd1, hd2, ⟨zs1, hz1⟩, ⟨zs2, hz2⟩, hd3, v4) 20 (by rfl) (by rfl) rfl (dl_cons_eq (fun _ => rfl) (dl_cons_eq (fun _ => rfl) (dl_cons_eq (fun _ => rfl) (dl_cons_eq (fun _ => rfl) (dl_cons_eq (fun _ => rfl) (dl_cons_eq (fun _ => rfl) (dl_cons_eq (fun _ => rfl) (dl_cons_eq (fun _ => rfl) (dl_cons_eq (fun _ => rfl) (dl_cons_eq (fun _ => rfl) (dl_cons_eq (fun _ => rfl) (dl_cons_eq (fun _ => rfl) (dl_cons_eq (fun _ => rfl) (dl_cons_eq (fun _ => rfl) (dl_cons_eq (fun _ => rfl) (dl_cons_eq (fun _ => rfl) (dl_cons_eq (fun _ => rfl) (dl_cons_eq (fun _ => rfl) (dl_cons_eq (fun _ => rfl) (dl_cons_eq (fun _ => rfl) (dl_cons_eq (fun hD => absurd hD hn) (dl_cons_eq (fun _ => rfl) (dl_cons_eq (fun _ => rfl) (dl_cons_eq (fun _ => rfl) (dl_cons_eq (fun _ => rfl) rfl))))))))))))))))))))))))) (cons_eq ((eD_skip (by rfl)).trans (eD_miss (fun hD => hn (hcl 21 _ rfl hD 20 dc)) (eD_hit (hd 12 dc) rfl))) (cons_eq (eD_miss (fun h => h.elim (fun hD => hn (hcl 21 _ rfl hD 20 dc)) (fun h => absurd h dc)) (eD_hit (Or.inr rfl) rfl)) (cons_eq ((eD_skip (by rfl)).trans (eD_miss (fun hD => hn (hcl 21 _ rfl hD 20 dc)) eD_nil)) (cons_eq ((eD_skip (by rfl)).trans (eD_miss (fun hD => hn (hcl 21 _ rfl hD 20 dc)) eD_nil)) (cons_eq ((eD_skip (by rfl)).trans (eD_miss (fun hD => hn (hcl 21 _ rfl (hcl 22 _ rfl hD 21 dc) 20 dc)) eD_nil)) rfl)))))
 ·
  intro D b hn hd hcl
  obtain ⟨hd1, hd2, _, _, _, v4⟩ := b
  refine TO.rewL (L' := [vecN encN_T_string nest_T_string 48 1 hd1.v r1, vecN encN_T_string nest_T_string 48 1 hd2.v r2, emp, emp, emp]) (cons_eq (eD_miss hn (eD_hit (hd 12 dc) rfl)) (cons_eq (eD_miss hn (eD_hit (hd 20 dc) rfl)) (cons_eq (eD_miss hn eD_nil) (cons_eq (eD_miss hn eD_nil) (cons_eq (eD_miss (fun hD => hn (hcl 22 _ rfl hD 21 dc)) eD_nil) rfl))))) ?_
  refine TO.unfold1 (k := 0) rfl openE (fun zs1 hz1 => ?_)
  show TO _ _ _ _ _ _ _ _ _ _ [vec encN_T_string 48 1 hd1.v zs1, vecN encN_T_string nest_T_string 48 1 hd2.v r2, emp, emp, emp, own nest_T_string zs1]
  refine TO.unfold1 (k := 1) rfl openE (fun zs2 hz2 => ?_)
  show TO _ _ _ _ _ _ _ _ _ _ [vec encN_T_string 48 1 hd1.v zs1, vec encN_T_string 48 1 hd2.v zs2, emp, emp, emp, own nest_T_string zs1, own nest_T_string zs2]
  refine TO.vecVw (k := 1) rfl (fun hw1 => ?_)
  refine TO.appendVw (k := 0) (k2 := 1) Tryd.underlying54 el_48 encN_T_string_len encN_T_string_one hw1 rfl dc (dl_lookup (m := 12) rfl rfl (hd 12 dc)) (dl_lookup (m := 20) rfl rfl (hd 20 dc)) rfl rfl (by rw [zlen hz1, zlen hz2]; exact hg1) (fun v3 => ?_)
  show TO _ _ _ _ _ _ _ _ _ _ [vec encN_T_string 48 1 v3 (zs1 ++ zs2), vec encN_T_string 48 1 hd2.v zs2, emp, emp, emp, own nest_T_string zs1, own nest_T_string zs2]
  refine TO.nameHd (k := 0) rfl (fun hd3 he3 => ?_)
  subst he3
  refine TO.fold1 (k := 5) rfl (Splits.of [6] kr rfl) rfl (ownCat (nest := nest_T_string) (zs := zs1) (ys := zs2)) ?_
  show TO _ _ _ _ _ _ _ _ _ _ [vec encN_T_string 48 1 hd3.v (zs1 ++ zs2), vec encN_T_string 48 1 hd2.v zs2, emp, emp, emp, own nest_T_string (zs1 ++ zs2), emp]
  refine TO.fold1 (k := 0) rfl (Splits.of [5] kr rfl) rfl (closeE (enc := encN_T_string) (nest := nest_T_string) (zcat hz1 hz2)) ?_
  show TO _ _ _ _ _ _ _ _ _ _ [vecN encN_T_string nest_T_string 48 1 hd3.v (r1 ++ r2), vec encN_T_string 48 1 hd2.v zs2, emp, emp, emp, emp, emp]
  refine TO.place 3 rfl rfl ?_
  show TO _ _ _ _ _ _ _ _ _ _ [vecN encN_T_string nest_T_string 48 1 hd3.v (r1 ++ r2), vec encN_T_string 48 1 hd2.v zs2, emp, emp, emp, emp]
  refine TO.place 2 rfl rfl ?_
  show TO _ _ _ _ _ _ _ _ _ _ [vecN encN_T_string nest_T_string 48 1 hd3.v (r1 ++ r2), vec encN_T_string 48 1 hd2.v zs2, emp, emp, emp]
  exact TX.valG (hd1, hd2, ⟨zs1, hz1⟩, ⟨zs2, hz2⟩, hd3, v4) 21 (by rfl) (by rfl) rfl (dl_cons_eq (fun _ => rfl) (dl_cons_eq (fun _ => rfl) (dl_cons_eq (fun _ => rfl) (dl_cons_eq (fun _ => rfl) (dl_cons_eq (fun _ => rfl) (dl_cons_eq (fun _ => rfl) (dl_cons_eq (fun _ => rfl) (dl_cons_eq (fun _ => rfl) (dl_cons_eq (fun _ => rfl) (dl_cons_eq (fun _ => rfl) (dl_cons_eq (fun _ => rfl) (dl_cons_eq (fun _ => rfl) (dl_cons_eq (fun _ => rfl) (dl_cons_eq (fun _ => rfl) (dl_cons_eq (fun _ => rfl) (dl_cons_eq (fun _ => rfl) (dl_cons_eq (fun _ => rfl) (dl_cons_eq (fun _ => rfl) (dl_cons_eq (fun _ => rfl) (dl_cons_eq (fun _ => rfl) (dl_cons_eq (fun _ => rfl) (dl_cons_eq (fun hD => absurd hD hn) (dl_cons_eq (fun _ => rfl) (dl_cons_eq (fun _ => rfl) (dl_cons_eq (fun _ => rfl) rfl))))))))))))))))))))))))) (cons_eq (eD_hit (Or.inr rfl) rfl) (cons_eq (eD_hit (Or.inr rfl) rfl) (cons_eq (eD_hit (Or.inr rfl) rfl) (cons_eq (eD_hit (Or.inr rfl) rfl) (cons_eq ((eD_skip (by rfl)).trans (eD_miss (fun hD => hn (hcl 22 _ rfl hD 21 dc)) eD_nil)) rfl)))))
 ·
  intro D b hn hd hcl
  obtain ⟨hd1, hd2, ⟨zs1, hz1⟩, ⟨zs2, hz2⟩, hd3, _⟩ := b
  refine TO.rewL (L' := [vecN encN_T_string nest_T_string 48 1 hd3.v (r1 ++ r2), vec encN_T_string 48 1 hd2.v zs2, emp, emp, emp]) (cons_eq (eD_hit (hd 21 dc) rfl) (cons_eq (eD_hit (hd 21 dc) rfl) (cons_eq (eD_hit (hd 21 dc) rfl) (cons_eq (eD_hit (hd 21 dc) rfl) (cons_eq (eD_miss hn eD_nil) rfl))))) ?_
  refine TO.callR (vs := [.string p1.told_title, hd3.v]) hrd rfl dc rfl (evL.cons (dl_lookup (m := 4) rfl rfl (hd 4 dc)) (evL.cons (dl_lookup (m := 21) rfl rfl (hd 21 dc)) evL.nil)) rfl en_62 (FnR.closeN (nest := nest_T_string) (e := 48) (v := hd3.v) (xs := r1 ++ r2) (RD1 := []) (RD2 := []) encN_T_string_len gives_T_string (fun zs_c0 hz_c0 hV_c0 => (poem_made_fn (vstanzas1 := hd3) hV_c0 hz_c0 hq3))) Splits.nil (.own (Splits.of [0] (by kernel_rfl) rfl) (fun _ _ h => sepL.one1.1 h) .nil) ?_
  rintro v4
  show TO _ _ _ _ _ _ _ _ _ _ [vecN encN_T_string nest_T_string 48 1 hd3.v (r1 ++ r2), vec encN_T_string 48 1 hd2.v zs2, emp, emp, emp, pobj encN_Gpoem_Poem nest_Gpoem_Poem 93 v4 r3.1]
  refine TO.weakenL (L' := [vecN encN_T_string nest_T_string 48 1 hd3.v (r1 ++ r2), vec encN_T_string 48 1 hd2.v zs2, emp, emp, emp, pobj encN_Gpoem_Poem nest_Gpoem_Poem 93 v4 r3.1]) (Splits.of [0, 1, 2, 3, 4, 5] kr rfl) (TO.place 4 rfl rfl ?_)
  show TO _ _ _ _ _ _ _ _ _ _ [vecN encN_T_string nest_T_string 48 1 hd3.v (r1 ++ r2), vec encN_T_string 48 1 hd2.v zs2, emp, emp, pobj encN_Gpoem_Poem nest_Gpoem_Poem 93 v4 r3.1]
  exact TX.valG (hd1, hd2, ⟨zs1, hz1⟩, ⟨zs2, hz2⟩, hd3, v4) 22 (by rfl) (by rfl) rfl (dl_cons_eq (fun _ => rfl) (dl_cons_eq (fun _ => rfl) (dl_cons_eq (fun _ => rfl) (dl_cons_eq (fun _ => rfl) (dl_cons_eq (fun _ => rfl) (dl_cons_eq (fun _ => rfl) (dl_cons_eq (fun _ => rfl) (dl_cons_eq (fun _ => rfl) (dl_cons_eq (fun _ => rfl) (dl_cons_eq (fun _ => rfl) (dl_cons_eq (fun _ => rfl) (dl_cons_eq (fun _ => rfl) (dl_cons_eq (fun _ => rfl) (dl_cons_eq (fun _ => rfl) (dl_cons_eq (fun _ => rfl) (dl_cons_eq (fun _ => rfl) (dl_cons_eq (fun _ => rfl) (dl_cons_eq (fun _ => rfl) (dl_cons_eq (fun _ => rfl) (dl_cons_eq (fun _ => rfl) (dl_cons_eq (fun _ => rfl) (dl_cons_eq (fun _ => rfl) (dl_cons_eq (fun hD => absurd hD hn) (dl_cons_eq (fun hD => absurd (hcl 23 _ rfl hD 22 dc) hn) (dl_cons_eq (fun _ => rfl) rfl))))))))))))))))))))))))) (cons_eq ((eD_skip (by rfl)).trans (eD_hit (hd 21 dc) rfl)) (cons_eq ((eD_skip (by rfl)).trans (eD_hit (hd 21 dc) rfl)) (cons_eq ((eD_skip (by rfl)).trans (eD_hit (hd 21 dc) rfl)) (cons_eq ((eD_skip (by rfl)).trans (eD_hit (hd 21 dc) rfl)) (cons_eq (eD_hit (Or.inr rfl) rfl) rfl)))))
 ·
  intro D b hn hd hcl
  obtain ⟨hd1, hd2, ⟨zs1, hz1⟩, ⟨zs2, hz2⟩, hd3, v4⟩ := b
  refine TO.rewL (L' := [vecN encN_T_string nest_T_string 48 1 hd3.v (r1 ++ r2), vec encN_T_string 48 1 hd2.v zs2, emp, emp, pobj encN_Gpoem_Poem nest_Gpoem_Poem 93 v4 r3.1]) (cons_eq (eD_hit (hcl 22 _ rfl (hd 22 dc) 21 dc) rfl) (cons_eq (eD_hit (hcl 22 _ rfl (hd 22 dc) 21 dc) rfl) (cons_eq (eD_hit (hcl 22 _ rfl (hd 22 dc) 21 dc) rfl) (cons_eq (eD_hit (hcl 22 _ rfl (hd 22 dc) 21 dc) rfl) (cons_eq (eD_hit (hd 22 dc) rfl) rfl))))) (TO.extract rfl dc (dl_lookup (m := 22) rfl rfl (hd 22 dc)) rfl ?_)
  exact TX.valG (hd1, hd2, ⟨zs1, hz1⟩, ⟨zs2, hz2⟩, hd3, v4) 23 (by rfl) (by rfl) rfl (dl_cons_eq (fun _ => rfl) (dl_cons_eq (fun _ => rfl) (dl_cons_eq (fun _ => rfl) (dl_cons_eq (fun _ => rfl) (dl_cons_eq (fun _ => rfl) (dl_cons_eq (fun _ => rfl) (dl_cons_eq (fun _ => rfl) (dl_cons_eq (fun _ => rfl) (dl_cons_eq (fun _ => rfl) (dl_cons_eq (fun _ => rfl) (dl_cons_eq (fun _ => rfl) (dl_cons_eq (fun _ => rfl) (dl_cons_eq (fun _ => rfl) (dl_cons_eq (fun _ => rfl) (dl_cons_eq (fun _ => rfl) (dl_cons_eq (fun _ => rfl) (dl_cons_eq (fun _ => rfl) (dl_cons_eq (fun _ => rfl) (dl_cons_eq (fun _ => rfl) (dl_cons_eq (fun _ => rfl) (dl_cons_eq (fun _ => rfl) (dl_cons_eq (fun _ => rfl) (dl_cons_eq (fun _ => rfl) (dl_cons_eq (fun _ => rfl) (dl_cons_eq (fun _ => rfl) rfl))))))))))))))))))))))))) (cons_eq ((eD_skip (by rfl)).trans (eD_hit (hcl 22 _ rfl (hd 22 dc) 21 dc) rfl)) (cons_eq ((eD_skip (by rfl)).trans (eD_hit (hcl 22 _ rfl (hd 22 dc) 21 dc) rfl)) (cons_eq ((eD_skip (by rfl)).trans (eD_hit (hcl 22 _ rfl (hd 22 dc) 21 dc) rfl)) (cons_eq ((eD_skip (by rfl)).trans (eD_hit (hcl 22 _ rfl (hd 22 dc) 21 dc) rfl)) (cons_eq ((eD_skip (by rfl)).trans (eD_hit (hd 22 dc) rfl)) rfl)))))
 ·
  intro D b hn hd hcl
  obtain ⟨hd1, hd2, ⟨zs1, hz1⟩, ⟨zs2, hz2⟩, hd3, v4⟩ := b
  refine TO.rewL (L' := [vecN encN_T_string nest_T_string 48 1 hd3.v (r1 ++ r2), vec encN_T_string 48 1 hd2.v zs2, emp, emp, pobj encN_Gpoem_Poem nest_Gpoem_Poem 93 v4 r3.1]) (cons_eq (eD_hit (hcl 22 _ rfl (hd 22 dc) 21 dc) rfl) (cons_eq (eD_hit (hcl 22 _ rfl (hd 22 dc) 21 dc) rfl) (cons_eq (eD_hit (hcl 22 _ rfl (hd 22 dc) 21 dc) rfl) (cons_eq (eD_hit (hcl 22 _ rfl (hd 22 dc) 21 dc) rfl) (cons_eq (eD_hit (hd 22 dc) rfl) rfl))))) (TO.extract rfl dc (dl_lookup (m := 22) rfl rfl (hd 22 dc)) rfl ?_)
  exact TX.valG (hd1, hd2, ⟨zs1, hz1⟩, ⟨zs2, hz2⟩, hd3, v4) 24 (by rfl) (by rfl) rfl (dl_cons_eq (fun _ => rfl) (dl_cons_eq (fun _ => rfl) (dl_cons_eq (fun _ => rfl) (dl_cons_eq (fun _ => rfl) (dl_cons_eq (fun _ => rfl) (dl_cons_eq (fun _ => rfl) (dl_cons_eq (fun _ => rfl) (dl_cons_eq (fun _ => rfl) (dl_cons_eq (fun _ => rfl) (dl_cons_eq (fun _ => rfl) (dl_cons_eq (fun _ => rfl) (dl_cons_eq (fun _ => rfl) (dl_cons_eq (fun _ => rfl) (dl_cons_eq (fun _ => rfl) (dl_cons_eq (fun _ => rfl) (dl_cons_eq (fun _ => rfl) (dl_cons_eq (fun _ => rfl) (dl_cons_eq (fun _ => rfl) (dl_cons_eq (fun _ => rfl) (dl_cons_eq (fun _ => rfl) (dl_cons_eq (fun _ => rfl) (dl_cons_eq (fun _ => rfl) (dl_cons_eq (fun _ => rfl) (dl_cons_eq (fun _ => rfl) (dl_cons_eq (fun _ => rfl) rfl))))))))))))))))))))))))) (cons_eq ((eD_skip (by rfl)).trans (eD_hit (hcl 22 _ rfl (hd 22 dc) 21 dc) rfl)) (cons_eq ((eD_skip (by rfl)).trans (eD_hit (hcl 22 _ rfl (hd 22 dc) 21 dc) rfl)) (cons_eq ((eD_skip (by rfl)).trans (eD_hit (hcl 22 _ rfl (hd 22 dc) 21 dc) rfl)) (cons_eq ((eD_skip (by rfl)).trans (eD_hit (hcl 22 _ rfl (hd 22 dc) 21 dc) rfl)) (cons_eq ((eD_skip (by rfl)).trans (eD_hit (hd 22 dc) rfl)) rfl)))))
 intro D b hall
 obtain ⟨hd1, hd2, ⟨zs1, hz1⟩, ⟨zs2, hz2⟩, hd3, v4⟩ := b
 refine TO.rewL (L' := [vecN encN_T_string nest_T_string 48 1 hd3.v (r1 ++ r2), vec encN_T_string 48 1 hd2.v zs2, emp, emp, pobj encN_Gpoem_Poem nest_Gpoem_Poem 93 v4 r3.1]) (cons_eq (eD_hit (hall 21 dc) rfl) (cons_eq (eD_hit (hall 21 dc) rfl) (cons_eq (eD_hit (hall 21 dc) rfl) (cons_eq (eD_hit (hall 21 dc) rfl) (cons_eq (eD_hit (hall 22 dc) rfl) rfl))))) (TO.assign rfl dc rfl (TO.assign rfl dc rfl (TO.nil (TX.next (TC.ret ?_)))))
 cases h
 exact TX.fin (rs := [.tmp 4, .tmp 5]) v4 (.inl rfl) Tryd.results22 (.cons (.tmp rfl) (.cons (.tmp rfl) .nil)) rfl (Splits.of [4] kr rfl)
end Go.Proofs.YtgfkogafkhbgnaaDoor
namespace Go.Proofs.YtgfkogafkhbgnaaDoor
open Go.RowKit Go.Lib
set_option linter.unusedVariables false
set_option linter.unusedSimpArgs false
theorem mkB_app (a b : List UInt8) : mkB a ++ mkB b = mkB (a ++ b) := by
  have h : ∀ a b : ByteArray, a.data.toList = b.data.toList → a = b := fun a b h => by
    have : mkB a.data.toList = mkB b.data.toList := by rw [h]
    exact this
  apply h
  rw [ByteArray.data_append, Array.toList_append]
  rfl
abbrev Row := List (List UInt8)
def lnT (r : Row) : List UInt8 := r.flatMap (· ++ [10])
def sepT (a : List UInt8) : List UInt8 := if a = [] then a else a ++ [10]
def needH (t : List UInt8) : List Row → Bool
  | (x :: _) :: _ => decide (t ≠ []) || titl x
  | _ => decide (t ≠ [])
def headT (t : List UInt8) (z : List Row) : List UInt8 := if needH t z then 35 :: 32 :: t ++ [10] else []
def prF (a : List UInt8) (z : List Row) : List UInt8 := z.foldl (fun a r => sepT a ++ lnT r) a
/-- The one form. -/
def prT (t : List UInt8) (z : List Row) : List UInt8 := prF (headT t z) z
def wtR (r : Row) : Nat := (r.map fun x => x.length + 1).sum
def wtZ (z : List Row) : Nat := (z.map fun r => 1 + wtR r).sum
theorem wtR_cons (x : List UInt8) (r : Row) : wtR (x :: r) = x.length + 1 + wtR r := by unfold wtR; rw [List.map_cons, List.sum_cons]
theorem wtZ_cons (r : Row) (z : List Row) : wtZ (r :: z) = 1 + wtR r + wtZ z := by unfold wtZ; rw [List.map_cons, List.sum_cons]
theorem lnT_cons (x : List UInt8) (r : Row) : lnT (x :: r) = x ++ [10] ++ lnT r := List.flatMap_cons
theorem lnT_len (r : Row) : (lnT r).length = wtR r := by
  induction r with
  | nil => rfl
  | cons x r ih => rw [lnT_cons, wtR_cons, List.length_append, List.length_append, ih]; rfl
theorem wtR_len (r : Row) : r.length ≤ wtR r := by
  induction r with
  | nil => exact Nat.le_refl _
  | cons x r ih => rw [wtR_cons, List.length_cons]; omega
theorem wtZ_len (z : List Row) : z.length ≤ wtZ z := by
  induction z with
  | nil => exact Nat.le_refl _
  | cons r z ih => rw [wtZ_cons, List.length_cons]; omega
theorem sepT_len (a : List UInt8) : (sepT a).length ≤ a.length + 1 := by
  unfold sepT; split
  · omega
  · rw [List.length_append]; simp
theorem prF_len : ∀ (z : List Row) (a : List UInt8), (prF a z).length ≤ a.length + wtZ z
  | [], a => by show a.length ≤ _; omega
  | r :: z, a => by
    show (prF (sepT a ++ lnT r) z).length ≤ _
    have h1 := prF_len z (sepT a ++ lnT r)
    have h2 := sepT_len a
    rw [List.length_append, lnT_len] at h1
    rw [wtZ_cons]; omega
theorem headT_len (t : List UInt8) (z : List Row) : (headT t z).length ≤ t.length + 3 := by
  unfold headT; split
  · simp
  · simp
theorem prT_len (t : List UInt8) (z : List Row) : (prT t z).length ≤ t.length + 3 + wtZ z := by
  have h1 := prF_len z (headT t z)
  have h2 := headT_len t z
  unfold prT; omega
theorem printed_in (r : Row) (J : ByteArray → Option ByteArray) (a0 : List UInt8) (hb : a0.length + wtR r ≤ 70368744177664) : ∀ (n i : Nat) (a : List UInt8), i ≤ r.length → r.length - i < n → a.length + wtR (r.drop i) ≤ 70368744177664 →
    loopG (fun _ _ => none) (poem_printed_s2 J (r.map mkB)) n (mkB a) (i : Int) = J (mkB (a ++ lnT (r.drop i))) := by
  intro n
  induction n with
  | zero => intro i a h1 h2; omega
  | succ n ih =>
    intro i a hi hn ha
    rw [loopG_succ]
    obtain ⟨ag, hag⟩ : ∃ ag, ag = loopG (fun _ _ => none) (poem_printed_s2 J (r.map mkB)) n := ⟨_, rfl⟩
    rw [← hag] at ih ⊢
    unfold poem_printed_s2
    have hrl := wtR_len r
    rcases Nat.lt_or_ge i r.length with h | h
    · have hd : r.drop i = r[i] :: r.drop (i + 1) := List.drop_eq_getElem_cons h
      rw [hd, wtR_cons] at ha
      have hg : getO (r.map mkB) (i : Int) = some (mkB r[i]) := getO_nat (by rw [List.getElem?_map, List.getElem?_eq_getElem h]; rfl)
      refine condTI (decide_eq_true (by rw [List.length_map]; omega)) (thenI hg ?_)
      rw [show (⟨#[10]⟩ : ByteArray) = mkB [10] from rfl, mkB_app, mkB_app]
      refine grdI (by rw [mkB_size, mkB_size]; simp only [List.length_singleton]; omega) (grdI (by rw [mkB_size, mkB_size, List.length_append]; simp only [List.length_singleton]; omega) (grdI ⟨by omega, by omega⟩ ?_))
      rw [show (i : Int) + 1 = ((i + 1 : Nat) : Int) by omega, ih (i + 1) _ (by omega) (by omega) (by rw [List.length_append, List.length_append]; simp only [List.length_singleton]; omega), hd, lnT_cons]
      simp only [List.append_assoc]
    · rw [List.drop_eq_nil_of_le h]
      refine condFI (decide_eq_false (by rw [List.length_map]; omega)) ?_
      show J (mkB a) = J (mkB (a ++ []))
      rw [List.append_nil]
theorem printed_out (z : List Row) (hz : z.length ≤ 70368744177664) (J : ByteArray → Option ByteArray) : ∀ (n i : Nat) (a : List UInt8), i ≤ z.length → z.length - i < n → a.length + wtZ (z.drop i) ≤ 70368744177664 →
    loopG (fun _ _ => none) (poem_printed_s1 (mkZ z) J) n (mkB a) (i : Int) = J (mkB (prF a (z.drop i))) := by
  intro n
  induction n with
  | zero => intro i a h1 h2; omega
  | succ n ih =>
    intro i a hi hn ha
    rw [loopG_succ]
    obtain ⟨ag, hag⟩ : ∃ ag, ag = loopG (fun _ _ => none) (poem_printed_s1 (mkZ z) J) n := ⟨_, rfl⟩
    rw [← hag] at ih ⊢
    unfold poem_printed_s1
    rcases Nat.lt_or_ge i z.length with h | h
    · have hd : z.drop i = z[i] :: z.drop (i + 1) := List.drop_eq_getElem_cons h
      have hdl := wtZ_len (z.drop i)
      rw [List.length_drop] at hdl
      rw [hd, wtZ_cons] at ha
      have hg : getO (mkZ z) (i : Int) = some (z[i].map mkB) := getO_nat (by unfold mkZ; rw [List.getElem?_map, List.getElem?_eq_getElem h]; rfl)
      have hsl := sepT_len a
      refine condTI (decide_eq_true (by rw [mkZ_len]; omega)) (joinI (thenI hg (joinI ?_)))
      have hin := printed_in z[i] (fun (b8 : ByteArray) => grd (I64 ((i : Int) + 1)) <| ag b8 ((i : Int) + 1)) (sepT a) (by omega) fuel 0 (sepT a) (Nat.zero_le _) (by have := wtR_len z[i]; unfold fuel; omega) (by rw [List.drop_zero]; omega)
      have fin : (grd (I64 ((i : Int) + 1)) <| ag (mkB (sepT a ++ lnT z[i])) ((i : Int) + 1)) = J (mkB (prF a (z.drop i))) := by
        rw [hd]
        refine grdI ⟨by omega, by omega⟩ ?_
        rw [show (i : Int) + 1 = ((i + 1 : Nat) : Int) by omega, ih (i + 1) _ (by omega) (by omega) (by rw [List.length_append, lnT_len]; omega)]
        rfl
      by_cases ha0 : a = []
      · subst ha0
        refine condFI (decide_eq_false (by rw [mkB_size]; simp)) ?_
        refine hin.trans ?_
        rw [List.drop_zero]; exact fin
      · have hpos : 0 < a.length := List.length_pos_iff.2 ha0
        refine condTI (decide_eq_true (by rw [mkB_size]; omega)) (grdI (by rw [mkB_size]; show a.length + 1 ≤ _; omega) ?_)
        have e : sepT a = a ++ [10] := if_neg ha0
        rw [show (⟨#[10]⟩ : ByteArray) = mkB [10] from rfl, mkB_app, ← e]
        refine hin.trans ?_
        rw [List.drop_zero]; exact fin
    · rw [List.drop_eq_nil_of_le h]
      exact condFI (decide_eq_false (by rw [mkZ_len]; omega)) rfl
/-- What printed answers. -/
theorem printed_v (t : List UInt8) (z : List Row) (hne : ∀ r ∈ z, r ≠ []) (hw : t.length + 3 + wtZ z ≤ 70368744177664) : poem_printed_v (mkB t) (mkZ z) = some (mkB (prT t z)) := by
  have hzl := wtZ_len z
  unfold poem_printed_v
  refine joinI ?_
  have tail : ∀ b : List UInt8, b = headT t z → (joinK (fun (j2 : ByteArray → Option ByteArray) => loopG (fun _ _ => none) (poem_printed_s1 (mkZ z) j2) fuel (mkB b) 0) (fun (b4 : ByteArray) => some b4)) = some (mkB (prT t z)) := fun b hb => by
    have hl := headT_len t z
    have := printed_out z (by omega) (fun (b4 : ByteArray) => some b4) fuel 0 b (Nat.zero_le _) (by unfold fuel; omega) (by rw [List.drop_zero, hb]; omega)
    rw [List.drop_zero] at this
    refine joinI (this.trans ?_)
    rw [hb]; rfl
  have hd : (grd ((⟨#[35, 32]⟩ : ByteArray).size + (mkB t).size ≤ 9223372036854775807) <| grd (((⟨#[35, 32]⟩ : ByteArray) ++ mkB t).size + (⟨#[10]⟩ : ByteArray).size ≤ 9223372036854775807) <|
      grd ((⟨#[]⟩ : ByteArray).size + (((⟨#[35, 32]⟩ : ByteArray) ++ mkB t) ++ (⟨#[10]⟩ : ByteArray)).size ≤ 140737488355328) <|
      (joinK (fun (j2 : ByteArray → Option ByteArray) => loopG (fun _ _ => none) (poem_printed_s1 (mkZ z) j2) fuel ((⟨#[]⟩ : ByteArray) ++ (((⟨#[35, 32]⟩ : ByteArray) ++ mkB t) ++ (⟨#[10]⟩ : ByteArray))) 0) (fun (b4 : ByteArray) => some b4))) =
        (joinK (fun (j2 : ByteArray → Option ByteArray) => loopG (fun _ _ => none) (poem_printed_s1 (mkZ z) j2) fuel (mkB (35 :: 32 :: t ++ [10])) 0) (fun (b4 : ByteArray) => some b4)) := by
    rw [show (⟨#[35, 32]⟩ : ByteArray) = mkB [35, 32] from rfl, show (⟨#[10]⟩ : ByteArray) = mkB [10] from rfl, show (⟨#[]⟩ : ByteArray) = mkB [] from rfl, mkB_app, mkB_app, mkB_app]
    refine grdI ?_ (grdI ?_ (grdI ?_ rfl))
    · rw [mkB_size, mkB_size]; simp only [List.length_cons, List.length_nil]; omega
    · rw [mkB_size, mkB_size, List.length_append]; simp only [List.length_cons, List.length_nil]; omega
    · rw [mkB_size, mkB_size, List.length_append, List.length_append]; simp only [List.length_cons, List.length_nil]; omega
  by_cases ht : t = []
  · subst ht
    refine condFI (by rw [show (⟨#[]⟩ : ByteArray) = mkB [] from rfl]; simp) ?_
    cases z with
    | nil => exact condFI (decide_eq_false (by simp [mkZ])) (tail [] rfl)
    | cons r z =>
      have hr := hne r (by simp)
      obtain ⟨x, r', rfl⟩ := List.exists_cons_of_ne_nil hr
      refine condTI (decide_eq_true (by rw [mkZ_len, List.length_cons]; omega)) (thenI (a := (x :: r').map mkB) rfl (thenI (a := mkB x) rfl (thenI (titled_v x) ?_)))
      cases hti : titl x with
      | true =>
        refine condTI rfl (hd.trans (tail _ ?_))
        have : needH [] ((x :: r') :: z) = true := by show (decide (([] : List UInt8) ≠ []) || titl x) = true; rw [hti]; rfl
        unfold headT; rw [this]; rfl
      | false =>
        refine condFI rfl (tail [] ?_)
        have : needH [] ((x :: r') :: z) = false := by show (decide (([] : List UInt8) ≠ []) || titl x) = false; rw [hti]; rfl
        unfold headT; rw [this]; rfl
  · refine condTI (by rw [show (⟨#[]⟩ : ByteArray) = mkB [] from rfl, decide_eq_false (fun e => ht (mkB_inj e))]; rfl) (hd.trans (tail _ ?_))
    unfold headT
    have : needH t z = true := by
      unfold needH
      split <;> simp [ht]
    rw [this]; rfl
end Go.Proofs.YtgfkogafkhbgnaaDoor
namespace Go.Proofs.YtgfkogafkhbgnaaDoor
open Go.RowKit Go.Lib
set_option linter.unusedVariables false
set_option linter.unusedSimpArgs false
/-! ### Counting -/
theorem tot_cons (r : Row) (z : List Row) : tot (r :: z) = r.length + tot z := by unfold tot; rw [List.map_cons, List.sum_cons]
theorem tot_wt : ∀ (z : List Row), tot z ≤ wtZ z
  | [] => Nat.le_refl _
  | r :: z => by have := tot_wt z; have := wtR_len r; rw [tot_cons, wtZ_cons]; omega
theorem tot_take : ∀ (z : List Row) (i : Nat) (r : Row), z[i]? = some r → tot (z.take (i + 1)) = tot (z.take i) + r.length
  | [], i, r, h => by simp at h
  | y :: z, 0, r, h => by
    have : y = r := by simpa using h
    subst this
    rw [List.take_succ_cons, List.take_zero, List.take_zero, tot_cons]; show y.length + 0 = 0 + y.length; omega
  | y :: z, i + 1, r, h => by
    rw [List.take_succ_cons, List.take_succ_cons, tot_cons, tot_cons, tot_take z i r (by simpa using h)]; omega
theorem tot_take_le : ∀ (z : List Row) (i : Nat), tot (z.take i) ≤ tot z
  | [], i => by simp
  | y :: z, 0 => by simp [tot]
  | y :: z, i + 1 => by rw [List.take_succ_cons, tot_cons, tot_cons]; have := tot_take_le z i; omega
theorem count_loop {R : Type} {F : (Int → Int → Option R) → Int → Int → Option R} (z : List Row) (hz : tot z ≤ 70368744177664) (hzl : z.length ≤ 70368744177664) (J : Int → Option R)
    (hs : ∀ ag (n i : Int) r, getO (mkZ z) i = some r → (i : Int) < (z.length : Int) → I64 (n + (r.length : Int)) → I64 (i + 1) → F ag n i = ag (n + (r.length : Int)) (i + 1)) (he : ∀ ag n, F ag n (z.length : Int) = J n) :
    ∀ (n i : Nat), i ≤ z.length → z.length - i < n → loopG (fun _ _ => none) F n (tot (z.take i) : Int) (i : Int) = J (tot z : Int) := by
  intro n
  induction n with
  | zero => intro i h1 h2; omega
  | succ n ih =>
    intro i hi hn
    rw [loopG_succ]
    rcases Nat.lt_or_ge i z.length with h | h
    · have hg : getO (mkZ z) (i : Int) = some (z[i].map mkB) := getO_nat (by unfold mkZ; rw [List.getElem?_map, List.getElem?_eq_getElem h]; rfl)
      have h1 := tot_take z i z[i] (List.getElem?_eq_getElem h)
      have h2 := tot_take_le z (i + 1)
      rw [hs _ _ _ _ hg (by omega) (by rw [List.length_map]; exact ⟨by omega, by omega⟩) ⟨by omega, by omega⟩, List.length_map]
      rw [show (tot (z.take i) : Int) + (z[i].length : Int) = (tot (z.take (i + 1)) : Int) by omega, show (i : Int) + 1 = ((i + 1 : Nat) : Int) by omega]
      exact ih (i + 1) (by omega) (by omega)
    · obtain rfl : i = z.length := by omega
      rw [he, List.take_length]
/-- What made answers. -/
theorem made_v (t : List UInt8) (z : List Row) (hne : ∀ r ∈ z, r ≠ []) (hw : t.length + 3 + wtZ z ≤ 70368744177664) : poem_made_v (mkB t) (mkZ z) =
    if 512 < tot z ∨ 65536 < (prT t z).length then some (none, 3) else (poem_Read_v (mkB (prT t z))).bind fun r => some (r.1, 0) := by
  unfold poem_made_v
  have h1 := tot_wt z
  have h2 := wtZ_len z
  have key := count_loop (F := poem_made_s1 (mkZ z) (fun (n1 : Int) => andThen (poem_printed_v (mkB t) (mkZ z)) fun (r1 : ByteArray) => bcond (decide ((512 : Int) < n1)) (some (none, 3)) (bcond (decide ((65536 : Int) < (r1.size : Int))) (some (none, 3)) (andThen (poem_Read_v r1) fun (r2 : ((Option Gpoem_Poem) × Gapi_Spot)) => some (r2.1, 0))))) z (by omega) (by omega)
    (fun (n1 : Int) => andThen (poem_printed_v (mkB t) (mkZ z)) fun (r1 : ByteArray) => bcond (decide ((512 : Int) < n1)) (some (none, 3)) (bcond (decide ((65536 : Int) < (r1.size : Int))) (some (none, 3)) (andThen (poem_Read_v r1) fun (r2 : ((Option Gpoem_Poem) × Gapi_Spot)) => some (r2.1, 0))))
    (fun ag n i r hg hi h1 h2 => by
      unfold poem_made_s1
      exact condTI (decide_eq_true (by rw [mkZ_len]; exact hi)) (thenI hg (grdI h1 (grdI h2 rfl))))
    (fun ag n => by
      unfold poem_made_s1
      exact condFI (decide_eq_false (by rw [mkZ_len]; omega)) rfl) fuel 0 (Nat.zero_le _) (by unfold fuel; omega)
  refine joinI (key.trans ?_)
  refine thenI (printed_v t z hne hw) ?_
  by_cases h512 : 512 < tot z
  · rw [if_pos (.inl h512)]; exact condTI (decide_eq_true (by omega)) rfl
  · refine condFI (decide_eq_false (by omega)) ?_
    by_cases hl : 65536 < (prT t z).length
    · rw [if_pos (.inr hl)]; exact condTI (decide_eq_true (by rw [mkB_size]; omega)) rfl
    · rw [if_neg (by omega)]
      exact condFI (decide_eq_false (by rw [mkB_size]; omega)) rfl
end Go.Proofs.YtgfkogafkhbgnaaDoor
namespace Go.Proofs.YtgfkogafkhbgnaaDoor
open Go.RowKit Go.Lib
set_option linter.unusedVariables false
set_option linter.unusedSimpArgs false
def noE (x : List UInt8) : Prop := ∀ b ∈ x, isE b = false
structure GLn (x : List UInt8) : Prop where
  bl : blank x = false
  le : x.length ≤ 1024
  ne : noE x
/-! ### What a poem that was read is like -/
def enumR : Nat → Row → List (Nat × List UInt8)
  | _, [] => []
  | i, x :: r => (i, x) :: enumR (i + 1) r
def flatZ : Nat → List Row → List (Nat × Nat × List UInt8)
  | _, [] => []
  | k, r :: z => (enumR 0 r).map (fun p => (k, p)) ++ flatZ (k + 1) z
def keyV (v : Gapi_Verse) : ByteArray × Int × Int × Int := (v.Text, v.Indent, v.Stanza, v.In)
def keyL (p : Nat × Nat × List UInt8) : ByteArray × Int × Int × Int := (mkB (p.2.2.drop (ind p.2.2)), (ind p.2.2 : Int), (p.1 : Int), (p.2.1 : Int))
def VOk (vs : List Gapi_Verse) (z : List Row) : Prop := vs.map keyV = (flatZ 0 z).map keyL
theorem enumR_app (x : List UInt8) : ∀ (r : Row) (i : Nat), enumR i (r ++ [x]) = enumR i r ++ [(i + r.length, x)]
  | [], i => rfl
  | y :: r, i => by
    show (i, y) :: enumR (i + 1) (r ++ [x]) = _
    rw [enumR_app x r (i + 1), List.length_cons, show i + 1 + r.length = i + (r.length + 1) by omega]; rfl
theorem flatZ_app : ∀ (a b : List Row) (k : Nat), flatZ k (a ++ b) = flatZ k a ++ flatZ (k + a.length) b
  | [], b, k => rfl
  | r :: a, b, k => by
    show _ ++ flatZ (k + 1) (a ++ b) = _
    rw [flatZ_app a b (k + 1), List.length_cons, show k + 1 + a.length = k + (a.length + 1) by omega, ← List.append_assoc]; rfl
theorem flatZ_one (r : Row) (k : Nat) : flatZ k [r] = (enumR 0 r).map (fun p => (k, p)) := List.append_nil _
structure PInv (st : RS) : Prop extends RInv st where
  vok : VOk st.vs st.stz
  tE : noE st.t
  tL : st.t.length ≤ 1022
  ln : ∀ r ∈ st.stz, ∀ x ∈ r, GLn x
  fr : ∀ v ∈ st.vs, 0 ≤ v.Span_From
theorem flatZ_open (st : RS) : flatZ 0 (open1 st) = flatZ 0 st.stz := by
  unfold open1
  split
  · rfl
  · rw [flatZ_app, flatZ_one]; exact List.append_nil _
theorem PInv.step {st st' : RS} {x : Nat × List UInt8} (h : PInv st) (hx : noE x.2) (hs : rstep st x = .ok st') : PInv st' := by
  refine ⟨h.toRInv.step hs, ?_, ?_, ?_, ?_, ?_⟩ <;> unfold rstep at hs
  all_goals
    split at hs
    · cases hs; first | exact h.vok | exact h.tE | exact h.tL | exact h.ln | exact h.fr
    split at hs
    · cases hs
    split at hs
  · cases hs; exact h.vok
  · split at hs
    · cases hs
    · cases hs
      obtain ⟨init, r, he, hl, hdl, htot, hsp⟩ := last_sp h.toRInv
      show (st.vs ++ [verseOf x.1 x.2 (open1 st)]).map keyV = (flatZ 0 ((open1 st).dropLast ++ [lastL (open1 st) ++ [x.2]])).map keyL
      rw [hdl, hl, flatZ_app, flatZ_one, enumR_app, List.map_append, List.map_append, List.map_append, List.map_append, ← List.append_assoc]
      have h2 : flatZ 0 st.stz = flatZ 0 init ++ (enumR 0 r).map (fun p => (init.length, p)) := by
        rw [← flatZ_open, he, flatZ_app, flatZ_one, Nat.zero_add]
      have h3 := h.vok
      unfold VOk at h3
      rw [h3, h2, List.map_append, Nat.zero_add]
      congr 1
      unfold verseOf keyV
      rw [hl, he]
      simp [keyL]
  · rename_i ht
    cases hs
    intro b hb
    exact hx b (List.mem_of_mem_drop hb)
  · split at hs
    · cases hs
    · cases hs; exact h.tE
  · rename_i hl ht
    cases hs
    show (x.2.drop 2).length ≤ 1022
    rw [List.length_drop]; omega
  · split at hs
    · cases hs
    · cases hs; exact h.tL
  · cases hs; exact h.ln
  · rename_i hb hl ht
    split at hs
    · cases hs
    · cases hs
      obtain ⟨init, r, he, hl2, hdl, htot, hsp⟩ := last_sp h.toRInv
      intro r' hr' y hy
      have hold : ∀ r ∈ open1 st, ∀ x ∈ r, GLn x := fun r hr x hx => by
        unfold open1 at hr
        split at hr
        · exact h.ln r hr x hx
        · rcases List.mem_append.1 hr with hr | hr
          · exact h.ln r hr x hx
          · rw [List.mem_singleton] at hr; subst hr; cases hx
      have hr2 : r' ∈ (open1 st).dropLast ++ [lastL (open1 st) ++ [x.2]] := hr'
      rw [hdl, hl2] at hr2
      rcases List.mem_append.1 hr2 with hr2 | hr2
      · exact hold r' (by rw [he]; exact List.mem_append_left _ hr2) y hy
      · rw [List.mem_singleton] at hr2
        subst hr2
        rcases List.mem_append.1 hy with hy | hy
        · exact hold r (by rw [he]; simp) y hy
        · rw [List.mem_singleton] at hy
          subst hy
          exact ⟨by simpa using hb, by omega, hx⟩
  · cases hs; exact h.fr
  · split at hs
    · cases hs
    · cases hs
      intro v hv
      rcases List.mem_append.1 (show v ∈ st.vs ++ [verseOf x.1 x.2 (open1 st)] from hv) with hv | hv
      · exact h.fr v hv
      · rw [List.mem_singleton] at hv; subst hv
        show (0 : Int) ≤ (x.1 : Int) + (ind x.2 : Int)
        omega
theorem rs0_p : PInv rs0 := ⟨rs0_inv, rfl, (fun b hb => by cases hb), Nat.zero_le _, (fun r hr => by cases hr), (fun v hv => by cases hv)⟩
theorem PInv.fold : ∀ {xs : List (Nat × List UInt8)} {st st' : RS}, PInv st → (∀ x ∈ xs, noE x.2) → rfold st xs = .ok st' → PInv st'
  | [], st, st', h, hx, hs => by cases hs; exact h
  | x :: xs, st, st', h, hx, hs => by
    unfold rfold at hs
    cases he : rstep st x with
    | ok s1 => rw [he] at hs; exact PInv.fold (h.step (hx x (by simp)) he) (fun y hy => hx y (by simp [hy])) hs
    | error e => rw [he] at hs; cases hs
theorem items_noE (T : List UInt8) : ∀ x ∈ items T, noE x.2 := by
  intro x hx
  obtain ⟨y, hy, rfl⟩ := List.mem_map.1 hx
  exact (spans_ok T y hy).2.2
theorem rd_ok {T : List UInt8} {st : RS} (h : rd T = .ok st) : PInv st ∧ T.length ≤ 65536 := by
  unfold rd at h
  split at h
  · cases h
  · exact ⟨PInv.fold rs0_p (items_noE T) h, by omega⟩
/-! ### The lines of what is printed -/
def plL : Bool → List Row → Row
  | _, [] => []
  | a, r :: z => (if a then [[]] else []) ++ r ++ plL true z
def headL (t : List UInt8) (z : List Row) : Row := if needH t z then [35 :: 32 :: t] else []
theorem lnT_app (a b : Row) : lnT (a ++ b) = lnT a ++ lnT b := List.flatMap_append
theorem lnT_ne {r : Row} (h : r ≠ []) : lnT r ≠ [] := by
  obtain ⟨x, r, rfl⟩ := List.exists_cons_of_ne_nil h
  rw [lnT_cons]; simp
theorem prF_pl : ∀ (z : List Row) (a : List UInt8), (∀ r ∈ z, r ≠ []) → prF a z = a ++ lnT (plL (decide (a ≠ [])) z)
  | [], a, h => (List.append_nil _).symm
  | r :: z, a, h => by
    show prF (sepT a ++ lnT r) z = _
    have hne : sepT a ++ lnT r ≠ [] := by
      intro e
      exact lnT_ne (h r (by simp)) (List.append_eq_nil_iff.1 e).2
    rw [prF_pl z _ (fun y hy => h y (by simp [hy])), decide_eq_true hne]
    show _ = a ++ lnT ((if decide (a ≠ []) = true then [[]] else []) ++ r ++ plL true z)
    rw [lnT_app, lnT_app]
    by_cases ha : a = []
    · subst ha
      simp [sepT, lnT]
    · have e : sepT a = a ++ [10] := if_neg ha
      rw [decide_eq_true ha, if_pos rfl, e]
      show a ++ [10] ++ lnT r ++ _ = a ++ ([10] ++ lnT r ++ _)
      simp only [List.append_assoc]
def prL (t : List UInt8) (z : List Row) : Row := headL t z ++ plL (needH t z) z
theorem prT_lines (t : List UInt8) (z : List Row) (h : ∀ r ∈ z, r ≠ []) : prT t z = lnT (prL t z) := by
  unfold prT prL headL headT
  rw [prF_pl z _ h, lnT_app]
  cases needH t z with
  | true =>
    have e1 : ((if true = true then (35 :: 32 :: t ++ [10]) else []) : List UInt8) = 35 :: 32 :: t ++ [10] := rfl
    have e2 : decide ((35 :: 32 :: t ++ [10] : List UInt8) ≠ []) = true := decide_eq_true (by simp)
    rw [e1, e2]
    show _ = lnT [35 :: 32 :: t] ++ _
    rw [lnT_cons]
    show _ = 35 :: 32 :: t ++ [10] ++ [] ++ _
    rw [List.append_nil]
  | false => rfl
def itL : Nat → Row → List (Nat × List UInt8)
  | _, [] => []
  | f, x :: r => (f, x) :: itL (f + x.length + 1) r
theorem itL_app : ∀ (a b : Row) (f : Nat), itL f (a ++ b) = itL f a ++ itL (f + wtR a) b
  | [], b, f => rfl
  | x :: a, b, f => by
    show _ :: itL (f + x.length + 1) (a ++ b) = _
    rw [itL_app a b, wtR_cons, show f + x.length + 1 + wtR a = f + (x.length + 1 + wtR a) by omega]; rfl
def spsL : Nat → Row → List (Nat × Nat)
  | f, [] => [(f, f)]
  | f, x :: r => (f, f + x.length) :: spsL (f + x.length + 1) r
theorem spP_noE : ∀ (x t : List UInt8) (f a : Nat), noE x → spP false f a (x ++ t) = spP false f (a + x.length) t
  | [], t, f, a, h => rfl
  | b :: x, t, f, a, h => by
    have hb := h b (by simp)
    have h13 : b ≠ 13 := fun e => by rw [e] at hb; cases hb
    have h10 : b ≠ 10 := fun e => by rw [e] at hb; cases hb
    rw [List.cons_append, spP, if_neg h13, if_neg h10, spP_noE x t f (a + 1) (fun y hy => h y (by simp [hy])), List.length_cons, show a + 1 + x.length = a + (x.length + 1) by omega]
theorem spP_lines : ∀ (r : Row) (f : Nat), (∀ x ∈ r, noE x) → spP false f f (lnT r) = spsL f r
  | [], f, h => rfl
  | x :: r, f, h => by
    rw [lnT_cons, List.append_assoc, spP_noE x _ f f (h x (by simp))]
    show spP false f (f + x.length) (10 :: lnT r) = _
    rw [spP, if_neg (by decide), if_pos rfl, spP_lines r _ (fun y hy => h y (by simp [hy]))]
    rfl
theorem items_lines : ∀ (r : Row) (pre : List UInt8) (f : Nat), pre.length = f → (spsL f r).map (fun x => (x.1, ((pre ++ lnT r).drop x.1).take (x.2 - x.1))) = itL f r ++ [(f + wtR r, [])]
  | [], pre, f, h => by
    show [(f, _)] = [(f + 0, [])]
    rw [Nat.sub_self, List.take_zero]; rfl
  | x :: r, pre, f, h => by
    show (f, _) :: _ = (f, x) :: _
    have h2 := items_lines r (pre ++ (x ++ [10])) (f + x.length + 1) (by rw [List.length_append, List.length_append]; simp; omega)
    rw [lnT_cons]
    congr 1
    · congr 1
      rw [← h, List.drop_left, show pre.length + x.length - pre.length = x.length by omega, List.append_assoc, List.take_left]
    · rw [List.append_assoc] at h2
      rw [h2, wtR_cons, show f + x.length + 1 + wtR r = f + (x.length + 1 + wtR r) by omega]
      rfl
theorem items_pr (r : Row) (h : ∀ x ∈ r, noE x) : items (lnT r) = itL 0 r ++ [(wtR r, [])] := by
  unfold items spansOf
  rw [spP_lines r 0 h]
  have := items_lines r [] 0 rfl
  rw [Nat.zero_add] at this
  exact this
/-! ### Reading them -/
theorem rfold_app : ∀ (xs ys : List (Nat × List UInt8)) (st st' : RS), rfold st xs = .ok st' → rfold st (xs ++ ys) = rfold st' ys
  | [], ys, st, st', h => by cases h; rfl
  | x :: xs, ys, st, st', h => by
    unfold rfold at h
    rw [List.cons_append]
    conv => lhs; unfold rfold
    cases he : rstep st x with
    | ok s1 => rw [he] at h; exact rfold_app xs ys s1 st' h
    | error e => rw [he] at h; cases h
theorem step_verse {st : RS} {f : Nat} {x : List UInt8} (hx : GLn x) (ht : ¬ (st.first = true ∧ titl x = true)) (hl : st.vs.length < 512) : rstep st (f, x) = .ok (addV st f x) := by
  unfold rstep
  rw [if_neg (by rw [hx.bl]; decide), if_neg (by have := hx.le; show ¬ 1024 < x.length; omega), if_neg ht, if_neg (by omega)]
theorem fold_row : ∀ (r : Row) (st : RS) (f : Nat) (init : List Row) (cur : Row), (∀ x ∈ r, GLn x) → st.row = true → st.first = false → st.stz = init ++ [cur] → st.vs.length + r.length ≤ 512 →
    ∃ st', rfold st (itL f r) = .ok st' ∧ st'.t = st.t ∧ st'.stz = init ++ [cur ++ r] ∧ st'.row = true ∧ st'.first = false ∧ st'.vs.length = st.vs.length + r.length
  | [], st, f, init, cur, hg, hr, hf, hz, hl => ⟨st, rfl, rfl, by rw [hz, List.append_nil], hr, hf, rfl⟩
  | x :: r, st, f, init, cur, hg, hr, hf, hz, hl => by
    rw [List.length_cons] at hl
    have hs : rstep st (f, x) = .ok (addV st f x) := step_verse (hg x (by simp)) (by rw [hf]; simp) (by omega)
    have ho : open1 st = init ++ [cur] := by unfold open1; rw [hr, if_pos rfl, hz]
    have hz' : (addV st f x).stz = init ++ [cur ++ [x]] := by
      show (open1 st).dropLast ++ [lastL (open1 st) ++ [x]] = _
      rw [ho, List.dropLast_concat]
      congr 2
      unfold lastL; rw [List.getLastD_concat]
    obtain ⟨st', h1, h2, h3, h4, h5, h6⟩ := fold_row r (addV st f x) (f + x.length + 1) init (cur ++ [x]) (fun y hy => hg y (by simp [hy])) rfl rfl hz' (by show (st.vs ++ [_]).length + r.length ≤ 512; rw [List.length_append, List.length_singleton]; omega)
    refine ⟨st', ?_, h2, by rw [h3, List.append_assoc]; rfl, h4, h5, ?_⟩
    · show rfold st ((f, x) :: itL (f + x.length + 1) r) = _
      unfold rfold
      rw [hs]; exact h1
    · rw [h6]
      show (st.vs ++ [_]).length + _ = _
      rw [List.length_append, List.length_singleton, List.length_cons]; omega
theorem fold_new (r : Row) (st : RS) (f : Nat) (hg : ∀ x ∈ r, GLn x) (hne : r ≠ []) (hr : st.row = false) (hf : st.first = true → ∀ x, r.head? = some x → titl x = false) (hl : st.vs.length + r.length ≤ 512) :
    ∃ st', rfold st (itL f r) = .ok st' ∧ st'.t = st.t ∧ st'.stz = st.stz ++ [r] ∧ st'.row = true ∧ st'.first = false ∧ st'.vs.length = st.vs.length + r.length := by
  obtain ⟨x, r, rfl⟩ := List.exists_cons_of_ne_nil hne
  rw [List.length_cons] at hl
  have hs : rstep st (f, x) = .ok (addV st f x) := step_verse (hg x (by simp)) (fun ⟨a, b⟩ => by rw [hf a x rfl] at b; cases b) (by omega)
  have ho : open1 st = st.stz ++ [[]] := by unfold open1; rw [hr, if_neg (by decide)]
  have hz' : (addV st f x).stz = st.stz ++ [[x]] := by
    show (open1 st).dropLast ++ [lastL (open1 st) ++ [x]] = _
    rw [ho, List.dropLast_concat]
    congr 2
    unfold lastL; rw [List.getLastD_concat]; rfl
  obtain ⟨st', h1, h2, h3, h4, h5, h6⟩ := fold_row r (addV st f x) (f + x.length + 1) st.stz [x] (fun y hy => hg y (by simp [hy])) rfl rfl hz' (by show (st.vs ++ [_]).length + r.length ≤ 512; rw [List.length_append, List.length_singleton]; omega)
  refine ⟨st', ?_, h2, h3, h4, h5, ?_⟩
  · show rfold st ((f, x) :: itL (f + x.length + 1) r) = _
    unfold rfold
    rw [hs]; exact h1
  · rw [h6]
    show (st.vs ++ [_]).length + _ = _
    rw [List.length_append, List.length_singleton, List.length_cons]; omega
theorem fold_pl : ∀ (z : List Row) (a : Bool) (st : RS) (f : Nat), (∀ r ∈ z, r ≠ []) → (∀ r ∈ z, ∀ x ∈ r, GLn x) → (a = false → st.row = false) → (st.first = true → ∀ r x, z.head? = some r → r.head? = some x → titl x = false) → st.vs.length + tot z ≤ 512 →
    ∃ st', rfold st (itL f (plL a z)) = .ok st' ∧ st'.t = st.t ∧ st'.stz = st.stz ++ z ∧ st'.vs.length = st.vs.length + tot z
  | [], a, st, f, hne, hg, hr, hf, hl => ⟨st, rfl, rfl, by rw [List.append_nil], rfl⟩
  | r :: z, a, st, f, hne, hg, hr, hf, hl => by
    rw [tot_cons] at hl
    have hb : ∃ st1 f1, rfold st (itL f (if a then [[]] else [])) = .ok st1 ∧ f1 = f + wtR (if a then [[]] else []) ∧ st1.row = false ∧ st1.t = st.t ∧ st1.stz = st.stz ∧ st1.vs = st.vs ∧ st1.first = st.first := by
      cases a with
      | false => exact ⟨st, _, rfl, rfl, hr rfl, rfl, rfl, rfl, rfl⟩
      | true => exact ⟨{ st with row := false }, _, rfl, rfl, rfl, rfl, rfl, rfl, rfl⟩
    obtain ⟨st1, f1, e1, rfl, hr1, ht1, hz1, hv1, hf1⟩ := hb
    obtain ⟨st2, e2, ht2, hz2, hr2, hf2, hl2⟩ := fold_new r st1 (f + wtR (if a then [[]] else [])) (hg r (by simp)) (hne r (by simp)) hr1 (fun h x hx => hf (by rw [← hf1]; exact h) r x rfl hx) (by rw [hv1]; omega)
    obtain ⟨st3, e3, ht3, hz3, hl3⟩ := fold_pl z true st2 (f + wtR ((if a then [[]] else []) ++ r)) (fun y hy => hne y (by simp [hy])) (fun y hy => hg y (by simp [hy])) (fun h => by cases h) (fun h => by rw [hf2] at h; cases h) (by rw [hl2, hv1]; omega)
    refine ⟨st3, ?_, by rw [ht3, ht2, ht1], by rw [hz3, hz2, hz1, List.append_assoc]; rfl, by rw [hl3, hl2, hv1, tot_cons]; omega⟩
    show rfold st (itL f ((if a then [[]] else []) ++ r ++ plL true z)) = _
    rw [itL_app, itL_app, List.append_assoc, rfold_app _ _ _ _ e1, rfold_app _ _ _ _ e2]
    exact e3
structure GoodP (t : List UInt8) (z : List Row) : Prop where
  tE : noE t
  tL : t.length ≤ 1022
  ne : ∀ r ∈ z, r ≠ []
  ln : ∀ r ∈ z, ∀ x ∈ r, GLn x
theorem PInv.good {st : RS} (h : PInv st) : GoodP st.t st.stz := ⟨h.tE, h.tL, h.ne, h.ln⟩
theorem plL_noE : ∀ (z : List Row) (a : Bool), (∀ r ∈ z, ∀ x ∈ r, GLn x) → ∀ x ∈ plL a z, noE x
  | [], a, h, x, hx => by cases hx
  | r :: z, a, h, x, hx => by
    have hx2 : x ∈ (if a then [[]] else []) ++ r ++ plL true z := hx
    rcases List.mem_append.1 hx2 with hx2 | hx2
    · rcases List.mem_append.1 hx2 with hx2 | hx2
      · cases a with
        | false => cases hx2
        | true => rw [if_pos rfl, List.mem_singleton] at hx2; subst hx2; intro b hb; cases hb
      · exact (h r (by simp) x hx2).ne
    · exact plL_noE z true (fun y hy => h y (by simp [hy])) x hx2
/-- What is printed is read as it was. -/
theorem rd_print {t : List UInt8} {z : List Row} (h : GoodP t z) (hn : tot z ≤ 512) (hl : (prT t z).length ≤ 65536) : ∃ st, rd (prT t z) = .ok st ∧ st.t = t ∧ st.stz = z := by
  have htE : noE (35 :: 32 :: t) := by
    intro b hb
    rcases List.mem_cons.1 hb with rfl | hb
    · rfl
    · rcases List.mem_cons.1 hb with rfl | hb
      · rfl
      · exact h.tE b hb
  have hno : ∀ x ∈ prL t z, noE x := by
    intro x hx
    rcases List.mem_append.1 hx with hx | hx
    · unfold headL at hx
      split at hx
      · rw [List.mem_singleton] at hx; subst hx; exact htE
      · cases hx
    · exact plL_noE z _ h.ln x hx
  unfold rd
  rw [if_neg (by omega), prT_lines t z h.ne, items_pr _ hno]
  have hh : ∃ st1, rfold rs0 (itL 0 (headL t z)) = .ok st1 ∧ st1.row = false ∧ st1.t = t ∧ st1.stz = [] ∧ st1.vs = [] ∧ (st1.first = true → ∀ r x, z.head? = some r → r.head? = some x → titl x = false) := by
    unfold headL
    cases hn : needH t z with
    | true =>
      refine ⟨⟨t, [], [], false, false⟩, ?_, rfl, rfl, rfl, rfl, fun h => by cases h⟩
      rw [if_pos rfl]
      show rfold rs0 [(0, 35 :: 32 :: t)] = _
      unfold rfold
      have : rstep rs0 (0, 35 :: 32 :: t) = .ok ⟨t, [], [], false, false⟩ := by
        unfold rstep
        have hb : blank (35 :: 32 :: t) = false := rfl
        have hti : titl (35 :: 32 :: t) = true := rfl
        rw [if_neg (by rw [hb]; decide), if_neg (by have := h.tL; show ¬ 1024 < (35 :: 32 :: t).length; rw [List.length_cons, List.length_cons]; omega), if_pos ⟨rfl, hti⟩]
        rfl
      rw [this]; rfl
    | false =>
      have ht : t = [] := by
        unfold needH at hn
        split at hn
        · rw [Bool.or_eq_false_iff] at hn; simpa using hn.1
        · simpa using hn
      refine ⟨rs0, rfl, rfl, ht.symm, rfl, rfl, fun _ r x hr hx => ?_⟩
      cases z with
      | nil => cases hr
      | cons r' z =>
        have e : r' = r := Option.some.inj hr
        subst e
        cases r' with
        | nil => cases hx
        | cons x' r' =>
          have e : x' = x := Option.some.inj hx
          subst e
          have : (decide (t ≠ []) || titl x') = false := hn
          rw [Bool.or_eq_false_iff] at this
          exact this.2
  obtain ⟨st1, e1, hr1, ht1, hz1, hv1, hf1⟩ := hh
  obtain ⟨st2, e2, ht2, hz2, hl2⟩ := fold_pl z (needH t z) st1 (0 + wtR (headL t z)) h.ne h.ln (fun _ => hr1) hf1 (by rw [hv1]; show 0 + _ ≤ _; omega)
  refine ⟨{ st2 with row := false }, ?_, ht2.trans ht1, by show st2.stz = z; rw [hz2, hz1]; rfl⟩
  unfold prL
  rw [itL_app, List.append_assoc, rfold_app _ _ _ _ e1, rfold_app _ _ _ _ e2]
  rfl
end Go.Proofs.YtgfkogafkhbgnaaDoor
namespace Go.Proofs.YtgfkogafkhbgnaaDoor
open Go.RowKit Go.Lib
set_option linter.unusedVariables false
set_option linter.unusedSimpArgs false
end Go.Proofs.YtgfkogafkhbgnaaDoor
namespace Go.Proofs.YtgfkogafkhbgnaaDoor
open Go.RowKit Go.Lib
set_option linter.unusedVariables false
set_option linter.unusedSimpArgs false
def law17_works_v  : Option Bool := andThen (poem_Read_v (⟨#[35, 32, 65, 32, 115, 111, 110, 103, 10, 10, 111, 110, 101, 10, 32, 32, 116, 119, 111, 32, 10, 32, 10, 255, 116, 104, 114, 101, 101, 10, 102, 111, 117, 114, 10]⟩ : ByteArray)) fun (r1 : ((Option Gpoem_Poem) × Gapi_Spot)) => bcond (!(eq_Gapi_Spot r1.2 (⟨0, 0⟩ : Gapi_Spot))) ( some false
) ( andThen (r1.1) fun (p1 : Gpoem_Poem) => andThen (poem_Poem_Lines_v p1) fun (r2 : Int) => bcond ((r2 : Int) != 4) ( some false
) ( andThen (poem_Poem_Stanzas_v p1) fun (r3 : Int) => bcond ((r3 : Int) != 2) ( some false
) ( andThen (poem_Poem_Title_v p1) fun (r4 : ByteArray) => bcond (!decide (r4 = (⟨#[65, 32, 115, 111, 110, 103]⟩ : ByteArray))) ( some false
) ( andThen (poem_Poem_Set_v p1 1 (⟨#[120]⟩ : ByteArray)) fun (r5 : ((Option Gpoem_Poem) × Int)) => bcond ((r5.2 : Int) == 0) ( andThen (r5.1) fun (p2 : Gpoem_Poem) => andThen (poem_Poem_Print_v p2) fun (r6 : ByteArray) => bcond (decide (r6 = (⟨#[35, 32, 65, 32, 115, 111, 110, 103, 10, 10, 111, 110, 101, 10, 120, 10, 10, 255, 116, 104, 114, 101, 101, 10, 102, 111, 117, 114, 10]⟩ : ByteArray))) ( andThen (poem_Poem_Same_v p2 p1) fun (r7 : Bool) => bcond (!r7) ( andThen (poem_Poem_Same_v p1 p1) fun (r8 : Bool) => some r8
) ( some false
)
) ( some false
)
) ( some false
)
)
)
)
)
set_option maxRecDepth 100000 in
set_option maxHeartbeats 4000000 in
theorem law17_works_fn  {r : Bool} (h : law17_works_v = some r) : FnP Tryd.prog 12 [] (.bool r) := by
 unfold law17_works_v at h
 refine FnP.intro Tryd.func12 rfl Tryd.ntmps12 (by simp) ?_
 intro w0 K
 refine TC.seq (TC.region (TO.assign rfl dc rfl (TO.nil (TX.next (TC.seq (TC.region ?_))))))
 obtain ⟨r1, hq1, h⟩ := andE h
 refine TO.call (vs := [.string (⟨#[35, 32, 65, 32, 115, 111, 110, 103, 10, 10, 111, 110, 101, 10, 32, 32, 116, 119, 111, 32, 10, 32, 10, 255, 116, 104, 114, 101, 101, 10, 102, 111, 117, 114, 10]⟩ : ByteArray)]) rfl dc rfl rfl rfl en_13 (poem_Read_fn hq1) Splits.nil ?_
 rintro v1
 show TO _ _ _ _ _ _ _ _ _ _ [pobj encN_Gpoem_Poem nest_Gpoem_Poem 93 v1 r1.1]
 refine TO.weakenL (L' := [pobj encN_Gpoem_Poem nest_Gpoem_Poem 93 v1 r1.1]) (Splits.of [0] kr rfl) (TO.move rfl dc rfl (TO.extract rfl dc rfl rfl (TO.extract rfl dc rfl rfl ?_)))
 refine TO.alloc zr_26 rfl dc (fun b1 => ?_)
 refine TO.assign rfl dc rfl (TO.stores (k := 1) (vs := [.int .i64 r1.2.Err, .int .i64 r1.2.At]) (l' := [.int .i64 r1.2.Err, .int .i64 r1.2.At]) sz_26 rfl rfl rfl rfl rfl (show _ ≤ _ by simp) rfl rfl ?_)
 show TO _ _ _ _ _ _ _ _ _ _ [pobj encN_Gpoem_Poem nest_Gpoem_Poem 93 v1 r1.1, cells b1 [.int .i64 r1.2.Err, .int .i64 r1.2.At] 26]
 refine TO.nil (TX.next (TC.seq (TC.seq (TC.region (TO.loads (k := 1) (cs := [.int .i64 r1.2.Err, .int .i64 r1.2.At]) rw_26 rfl dc rfl rfl rfl rfl ?_)))))
 refine TO.build (v := .agg #[.int .i64 0, .int .i64 0]) (ps := []) rfl dc rfl (fun _ => by kernel_rfl) ?_
 refine TO.bin rfl dc rfl rfl (bin_neq_26 r1.2 (⟨0, 0⟩ : Gapi_Spot)) (TO.move rfl dc rfl ?_)
 refine TO.split (s := 12) rfl (fun hb1 => ?_) (fun hb1 => ?_)
 ·
  have h := condT hb1 h
  refine TO.skip rfl dc (TO.skip rfl dc (TO.skip rfl dc (TO.pick (b := true) rfl dc rfl rfl (TO.move rfl dc rfl (TO.skip rfl dc (TO.skip rfl dc (TO.skip rfl dc (TO.pick (b := true) rfl dc rfl rfl (TO.move rfl dc rfl (TO.skip rfl dc (TO.skip rfl dc (TO.skip rfl dc (TO.pick (b := true) rfl dc rfl rfl ?_)))))))))))))
  refine TO.nil (TX.next (TC.condT rfl (TC.seq (TC.region (TO.assign rfl dc rfl (TO.nil (TX.next (TC.ret (TX.thenRet ?_)))))))))
  cases h
  exact TX.fin (rs := [.tmp 0]) () (.inl rfl) Tryd.results12 (.cons (.tmp rfl) .nil) rfl Splits.nil
 ·
  have h := condF hb1 h
  refine TO.move rfl dc rfl ?_
  obtain ⟨p1, hq2, h⟩ := andE h
  refine TO.entl (As := [pobj encN_Gpoem_Poem nest_Gpoem_Poem 93 v1 r1.1]) (Splits.of [0] kr rfl) (Entl.objOpen hq2) ?_
  rintro ⟨b2, hd1, hd2⟩ hv1
  subst hv1
  show TO _ _ _ _ _ _ _ _ _ _ [emp, cells b1 [.int .i64 r1.2.Err, .int .i64 r1.2.At] 26, cells b2 [.string p1.told_title, hd1.v, hd2.v, .string p1.source] 93, vec enc_Gapi_Verse 36 6 hd1.v p1.told_lines, vec enc_Gapi_Span 34 2 hd2.v p1.told_stanzas]
  obtain ⟨r2, hq3, h⟩ := andE h
  refine TO.callPR (v := .int .i64 r2) (vs := [.pointer (some ⟨b2, 0, none⟩)]) (Rd.nil : Rd _ _ []) rfl dc rfl rfl rfl en_21 (poem_Poem_Lines_fn (bp1 := b2) (p1 := p1) (p1_h0 := hd1) (p1_h1 := hd2) hq3) (.own (Splits.of [2] (by kernel_rfl) rfl) (fun _ _ h => sepL.one1.1 h) (.own (Splits.of [3] (by kernel_rfl) rfl) (fun _ _ h => sepL.one1.1 h) (.own (Splits.of [4] (by kernel_rfl) rfl) (fun _ _ h => sepL.one1.1 h) .nil))) ?_
  refine TO.bin rfl dc rfl rfl bin_neq (TO.pick (b := false) rfl dc rfl rfl (TO.move rfl dc rfl ?_))
  refine TO.split (s := 17) rfl (fun hb2 => ?_) (fun hb2 => ?_)
  ·
   have h := condT hb2 h
   refine TO.skip rfl dc (TO.skip rfl dc (TO.skip rfl dc (TO.pick (b := true) rfl dc rfl rfl (TO.move rfl dc rfl (TO.skip rfl dc (TO.skip rfl dc (TO.skip rfl dc (TO.pick (b := true) rfl dc rfl rfl (TO.nil (TX.next (TC.condT rfl (TC.seq (TC.region ?_)))))))))))))
   refine TO.assign rfl dc rfl (TO.nil (TX.next (TC.ret (TX.thenRet ?_))))
   cases h
   exact TX.fin (rs := [.tmp 0]) () (.inl rfl) Tryd.results12 (.cons (.tmp rfl) .nil) rfl Splits.nil
  ·
   have h := condF hb2 h
   refine TO.move rfl dc rfl ?_
   obtain ⟨r3, hq4, h⟩ := andE h
   refine TO.callPR (v := .int .i64 r3) (vs := [.pointer (some ⟨b2, 0, none⟩)]) (Rd.nil : Rd _ _ []) rfl dc rfl rfl rfl en_23 (poem_Poem_Stanzas_fn (bp1 := b2) (p1 := p1) (p1_h0 := hd1) (p1_h1 := hd2) hq4) (.own (Splits.of [2] (by kernel_rfl) rfl) (fun _ _ h => sepL.one1.1 h) (.own (Splits.of [3] (by kernel_rfl) rfl) (fun _ _ h => sepL.one1.1 h) (.own (Splits.of [4] (by kernel_rfl) rfl) (fun _ _ h => sepL.one1.1 h) .nil))) ?_
   refine TO.bin rfl dc rfl rfl bin_neq (TO.pick (b := false) rfl dc rfl rfl (TO.move rfl dc rfl ?_))
   refine TO.split (s := 22) rfl (fun hb3 => ?_) (fun hb3 => ?_)
   ·
    have h := condT hb3 h
    refine TO.skip rfl dc (TO.skip rfl dc (TO.skip rfl dc (TO.pick (b := true) rfl dc rfl rfl (TO.nil (TX.next (TC.condT rfl (TC.seq (TC.region (TO.assign rfl dc rfl (TO.nil (TX.next (TC.ret (TX.thenRet ?_)))))))))))))
    cases h
    exact TX.fin (rs := [.tmp 0]) () (.inl rfl) Tryd.results12 (.cons (.tmp rfl) .nil) rfl Splits.nil
   ·
    have h := condF hb3 h
    refine TO.move rfl dc rfl ?_
    obtain ⟨r4, hq5, h⟩ := andE h
    refine TO.callPR (v := .string r4) (vs := [.pointer (some ⟨b2, 0, none⟩)]) (Rd.nil : Rd _ _ []) rfl dc rfl rfl rfl en_24 (poem_Poem_Title_fn (bp1 := b2) (p1 := p1) (p1_h0 := hd1) (p1_h1 := hd2) hq5) (.own (Splits.of [2] (by kernel_rfl) rfl) (fun _ _ h => sepL.one1.1 h) (.own (Splits.of [3] (by kernel_rfl) rfl) (fun _ _ h => sepL.one1.1 h) (.own (Splits.of [4] (by kernel_rfl) rfl) (fun _ _ h => sepL.one1.1 h) .nil))) ?_
    refine TO.bin rfl dc rfl rfl bin_sneq (TO.pick (b := false) rfl dc rfl rfl (TO.nil (TX.next ?_)))
    refine TC.condB rfl (fun hb4 => ?_) (fun hb4 => ?_)
    ·
     have h := condT hb4 h
     refine TC.seq (TC.region (TO.assign rfl dc rfl (TO.nil (TX.next (TC.ret (TX.thenRet ?_))))))
     cases h
     exact TX.fin (rs := [.tmp 0]) () (.inl rfl) Tryd.results12 (.cons (.tmp rfl) .nil) rfl Splits.nil
    ·
     have h := condF hb4 h
     refine TC.skip (TX.next (TC.seq (TC.region (TO.move rfl dc rfl ?_))))
     obtain ⟨r5, hq6, h⟩ := andE h
     refine TO.callR (vs := [.pointer (some ⟨b2, 0, none⟩), .int .i64 1, .string (⟨#[120]⟩ : ByteArray)]) (Rd.nil : Rd _ _ []) rfl dc rfl rfl rfl en_29 (poem_Poem_Set_fn (bp1 := b2) (p1 := p1) (p1_h0 := hd1) (p1_h1 := hd2) hq6) Splits.nil (.own (Splits.of [2] (by kernel_rfl) rfl) (fun _ _ h => sepL.one1.1 h) (.own (Splits.of [3] (by kernel_rfl) rfl) (fun _ _ h => sepL.one1.1 h) (.own (Splits.of [4] (by kernel_rfl) rfl) (fun _ _ h => sepL.one1.1 h) .nil))) ?_
     rintro v2
     show TO _ _ _ _ _ _ _ _ _ _ [emp, cells b1 [.int .i64 r1.2.Err, .int .i64 r1.2.At] 26, cells b2 [.string p1.told_title, hd1.v, hd2.v, .string p1.source] 93, vec enc_Gapi_Verse 36 6 hd1.v p1.told_lines, vec enc_Gapi_Span 34 2 hd2.v p1.told_stanzas, pobj encN_Gpoem_Poem nest_Gpoem_Poem 93 v2 r5.1]
     refine TO.weakenL (L' := [emp, cells b1 [.int .i64 r1.2.Err, .int .i64 r1.2.At] 26, cells b2 [.string p1.told_title, hd1.v, hd2.v, .string p1.source] 93, vec enc_Gapi_Verse 36 6 hd1.v p1.told_lines, vec enc_Gapi_Span 34 2 hd2.v p1.told_stanzas, pobj encN_Gpoem_Poem nest_Gpoem_Poem 93 v2 r5.1]) (Splits.of [0, 1, 2, 3, 4, 5] kr rfl) (TO.move rfl dc rfl (TO.extract rfl dc rfl rfl (TO.extract rfl dc rfl rfl (TO.assign rfl dc rfl (TO.assign rfl dc rfl (TO.nil (TX.next (TC.seq (TC.region (TO.move rfl dc rfl (TO.bin rfl dc rfl rfl bin_eql (TO.move rfl dc rfl ?_))))))))))))
     refine TO.split (s := 34) rfl (fun hb5 => ?_) (fun hb5 => ?_)
     ·
      have h := condT hb5 h
      refine TO.move rfl dc rfl ?_
      obtain ⟨p2, hq7, h⟩ := andE h
      refine TO.entl (As := [pobj encN_Gpoem_Poem nest_Gpoem_Poem 93 v2 r5.1]) (Splits.of [5] kr rfl) (Entl.objOpen hq7) ?_
      rintro ⟨b3, hd3, hd4⟩ hv2
      subst hv2
      show TO _ _ _ _ _ _ _ _ _ _ [emp, cells b1 [.int .i64 r1.2.Err, .int .i64 r1.2.At] 26, cells b2 [.string p1.told_title, hd1.v, hd2.v, .string p1.source] 93, vec enc_Gapi_Verse 36 6 hd1.v p1.told_lines, vec enc_Gapi_Span 34 2 hd2.v p1.told_stanzas, emp, cells b3 [.string p2.told_title, hd3.v, hd4.v, .string p2.source] 93, vec enc_Gapi_Verse 36 6 hd3.v p2.told_lines, vec enc_Gapi_Span 34 2 hd4.v p2.told_stanzas]
      obtain ⟨r6, hq8, h⟩ := andE h
      refine TO.callPR (v := .string r6) (vs := [.pointer (some ⟨b3, 0, none⟩)]) (Rd.nil : Rd _ _ []) rfl dc rfl rfl rfl en_18 (poem_Poem_Print_fn (bp1 := b3) (p1 := p2) (p1_h0 := hd3) (p1_h1 := hd4) hq8) (.own (Splits.of [6] (by kernel_rfl) rfl) (fun _ _ h => sepL.one1.1 h) (.own (Splits.of [7] (by kernel_rfl) rfl) (fun _ _ h => sepL.one1.1 h) (.own (Splits.of [8] (by kernel_rfl) rfl) (fun _ _ h => sepL.one1.1 h) .nil))) ?_
      refine TO.bin rfl dc rfl rfl bin_seql (TO.pick (b := true) rfl dc rfl rfl (TO.move rfl dc rfl ?_))
      refine TO.split (s := 39) rfl (fun hb6 => ?_) (fun hb6 => ?_)
      ·
       have h := condT hb6 h
       refine TO.move rfl dc rfl (TO.move rfl dc rfl ?_)
       obtain ⟨r7, hq9, h⟩ := andE h
       refine TO.callPR (v := .bool r7) (vs := [.pointer (some ⟨b3, 0, none⟩), .pointer (some ⟨b2, 0, none⟩)]) (Rd.nil : Rd _ _ []) rfl dc rfl rfl rfl en_19 (poem_Poem_Same_fn (bp1 := b3) (p1 := p2) (p1_h0 := hd3) (p1_h1 := hd4) (bq1 := b2) (q1 := p1) (q1_h0 := hd1) (q1_h1 := hd2) hq9) (.own (Splits.of [6] (by kernel_rfl) rfl) (fun _ _ h => sepL.one1.1 h) (.own (Splits.of [7] (by kernel_rfl) rfl) (fun _ _ h => sepL.one1.1 h) (.own (Splits.of [8] (by kernel_rfl) rfl) (fun _ _ h => sepL.one1.1 h) (.own (Splits.of [2] (by kernel_rfl) rfl) (fun _ _ h => sepL.one1.1 h) (.own (Splits.of [3] (by kernel_rfl) rfl) (fun _ _ h => sepL.one1.1 h) (.own (Splits.of [4] (by kernel_rfl) rfl) (fun _ _ h => sepL.one1.1 h) .nil)))))) ?_
       refine TO.un rfl dc rfl un_not (TO.pick (b := true) rfl dc rfl rfl (TO.move rfl dc rfl ?_))
       refine TO.split (s := 45) rfl (fun hb7 => ?_) (fun hb7 => ?_)
       ·
        have h := condT hb7 h
        refine TO.move rfl dc rfl (TO.move rfl dc rfl ?_)
        obtain ⟨r8, hq10, h⟩ := andE h
        refine TO.callPR (v := .bool r8) (vs := [.pointer (some ⟨b2, 0, none⟩), .pointer (some ⟨b2, 0, none⟩)]) (Rd.nil : Rd _ _ []) rfl dc rfl rfl rfl en_19 (poem_Poem_Same_fn (bp1 := b2) (p1 := p1) (p1_h0 := hd1) (p1_h1 := hd2) (bq1 := b2) (q1 := p1) (q1_h0 := hd1) (q1_h1 := hd2) hq10) (.own (Splits.of [2] (by kernel_rfl) rfl) (fun _ _ h => sepL.one1.1 h) (.own (Splits.of [3] (by kernel_rfl) rfl) (fun _ _ h => sepL.one1.1 h) (.own (Splits.of [4] (by kernel_rfl) rfl) (fun _ _ h => sepL.one1.1 h) (.own (Splits.of [2] (by kernel_rfl) rfl) (fun _ _ h => sepL.one1.1 h) (.own (Splits.of [3] (by kernel_rfl) rfl) (fun _ _ h => sepL.one1.1 h) (.own (Splits.of [4] (by kernel_rfl) rfl) (fun _ _ h => sepL.one1.1 h) .nil)))))) ?_
        refine TO.pick (b := true) rfl dc rfl rfl (TO.assign rfl dc rfl (TO.nil (TX.next (TC.ret ?_))))
        cases h
        exact TX.fin (rs := [.tmp 0]) () (.inl rfl) Tryd.results12 (.cons (.tmp rfl) .nil) rfl Splits.nil
       ·
        have h := condF hb7 h
        refine TO.skip rfl dc (TO.skip rfl dc (TO.skip rfl dc (TO.pick (b := false) rfl dc rfl rfl (TO.assign rfl dc rfl (TO.nil (TX.next (TC.ret ?_)))))))
        cases h
        exact TX.fin (rs := [.tmp 0]) () (.inl rfl) Tryd.results12 (.cons (.tmp rfl) .nil) rfl Splits.nil
      ·
       have h := condF hb6 h
       refine TO.skip rfl dc (TO.skip rfl dc (TO.skip rfl dc (TO.skip rfl dc (TO.pick (b := false) rfl dc rfl rfl (TO.move rfl dc rfl (TO.skip rfl dc (TO.skip rfl dc (TO.skip rfl dc (TO.pick (b := false) rfl dc rfl rfl (TO.assign rfl dc rfl (TO.nil (TX.next (TC.ret ?_)))))))))))))
       cases h
       exact TX.fin (rs := [.tmp 0]) () (.inl rfl) Tryd.results12 (.cons (.tmp rfl) .nil) rfl Splits.nil
     ·
      have h := condF hb5 h
      refine TO.skip rfl dc (TO.skip rfl dc (TO.skip rfl dc (TO.pick (b := false) rfl dc rfl rfl (TO.move rfl dc rfl (TO.skip rfl dc (TO.skip rfl dc (TO.skip rfl dc (TO.skip rfl dc (TO.pick (b := false) rfl dc rfl rfl (TO.move rfl dc rfl (TO.skip rfl dc (TO.skip rfl dc (TO.skip rfl dc ?_)))))))))))))
      refine TO.pick (b := false) rfl dc rfl rfl (TO.assign rfl dc rfl (TO.nil (TX.next (TC.ret ?_))))
      cases h
      exact TX.fin (rs := [.tmp 0]) () (.inl rfl) Tryd.results12 (.cons (.tmp rfl) .nil) rfl Splits.nil
def law17_lines_s1 (x1 : Int × Gapi_Verse) (ag1 : (List ByteArray) → Option (List ByteArray)) (l4 : List ByteArray) : Option (List ByteArray) := grd (0 ≤ x1.2.Indent ∧ x1.2.Indent ≤ 140737488355328) <| grd ((spacesB x1.2.Indent).size + x1.2.Text.size ≤ 9223372036854775807) <| grd (l4.length + 1 ≤ 2147483648) <| ag1 (l4 ++ [(spacesB x1.2.Indent) ++ x1.2.Text])
def law17_lines_v (p1 : Gpoem_Poem) : Option (List ByteArray) := joinK (fun (j1 : (List ByteArray) → Option (List ByteArray)) => andThen (poem_Poem_Each_v p1) fun (r1 : Unit) => andThen (poem_Poem_Each_1_v p1) fun (its1 : (List (Int × Gapi_Verse))) => joinK (fun (dn1 : (List ByteArray) → Option (List ByteArray)) => rangeG dn1 (law17_lines_s1) its1 ([] : List ByteArray)
) (fun (l4 : List ByteArray) => j1 l4
)
) (fun (l1 : List ByteArray) => some l1
)
set_option maxRecDepth 100000 in
set_option maxHeartbeats 4000000 in
theorem law17_lines_fn {bp1 : Nat} {p1 : Gpoem_Poem} {p1_h0 p1_h1 : Hd} {r : (List ByteArray)} (h : law17_lines_v p1 = some r) : FnR Tryd.prog 27 [.pointer (some ⟨bp1, 0, none⟩)] [cells bp1 [.string p1.told_title, p1_h0.v, p1_h1.v, .string p1.source] 93, vec enc_Gapi_Verse 36 6 p1_h0.v p1.told_lines, vec enc_Gapi_Span 34 2 p1_h1.v p1.told_stanzas] [] (fun v0 : Value => v0) (fun v0 => [vec encS 9 1 v0 r]) := by
 unfold law17_lines_v at h
 refine FnR.intro Tryd.func27 rfl Tryd.ntmps27 (by simp) ?_
 intro w0 K hrd
 refine TC.star0 ?_
 show TC _ _ _ _ _ _ _ _ _ [star ((([] : List Nat) : List Nat).map mark)]
 obtain ⟨j1, hj1, h⟩ := joinE h
 refine TC.cutN (β := (List ByteArray) × Nat × Hd × (List Nat)) 2 rfl (fun b => j1 b.1 = some r) (fun b => marksOf b.2.2.2) (fun b => [(3, .pointer (some ⟨b.2.1, 0, none⟩))]) (fun b => [cells b.2.1 [b.2.2.1.v] 48, vec encS 9 1 b.2.2.1.v b.1, star ((b.2.2.2 : List Nat).map mark)]) (fun cut => ?_) ?_
 ·
  refine TC.seq (TC.region (TO.assign rfl dc rfl (TO.nil (TX.next (TC.seq (TC.region ?_))))))
  refine TO.alloc zr_48 rfl dc (fun b2 => ?_)
  refine TO.nil (TX.next (cut (TC.seq (TC.region (TO.move rfl dc rfl ?_)))))
  obtain ⟨r1, hq1, h⟩ := andE h
  refine TO.callR (vs := [.pointer (some ⟨bp1, 0, none⟩)]) hrd rfl dc rfl rfl rfl en_14 (poem_Poem_Each_fn (bp1 := bp1) (p1 := p1) (p1_h0 := p1_h0) (p1_h1 := p1_h1) hq1) Splits.nil (.ro 0 rfl (.ro 1 rfl (.ro 2 rfl .nil))) ?_
  rintro b3
  show TO _ _ _ _ _ _ _ _ _ _ [star ((([] : List Nat) : List Nat).map mark), cells b2 [.slice none 0 0] 48, cells b3 [.pointer (some ⟨bp1, 0, none⟩)] 23]
  refine TO.weakenL (L' := [star ((([] : List Nat) : List Nat).map mark), cells b2 [.slice none 0 0] 48, cells b3 [.pointer (some ⟨bp1, 0, none⟩)] 23]) (Splits.of [0, 1, 2] kr rfl) (TO.nil (TX.next (TC.block ?_)))
  obtain ⟨its1, hq2, h⟩ := andE h
  refine TC.newVec (enc := encS) (e := 9) (size := 1) ?_
  show TC _ _ _ _ _ _ _ _ _ [star ((([] : List Nat) : List Nat).map mark), cells b2 [.slice none 0 0] 48, cells b3 [.pointer (some ⟨bp1, 0, none⟩)] 23, vec encS 9 1 (.slice none 0 0) ([] : List ByteArray)]
  obtain ⟨dn1, hdn1, h⟩ := joinE h
  refine TC.rangeR (α := Int × Gapi_Verse) (β := (List ByteArray) × Hd) (γ := Unit) (δ := Nat) (ps := [8, 9]) hrd Ro.nil rfl en_52 (poem_Poem_Each_1_itr hq2) (fun pre b => ∀ post, its1 = pre ++ post → rangeG dn1 (law17_lines_s1) post b.1 = some r) (fun pre b => [cells b2 [b.2.v] 48, vec encS 9 1 b.2.v b.1]) (fun c pre g => False) (fun c pre g => []) (fun pre x b j => [(2, .slice none 0 0), (3, .pointer (some ⟨b2, 0, none⟩)), (7, .func (.func 52) #[] #[.pointer (some ⟨b3, 0, none⟩)]), (5, .pointer (some ⟨j, 0, none⟩))]) (fun pre x b j => [cells b2 [b.2.v] 48, vec encS 9 1 b.2.v b.1, cells j [.string x.2.Text, .int .i64 x.2.Indent, .int .i64 x.2.Stanza, .int .i64 x.2.In, .int .i64 x.2.Span_From, .int .i64 x.2.Span_To] 36]) (([] : List ByteArray), Hd.nil) (fun post e => by rw [List.nil_append] at e; subst e; exact h) (Splits.of [1, 3] kr rfl) (.own (As := [cells b3 [.pointer (some ⟨bp1, 0, none⟩)] 23]) (Splits.of [2] (by kernel_rfl) rfl) (fun _ _ h => sepL.one1.1 h) (.ro 0 rfl (.ro 1 rfl (.ro 2 rfl .nil)))) (fun _ => rfl) dc ?_ ?_ ?_ ?_
  ·
   rintro lp rc pre x1 post ⟨l4, hd4⟩ w1 K1 hxs1 hext hro hinv
   have hrd := hrd.ext hext
   refine TC.region ?_
   refine TO.alloc zr_36 rfl dc (fun b4 => ?_)
   refine TO.stores (k := 2) (vs := [.string x1.2.Text, .int .i64 x1.2.Indent, .int .i64 x1.2.Stanza, .int .i64 x1.2.In, .int .i64 x1.2.Span_From, .int .i64 x1.2.Span_To]) (l' := [.string x1.2.Text, .int .i64 x1.2.Indent, .int .i64 x1.2.Stanza, .int .i64 x1.2.In, .int .i64 x1.2.Span_From, .int .i64 x1.2.Span_To]) sz_36 rfl rfl rfl rfl rfl (show _ ≤ _ by simp) rfl rfl ?_
   show TO _ _ _ _ _ _ _ _ _ _ [cells b2 [hd4.v] 48, vec encS 9 1 hd4.v l4, cells b4 [.string x1.2.Text, .int .i64 x1.2.Indent, .int .i64 x1.2.Stanza, .int .i64 x1.2.In, .int .i64 x1.2.Span_From, .int .i64 x1.2.Span_To] 36]
   refine TO.nil ?_
   exact fun a w ha hw => ⟨b4, (Sbs.cons rfl (Sbs.cons rfl (Sbs.cons rfl (Sbs.cons rfl (Sbs.nil))))) _ _ _ ha, hw.weaken (Splits.of [0, 1, 2] kr rfl)⟩
  ·
   rintro lp rc pre x1 post1 ⟨l4, hd4⟩ jb1 w1 K1 hxs1 hext hro hinv
   have hrd := hrd.ext hext
   have h := hinv (x1 :: post1) hxs1
   obtain ⟨ag1, hag1⟩ : ∃ ag, ag = rangeG dn1 (law17_lines_s1) post1 := ⟨_, rfl⟩
   have h : law17_lines_s1 x1 ag1 l4 = some r := by rw [hag1]; exact h
   unfold law17_lines_s1 at h
   show TC _ _ _ _ _ _ _ _ [(2, .slice none 0 0), (3, .pointer (some ⟨b2, 0, none⟩)), (7, .func (.func 52) #[] #[.pointer (some ⟨b3, 0, none⟩)]), (5, .pointer (some ⟨jb1, 0, none⟩))] [cells b2 [hd4.v] 48, vec encS 9 1 hd4.v l4, cells jb1 [.string x1.2.Text, .int .i64 x1.2.Indent, .int .i64 x1.2.Stanza, .int .i64 x1.2.In, .int .i64 x1.2.Span_From, .int .i64 x1.2.Span_To] 36]
   refine TC.block ?_
   obtain ⟨hg1, h⟩ := grdE h
   obtain ⟨hg2, h⟩ := grdE h
   obtain ⟨hg3, h⟩ := grdE h
   refine TC.drawB (β := Nat) 8 7 _ [(0, 10, hd4.v), (1, 11, .pointer (some ⟨jb1, 1, none⟩)), (2, 12, .int .i64 x1.2.Indent), (3, 13, .string (spacesB x1.2.Indent)), (4, 14, .pointer (some ⟨jb1, 0, none⟩)), (5, 15, .string x1.2.Text), (6, 16, .string ((spacesB x1.2.Indent) ++ x1.2.Text))] (fun b5 => [(17, .slice (some ⟨b5, 0, none⟩) 1 1)]) (fun b5 => [cells b2 [hd4.v] 48, vec encS 9 1 hd4.v l4, cells jb1 [.string x1.2.Text, .int .i64 x1.2.Indent, .int .i64 x1.2.Stanza, .int .i64 x1.2.In, .int .i64 x1.2.Span_From, .int .i64 x1.2.Span_To] 36, cells b5 [.string ((spacesB x1.2.Indent) ++ x1.2.Text)] 9]) mixed kr kr rfl dc dc (by rfl) kr kr (DrawPreX.cons ?_ (DrawPreX.cons ?_ (DrawPreX.cons ?_ (DrawPreX.cons ?_ (DrawPreX.cons ?_ (DrawPreX.cons ?_ (DrawPreX.cons ?_ (DrawPreX.here DrawPreX.nil)))))))) (fun b5 => (DrawPreX.cons ?_ (DrawPreX.cons ?_ (DrawPreX.cons ?_ (DrawPreX.cons ?_ (DrawPreX.cons ?_ (DrawPreX.cons ?_ (DrawPreX.cons ?_ (DrawPreX.here DrawPreX.nil))))))))) ?_ ?_
   ·
    intro D hn hd hcl hu hi
    refine TO.load (k := 0) sc_48 rfl dc (dl_old (by rfl) rfl) rfl rfl ?_
    exact TX.quiet 0 hu hi rfl
   ·
    intro D hn hd hcl hu hi
    refine TO.fieldAddr fl_36_1 rfl dc (dl_old (by rfl) rfl) (show _ = 1 from rfl) ?_
    exact TX.quiet 1 hu hi rfl
   ·
    intro D hn hd hcl hu hi
    refine TO.load (k := 2) sc_3 rfl dc (dl_lookup (m := 1) hu rfl (hd 1 dc)) rfl rfl ?_
    exact TX.quiet 2 hu hi rfl
   ·
    intro D hn hd hcl hu hi
    refine TO.callP (v := .string (spacesB x1.2.Indent)) (vs := [.string (⟨#[32]⟩ : ByteArray), .int .i64 x1.2.Indent]) rfl dc rfl (evL.cons rfl (evL.cons (dl_lookup (m := 2) hu rfl (hd 2 dc)) evL.nil)) rfl en_15 (spaces_p x1.2.Indent hg1) ?_
    exact TX.quiet 3 hu hi rfl
   ·
    intro D hn hd hcl hu hi
    refine TO.fieldAddr fl_36_0 rfl dc (dl_old (by rfl) rfl) (show _ = 0 from rfl) ?_
    exact TX.quiet 4 hu hi rfl
   ·
    intro D hn hd hcl hu hi
    refine TO.load (k := 2) sc_9 rfl dc (dl_lookup (m := 4) hu rfl (hd 4 dc)) rfl rfl ?_
    exact TX.quiet 5 hu hi rfl
   ·
    intro D hn hd hcl hu hi
    refine TO.bin rfl dc (dl_lookup (m := 3) hu rfl (hd 3 dc)) (dl_lookup (m := 5) hu rfl (hd 5 dc)) (bin_sadd hg2) ?_
    exact TX.quiet 6 hu hi rfl
   ·
    intro D hn hd hcl hu hi
    refine TO.load (k := 0) sc_48 rfl dc (dl_old (by rfl) rfl) rfl rfl ?_
    exact TX.quiet 0 hu hi rfl
   ·
    intro D hn hd hcl hu hi
    refine TO.fieldAddr fl_36_1 rfl dc (dl_old (by rfl) rfl) (show _ = 1 from rfl) ?_
    exact TX.quiet 1 hu hi rfl
   ·
    intro D hn hd hcl hu hi
    refine TO.load (k := 2) sc_3 rfl dc (dl_lookup (m := 1) hu rfl (hd 1 dc)) rfl rfl ?_
    exact TX.quiet 2 hu hi rfl
   ·
    intro D hn hd hcl hu hi
    refine TO.callP (v := .string (spacesB x1.2.Indent)) (vs := [.string (⟨#[32]⟩ : ByteArray), .int .i64 x1.2.Indent]) rfl dc rfl (evL.cons rfl (evL.cons (dl_lookup (m := 2) hu rfl (hd 2 dc)) evL.nil)) rfl en_15 (spaces_p x1.2.Indent hg1) ?_
    exact TX.quiet 3 hu hi rfl
   ·
    intro D hn hd hcl hu hi
    refine TO.fieldAddr fl_36_0 rfl dc (dl_old (by rfl) rfl) (show _ = 0 from rfl) ?_
    exact TX.quiet 4 hu hi rfl
   ·
    intro D hn hd hcl hu hi
    refine TO.load (k := 2) sc_9 rfl dc (dl_lookup (m := 4) hu rfl (hd 4 dc)) rfl rfl ?_
    exact TX.quiet 5 hu hi rfl
   ·
    intro D hn hd hcl hu hi
    refine TO.bin rfl dc (dl_lookup (m := 3) hu rfl (hd 3 dc)) (dl_lookup (m := 5) hu rfl (hd 5 dc)) (bin_sadd hg2) ?_
    exact TX.quiet 6 hu hi rfl
   ·
    intro D hn hd hcl
    refine TO.buildSlice (cs := [.string ((spacesB x1.2.Indent) ++ x1.2.Text)]) (te := 9) (ps := [(0, .tmp 16)]) rfl dc (evP.cons (dl_lookup (m := 6) kr rfl (hd 6 dc)) evP.nil) (fun _ => by kernel_rfl) (fun b5 => ?_)
    exact fun a w ha hw => ⟨b5, Sbs.mid (by rfl) _ _ _ ha, hw⟩
   intro b5
   show TO _ _ _ _ _ _ _ _ _ _ [cells b2 [hd4.v] 48, vec encS 9 1 hd4.v l4, cells jb1 [.string x1.2.Text, .int .i64 x1.2.Indent, .int .i64 x1.2.Stanza, .int .i64 x1.2.In, .int .i64 x1.2.Span_From, .int .i64 x1.2.Span_To] 36, cells b5 [.string ((spacesB x1.2.Indent) ++ x1.2.Text)] 9]
   refine TO.appendVec (k := 1) (k2 := 3) (ys := [(spacesB x1.2.Indent) ++ x1.2.Text]) Tryd.underlying48 el_9 encS_len encS_one rfl dc rfl rfl rfl rfl rfl rfl hg3 (fun v1 => ?_)
   refine TO.nameHd (k := 1) rfl (fun hd5 he1 => ?_)
   subst he1
   refine TO.store (k := 0) (l' := [hd5.v]) sz_48 rfl rfl rfl rfl rfl (fun _ _ => rfl) rfl ?_
   show TO _ _ _ _ _ _ _ _ _ _ [cells b2 [hd5.v] 48, vec encS 9 1 hd5.v (l4 ++ [(spacesB x1.2.Indent) ++ x1.2.Text]), cells jb1 [.string x1.2.Text, .int .i64 x1.2.Indent, .int .i64 x1.2.Stanza, .int .i64 x1.2.In, .int .i64 x1.2.Span_From, .int .i64 x1.2.Span_To] 36, cells b5 [.string ((spacesB x1.2.Indent) ++ x1.2.Text)] 9]
   refine TO.nil (TX.blockNormal ?_)
   exact TX.round (l4 ++ [(spacesB x1.2.Indent) ++ x1.2.Text], hd5) (fun post2 e2 => by have e9 := snoc_post hxs1 e2; subst e9; subst hag1; exact h) (Splits.of [0, 1] kr rfl)
  ·
   rintro dm1 ⟨l4, hd4⟩ hinv
   have h : dn1 l4 = some r := hinv [] (List.append_nil _).symm
   rw [hdn1] at h
   show TX _ _ _ _ _ _ _ [star ((([] : List Nat) : List Nat).map mark), emp, cells b3 [.pointer (some ⟨bp1, 0, none⟩)] 23, emp, cells b2 [hd4.v] 48, vec encS 9 1 hd4.v l4, mark dm1]
   refine TX.starCons (k := 6) (j := 0) rfl rfl dc ?_
   show TX _ _ _ _ _ _ _ [star ((dm1 :: ([] : List Nat) : List Nat).map mark), emp, cells b3 [.pointer (some ⟨bp1, 0, none⟩)] 23, emp, cells b2 [hd4.v] 48, vec encS 9 1 hd4.v l4, emp]
   refine TX.blockNormal ?_
   exact TX.meetD (l4, b2, hd4, dm1 :: ([] : List Nat)) h rfl (Sbs.cons rfl (Sbs.nil)) (Splits.of [4, 5, 0] kr rfl)
  ·
   rintro dm1 c pre x1 post g hxs hX
   exact (show False from hX).elim
 ·
  rintro ⟨l1, b1, hd1, ds1⟩ h
  rw [hj1] at h
  show TC _ _ _ _ _ (marksOf ds1) _ _ [(3, .pointer (some ⟨b1, 0, none⟩))] [cells b1 [hd1.v] 48, vec encS 9 1 hd1.v l1, star ((ds1 : List Nat).map mark)]
  refine TC.seq (TC.region (TO.load (k := 0) sc_48 rfl dc rfl rfl rfl (TO.assign rfl dc rfl (TO.nil (TX.next (TC.ret ?_))))))
  cases h
  exact TX.finM (rs := [.tmp 2]) ds1 hd1.v (.inl rfl) (Splits.open0 (k := 2) rfl) Tryd.results27 (.cons (.tmp rfl) .nil) rfl (Splits.of [1] kr rfl)
end Go.Proofs.YtgfkogafkhbgnaaDoor
namespace Go.Proofs.YtgfkogafkhbgnaaDoor
open Go.RowKit Go.Lib
set_option linter.unusedVariables false
set_option linter.unusedSimpArgs false
theorem repeatL_rep (n : Nat) : Lib.repeatL [32] n = List.replicate n 32 := by
  induction n with
  | zero => rfl
  | succ n ih => rw [Lib.repeatL, ih, List.replicate_succ]; rfl
theorem ind_split : ∀ x : List UInt8, List.replicate (ind x) 32 ++ x.drop (ind x) = x
  | [] => rfl
  | b :: x => by
    rw [ind_cons]
    by_cases h : b = 32
    · rw [if_pos h, List.replicate_succ, List.drop_succ_cons, List.cons_append, ind_split x, h]
    · rw [if_neg h]; rfl
theorem line_v (x : List UInt8) : spacesB (ind x : Int) ++ mkB (x.drop (ind x)) = mkB x := by
  unfold spacesB
  rw [Int.toNat_natCast, repeatL_rep]
  have : (⟨(List.replicate (ind x) (32 : UInt8)).toArray⟩ : ByteArray) = mkB (List.replicate (ind x) 32) := rfl
  rw [this, mkB_app, ind_split]
def enumV : Nat → List Gapi_Verse → List (Int × Gapi_Verse)
  | _, [] => []
  | i, v :: vs => ((i : Int), v) :: enumV (i + 1) vs
theorem each_v (p : Gpoem_Poem) (h : p.told_lines.length ≤ 4611686018427387904) : poem_Poem_Each_1_v p = some (enumV 0 p.told_lines) := by
  unfold poem_Poem_Each_1_v
  have key : ∀ (n i : Nat), i ≤ p.told_lines.length → p.told_lines.length - i < n → loopG (fun _ => none) (poem_Poem_Each_1_s1 p) n (i : Int) = some (enumV i (p.told_lines.drop i)) := by
    intro n
    induction n with
    | zero => intro i h1 h2; omega
    | succ n ih =>
      intro i hi hn
      rw [loopG_succ]
      obtain ⟨ag, hag⟩ : ∃ ag, ag = loopG (fun _ => none) (poem_Poem_Each_1_s1 p) n := ⟨_, rfl⟩
      rw [← hag] at ih ⊢
      unfold poem_Poem_Each_1_s1
      rcases Nat.lt_or_ge i p.told_lines.length with hl | hl
      · have hd := List.drop_eq_getElem_cons hl
        refine condTI (decide_eq_true (by omega)) (thenI (getO_nat (List.getElem?_eq_getElem hl)) ?_)
        have h1 : (grd (I64 ((i : Int) + 1)) <| ag ((i : Int) + 1)) = some (enumV (i + 1) (p.told_lines.drop (i + 1))) := grdI ⟨by omega, by omega⟩ (by rw [show (i : Int) + 1 = ((i + 1 : Nat) : Int) by omega]; exact ih (i + 1) (by omega) (by omega))
        rw [h1, hd]; rfl
      · rw [List.drop_eq_nil_of_le hl]
        exact condFI (decide_eq_false (by omega)) rfl
  have := key fuel 0 (Nat.zero_le _) (by unfold fuel; omega)
  rw [List.drop_zero] at this
  exact this
/-! ### Rows -/
abbrev LnE := Nat × Nat × List UInt8
def rowsG (from_ to_ : Nat) : Nat → List LnE → List Row × Int → List Row × Int
  | _, [], a => a
  | i, p :: L, a =>
    if i < from_ ∨ to_ ≤ i then rowsG from_ to_ (i + 1) L a
    else if (p.1 : Int) ≠ a.2 then rowsG from_ to_ (i + 1) L (a.1 ++ [[p.2.2]], (p.1 : Int))
    else rowsG from_ to_ (i + 1) L (a.1.dropLast ++ [lastL a.1 ++ [p.2.2]], a.2)
theorem rows_go (from_ to_ : Nat) (d : (List (List ByteArray)) → Int → Option (List (List ByteArray))) : ∀ (L : List LnE) (vs : List Gapi_Verse) (i : Nat) (out : List Row) (s : Int), vs.map keyV = L.map keyL → (∀ p ∈ L, p.2.2.length ≤ 1024) → i + L.length ≤ 1000000 →
    out.length ≤ i → (∀ r ∈ out, r.length ≤ i) → (s ≠ -1 → out ≠ []) → rangeG d (poem_Poem_rows_s1 from_ to_) (enumV i vs) (mkZ out) s = d (mkZ (rowsG from_ to_ i L (out, s)).1) (rowsG from_ to_ i L (out, s)).2
  | [], vs, i, out, s, hk, hx, hi, ho, hr, hs => by
    have : vs = [] := by cases vs with | nil => rfl | cons v vs => cases hk
    subst this; rfl
  | p :: L, vs, i, out, s, hk, hx, hi, ho, hr, hs => by
    cases vs with
    | nil => cases hk
    | cons v vs =>
      rw [List.map_cons, List.map_cons] at hk
      obtain ⟨hv, hk⟩ := List.cons.inj hk
      rw [List.length_cons] at hi
      have hv1 : v.Text = mkB (p.2.2.drop (ind p.2.2)) := congrArg (fun q => q.1) hv
      have hv2 : v.Indent = (ind p.2.2 : Int) := congrArg (fun q => q.2.1) hv
      have hv3 : v.Stanza = (p.1 : Int) := congrArg (fun q => q.2.2.1) hv
      have hxl := hx p (by simp)
      have hil := ind_le p.2.2
      show rangeG d _ (((i : Int), v) :: enumV (i + 1) vs) _ _ = _
      rw [rangeG_cons]
      have ih := fun out s h1 h2 h3 => rows_go from_ to_ d L vs (i + 1) out s hk (fun q hq => hx q (by simp [hq])) (by omega) h1 h2 h3
      obtain ⟨ag, hag⟩ : ∃ ag, ag = rangeG d (poem_Poem_rows_s1 from_ to_) (enumV (i + 1) vs) := ⟨_, rfl⟩
      rw [← hag] at ih ⊢
      unfold poem_Poem_rows_s1 rowsG
      by_cases h1 : i < from_
      · rw [if_pos (.inl h1)]
        exact condTI (decide_eq_true (by show (i : Int) < _; omega)) (ih out s (by omega) (fun r h => by have := hr r h; omega) hs)
      · refine condFI (decide_eq_false (by show ¬ (i : Int) < _; omega)) ?_
        by_cases h2 : to_ ≤ i
        · rw [if_pos (.inr h2)]
          exact condTI (decide_eq_true (by show _ ≤ (i : Int); omega)) (ih out s (by omega) (fun r h => by have := hr r h; omega) hs)
        · rw [if_neg (by omega)]
          refine condFI (decide_eq_false (by show ¬ _ ≤ (i : Int); omega)) (joinI ?_)
          have tail : ∀ (z : List Row) (s' : Int), z ≠ [] → z.length ≤ i + 1 → (∀ r ∈ z, r.length ≤ i) → s' ≠ -1 → (grd (I64 (((mkZ z).length : Int) - 1)) <|
              andThen (getO (mkZ z) (((mkZ z).length : Int) - 1)) fun (x2 : List ByteArray) =>
              grd (0 ≤ v.Indent ∧ v.Indent ≤ 140737488355328) <|
              grd ((spacesB v.Indent).size + v.Text.size ≤ 9223372036854775807) <|
              grd (x2.length + 1 ≤ 2147483648) <|
              ag ((mkZ z).set (((mkZ z).length : Int) - 1 : Int).toNat (x2 ++ [(spacesB v.Indent) ++ v.Text])) s') = d (mkZ (rowsG from_ to_ (i + 1) L (z.dropLast ++ [lastL z ++ [p.2.2]], s')).1) (rowsG from_ to_ (i + 1) L (z.dropLast ++ [lastL z ++ [p.2.2]], s')).2 := fun z s' hz hzl hzr hs' => by
            obtain ⟨w, r, rfl⟩ : ∃ w r, z = w ++ [r] := ⟨_, _, init_last hz⟩
            have hl9 : lastL (w ++ [r]) = r := by unfold lastL; rw [List.getLastD_concat]
            rw [List.dropLast_concat, hl9]
            rw [List.length_append, List.length_singleton] at hzl
            have hlen : (mkZ (w ++ [r])).length = w.length + 1 := by rw [mkZ_len, List.length_append, List.length_singleton]
            have hg : getO (mkZ (w ++ [r])) (((mkZ (w ++ [r])).length : Int) - 1) = some (r.map mkB) := by
              refine getO_of (n := w.length) (by rw [hlen]; omega) ?_
              rw [mkZ_app, List.getElem?_append_right (by rw [mkZ_len]; exact Nat.le_refl _), mkZ_len, Nat.sub_self]; rfl
            have hll : r.length ≤ i := hzr _ (by simp)
            refine grdI ⟨by omega, by rw [hlen]; omega⟩ (thenI hg (grdI ⟨by rw [hv2]; omega, by rw [hv2]; omega⟩ ?_))
            rw [hv1, hv2, line_v]
            have hsz : (spacesB (ind p.2.2 : Int)).size + (mkB (p.2.2.drop (ind p.2.2))).size ≤ 9223372036854775807 := by
              have : (spacesB (ind p.2.2 : Int) ++ mkB (p.2.2.drop (ind p.2.2))).size = (mkB p.2.2).size := by rw [line_v]
              rw [ByteArray.size_append, mkB_size p.2.2] at this
              omega
            refine grdI hsz (grdI (by rw [List.length_map]; omega) ?_)
            have es : (mkZ (w ++ [r])).set (((mkZ (w ++ [r])).length : Int) - 1 : Int).toNat (r.map mkB ++ [mkB p.2.2]) = mkZ (w ++ [r ++ [p.2.2]]) := by
              rw [show (((mkZ (w ++ [r])).length : Int) - 1 : Int).toNat = (mkZ w).length by rw [hlen, mkZ_len]; omega, mkZ_app]
              show ((mkZ w ++ [r.map mkB]).set _ _) = _
              rw [set_last, mkZ_app]
              show _ = _ ++ [(r ++ [p.2.2]).map mkB]
              rw [List.map_append]; rfl
            rw [es]
            refine ih _ s' (by rw [List.length_append, List.length_singleton]; omega) (fun r' h => ?_) (fun _ => by simp)
            rcases List.mem_append.1 h with h | h
            · have := hzr r' (by simp [h]); omega
            · rw [List.mem_singleton] at h; subst h; rw [List.length_append, List.length_singleton]; omega
          by_cases h3 : (p.1 : Int) = s
          · rw [if_neg (by simpa using h3)]
            refine condFI (by rw [hv3, h3]; exact bne_self_eq_false _) ?_
            refine tail out s (hs (by omega)) (by omega) (fun r h => by have := hr r h; omega) (by omega)
          · rw [if_pos h3]
            refine condTI (by rw [hv3]; exact bne_iff_ne.2 h3) (grdI (by rw [mkZ_len]; omega) ?_)
            have h5 := tail (out ++ [[]]) (p.1 : Int) (by simp) (by rw [List.length_append, List.length_singleton]; omega) (fun r h => by
              rcases List.mem_append.1 h with h | h
              · exact hr r h
              · rw [List.mem_singleton] at h; subst h; exact Nat.zero_le _) (by omega)
            have h6 : lastL (out ++ [[]]) = [] := by unfold lastL; rw [List.getLastD_concat]
            rw [List.dropLast_concat, h6, mkZ_app] at h5
            refine Eq.trans ?_ h5
            rw [hv3]; rfl
/-! ### What is cut out -/
def cutR (from_ to_ : Nat) : Nat → Row → Row
  | _, [] => []
  | at_, x :: r => if from_ ≤ at_ ∧ at_ < to_ then x :: cutR from_ to_ (at_ + 1) r else cutR from_ to_ (at_ + 1) r
def cutZ (from_ to_ : Nat) : Nat → List Row → List Row
  | _, [] => []
  | at_, r :: z => (if cutR from_ to_ at_ r = [] then [] else [cutR from_ to_ at_ r]) ++ cutZ from_ to_ (at_ + r.length) z
theorem enumR_len : ∀ (r : Row) (j : Nat), (enumR j r).length = r.length
  | [], j => rfl
  | x :: r, j => by show (enumR (j + 1) r).length + 1 = _; rw [enumR_len r]; rfl
theorem flatZ_len : ∀ (z : List Row) (k : Nat), (flatZ k z).length = tot z
  | [], k => rfl
  | r :: z, k => by
    show ((enumR 0 r).map _ ++ flatZ (k + 1) z).length = _
    rw [List.length_append, List.length_map, enumR_len, flatZ_len z, tot_cons]
theorem rowsG_in (from_ to_ k : Nat) (out : List Row) : ∀ (r : Row) (j at_ : Nat) (acc : Row) (L : List LnE), rowsG from_ to_ at_ ((enumR j r).map (fun p => (k, p)) ++ L) (out ++ [acc], (k : Int)) = rowsG from_ to_ (at_ + r.length) L (out ++ [acc ++ cutR from_ to_ at_ r], (k : Int))
  | [], j, at_, acc, L => by
    show rowsG from_ to_ at_ L _ = rowsG from_ to_ at_ L (out ++ [acc ++ []], _)
    rw [List.append_nil]
  | x :: r, j, at_, acc, L => by
    show rowsG from_ to_ at_ ((k, j, x) :: ((enumR (j + 1) r).map (fun p => (k, p)) ++ L)) _ = _
    rw [rowsG, cutR, List.length_cons, show at_ + (r.length + 1) = at_ + 1 + r.length by omega]
    by_cases h : from_ ≤ at_ ∧ at_ < to_
    · rw [if_neg (by omega), if_neg (by simp), if_pos h]
      show rowsG from_ to_ (at_ + 1) _ ((out ++ [acc]).dropLast ++ [lastL (out ++ [acc]) ++ [x]], (k : Int)) = _
      have h6 : lastL (out ++ [acc]) = acc := by unfold lastL; rw [List.getLastD_concat]
      rw [List.dropLast_concat, h6, rowsG_in from_ to_ k out r (j + 1) (at_ + 1) (acc ++ [x]) L, List.append_assoc]; rfl
    · rw [if_pos (by omega), if_neg h, rowsG_in from_ to_ k out r (j + 1) (at_ + 1) acc L]
theorem rowsG_row (from_ to_ k : Nat) (out : List Row) (s : Int) (hs : s ≠ (k : Int)) : ∀ (r : Row) (j at_ : Nat) (L : List LnE), rowsG from_ to_ at_ ((enumR j r).map (fun p => (k, p)) ++ L) (out, s) =
    if cutR from_ to_ at_ r = [] then rowsG from_ to_ (at_ + r.length) L (out, s) else rowsG from_ to_ (at_ + r.length) L (out ++ [cutR from_ to_ at_ r], (k : Int))
  | [], j, at_, L => by rw [show cutR from_ to_ at_ [] = [] from rfl, if_pos rfl]; rfl
  | x :: r, j, at_, L => by
    show rowsG from_ to_ at_ ((k, j, x) :: ((enumR (j + 1) r).map (fun p => (k, p)) ++ L)) _ = _
    rw [rowsG, cutR, List.length_cons, show at_ + (r.length + 1) = at_ + 1 + r.length by omega]
    by_cases h : from_ ≤ at_ ∧ at_ < to_
    · rw [if_neg (by omega), if_pos (by show (k : Int) ≠ s; omega), if_pos h, if_neg (by simp)]
      exact rowsG_in from_ to_ k out r (j + 1) (at_ + 1) [x] L
    · rw [if_pos (by omega), if_neg h, rowsG_row from_ to_ k out s hs r (j + 1) (at_ + 1) L]
theorem rowsG_all (from_ to_ : Nat) : ∀ (z : List Row) (k at_ : Nat) (out : List Row) (s : Int), s < (k : Int) → (rowsG from_ to_ at_ (flatZ k z) (out, s)).1 = out ++ cutZ from_ to_ at_ z
  | [], k, at_, out, s, hs => (List.append_nil _).symm
  | r :: z, k, at_, out, s, hs => by
    show (rowsG from_ to_ at_ ((enumR 0 r).map (fun p => (k, p)) ++ flatZ (k + 1) z) (out, s)).1 = _
    rw [rowsG_row from_ to_ k out s (by omega), cutZ]
    split
    · rw [rowsG_all from_ to_ z (k + 1) _ out s (by omega)]; rfl
    · rw [rowsG_all from_ to_ z (k + 1) _ _ (k : Int) (by omega), List.append_assoc]
theorem cutR_full (to_ : Nat) : ∀ (r : Row) (at_ : Nat), at_ + r.length ≤ to_ → cutR 0 to_ at_ r = r
  | [], at_, h => rfl
  | x :: r, at_, h => by
    rw [List.length_cons] at h
    rw [cutR, if_pos ⟨Nat.zero_le _, by omega⟩, cutR_full to_ r (at_ + 1) (by omega)]
theorem cutZ_full (to_ : Nat) : ∀ (z : List Row) (at_ : Nat), (∀ r ∈ z, r ≠ []) → at_ + tot z ≤ to_ → cutZ 0 to_ at_ z = z
  | [], at_, hne, h => rfl
  | r :: z, at_, hne, h => by
    rw [tot_cons] at h
    rw [cutZ, cutR_full to_ r at_ (by omega), if_neg (hne r (by simp)), cutZ_full to_ z (at_ + r.length) (fun y hy => hne y (by simp [hy])) (by omega)]
    rfl
/-! ### A poem -/
structure OkP (p : Gpoem_Poem) (t : List UInt8) (z : List Row) : Prop extends GoodP t z where
  title : p.told_title = mkB t
  vok : VOk p.told_lines z
  sp : p.told_stanzas = stSp 0 z
  most : tot z ≤ 512
theorem OkP.len {p : Gpoem_Poem} {t : List UInt8} {z : List Row} (h : OkP p t z) : p.told_lines.length = tot z := by
  have := congrArg List.length h.vok
  rw [List.length_map, List.length_map, flatZ_len] at this
  exact this
theorem PInv.ok {st : RS} (h : PInv st) (src : ByteArray) : OkP (⟨mkB st.t, st.vs, stSp 0 st.stz, src⟩ : Gpoem_Poem) st.t st.stz := ⟨h.good, rfl, h.vok, rfl, by have := h.tot; have := h.most; omega⟩
theorem mem_enumR : ∀ (r : Row) (j : Nat) (p : Nat × List UInt8), p ∈ enumR j r → p.2 ∈ r
  | [], j, p, h => by cases h
  | x :: r, j, p, h => by
    rcases List.mem_cons.1 h with rfl | h
    · simp
    · exact List.mem_cons_of_mem _ (mem_enumR r _ p h)
theorem mem_flatZ : ∀ (z : List Row) (k : Nat) (p : LnE), p ∈ flatZ k z → ∃ r ∈ z, p.2.2 ∈ r
  | [], k, p, h => by cases h
  | r :: z, k, p, h => by
    rcases List.mem_append.1 (show p ∈ (enumR 0 r).map (fun p => (k, p)) ++ flatZ (k + 1) z from h) with h | h
    · obtain ⟨q, hq, rfl⟩ := List.mem_map.1 h
      exact ⟨r, by simp, mem_enumR r 0 q hq⟩
    · obtain ⟨r', h1, h2⟩ := mem_flatZ z _ p h
      exact ⟨r', by simp [h1], h2⟩
theorem rows_v {p : Gpoem_Poem} {t : List UInt8} {z : List Row} (h : OkP p t z) (from_ to_ : Nat) : poem_Poem_rows_v p (from_ : Int) (to_ : Int) = some (mkZ (cutZ from_ to_ 0 z)) := by
  unfold poem_Poem_rows_v
  have hm := h.most
  refine joinI (thenI rfl (thenI (each_v p (by rw [h.len]; omega)) (joinI ?_)))
  have := rows_go from_ to_ (fun (out4 : List (List ByteArray)) (stanza3 : Int) => some out4) (flatZ 0 z) p.told_lines 0 [] (-1) h.vok (fun q hq => by
    obtain ⟨r, h1, h2⟩ := mem_flatZ z 0 q hq
    exact (h.ln r h1 _ h2).le) (by rw [flatZ_len]; omega) (Nat.zero_le _) (fun r h => by cases h) (fun h => absurd rfl h)
  refine this.trans ?_
  rw [rowsG_all from_ to_ z 0 0 [] (-1) (by omega)]
  rfl
theorem wtR_le : ∀ (r : Row), (∀ x ∈ r, x.length ≤ 1024) → wtR r ≤ r.length * 1025
  | [], h => Nat.zero_le _
  | x :: r, h => by
    have h1 := wtR_le r fun y hy => h y (by simp [hy])
    have h2 := h x (by simp)
    rw [wtR_cons, List.length_cons]; omega
theorem wtZ_le : ∀ (z : List Row), (∀ r ∈ z, ∀ x ∈ r, x.length ≤ 1024) → wtZ z ≤ z.length + tot z * 1025
  | [], h => Nat.zero_le _
  | r :: z, h => by
    have h1 := wtZ_le z fun y hy => h y (by simp [hy])
    have h2 := wtR_le r (h r (by simp))
    rw [wtZ_cons, tot_cons, List.length_cons]; omega
theorem OkP.wt {p : Gpoem_Poem} {t : List UInt8} {z : List Row} (h : OkP p t z) : t.length + 3 + wtZ z ≤ 1000000 := by
  have h1 := wtZ_le z fun r hr x hx => (h.ln r hr x hx).le
  have h2 := tot_ge z h.ne
  have h3 := h.most
  have h4 := h.tL
  omega
theorem OkP.full {p : Gpoem_Poem} {t : List UInt8} {z : List Row} (h : OkP p t z) : poem_Poem_rows_v p 0 (p.told_lines.length : Int) = some (mkZ z) := by
  have := rows_v h 0 p.told_lines.length
  rw [cutZ_full _ z 0 h.ne (by rw [h.len]; omega)] at this
  exact this
theorem OkP.print {p : Gpoem_Poem} {t : List UInt8} {z : List Row} (h : OkP p t z) : poem_Poem_Print_v p = some (mkB (prT t z)) := by
  unfold poem_Poem_Print_v
  have := h.wt
  refine thenI h.full (thenI ?_ rfl)
  rw [h.title]
  exact printed_v t z h.ne (by omega)
end Go.Proofs.YtgfkogafkhbgnaaDoor
namespace Go.Proofs.YtgfkogafkhbgnaaDoor
open Go.RowKit Go.Lib
set_option linter.unusedVariables false
set_option linter.unusedSimpArgs false
theorem works_v : law17_works_v = some true := by decide +kernel
/-! ### The same -/
def k3 (v : Gapi_Verse) : ByteArray × Int × Int := (v.Text, v.Indent, v.Stanza)
theorem rowsG_congr (a b : Nat) : ∀ (L L' : List LnE) (i : Nat) (x : List Row × Int), L.map (fun p => (p.1, p.2.2)) = L'.map (fun p => (p.1, p.2.2)) → rowsG a b i L x = rowsG a b i L' x
  | [], [], i, x, h => rfl
  | [], q :: L', i, x, h => by cases h
  | p :: L, [], i, x, h => by cases h
  | p :: L, q :: L', i, x, h => by
    rw [List.map_cons, List.map_cons] at h
    obtain ⟨h1, h2⟩ := List.cons.inj h
    have e1 : p.1 = q.1 := (Prod.mk.inj h1).1
    have e2 : p.2.2 = q.2.2 := (Prod.mk.inj h1).2
    unfold rowsG
    rw [e1, e2]
    simp only [rowsG_congr a b L L' (i + 1) _ h2]
theorem key_inj {p q : LnE} (h : (keyL p).1 = (keyL q).1 ∧ (keyL p).2.1 = (keyL q).2.1 ∧ (keyL p).2.2.1 = (keyL q).2.2.1) : (p.1, p.2.2) = (q.1, q.2.2) := by
  obtain ⟨h1, h2, h3⟩ := h
  have e1 := mkB_inj h1
  have e2 : (ind p.2.2 : Int) = (ind q.2.2 : Int) := h2
  have e3 : (p.1 : Int) = (q.1 : Int) := h3
  have e4 : p.2.2 = q.2.2 := by
    rw [← ind_split p.2.2, ← ind_split q.2.2, e1, show ind p.2.2 = ind q.2.2 by omega]
  rw [e4, show p.1 = q.1 by omega]
theorem flat_of_k3 : ∀ (L L' : List LnE) (vs vs' : List Gapi_Verse), vs.map keyV = L.map keyL → vs'.map keyV = L'.map keyL → vs.map k3 = vs'.map k3 → L.map (fun p => (p.1, p.2.2)) = L'.map (fun p => (p.1, p.2.2))
  | [], [], vs, vs', h1, h2, h3 => rfl
  | [], q :: L', vs, vs', h1, h2, h3 => by
    have e1 := congrArg List.length h1; have e2 := congrArg List.length h2; have e3 := congrArg List.length h3
    simp at e1 e2 e3; rw [e1] at e3; simp at e3; rw [← e3] at e2; simp at e2
  | p :: L, [], vs, vs', h1, h2, h3 => by
    have e1 := congrArg List.length h1; have e2 := congrArg List.length h2; have e3 := congrArg List.length h3
    simp at e1 e2 e3; rw [e2] at e3; simp at e3; rw [e3] at e1; simp at e1
  | p :: L, q :: L', vs, vs', h1, h2, h3 => by
    cases vs with
    | nil => cases h1
    | cons v vs =>
      cases vs' with
      | nil => cases h2
      | cons v' vs' =>
        rw [List.map_cons, List.map_cons] at h1 h2 h3
        obtain ⟨a1, b1⟩ := List.cons.inj h1
        obtain ⟨a2, b2⟩ := List.cons.inj h2
        obtain ⟨a3, b3⟩ := List.cons.inj h3
        rw [List.map_cons, List.map_cons, flat_of_k3 L L' vs vs' b1 b2 b3]
        congr 1
        refine key_inj ⟨?_, ?_, ?_⟩
        · rw [← a1, ← a2]; exact congrArg (fun x => x.1) a3
        · rw [← a1, ← a2]; exact congrArg (fun x => x.2.1) a3
        · rw [← a1, ← a2]; exact congrArg (fun x => x.2.2) a3
theorem z_of_flat {z z' : List Row} (h1 : ∀ r ∈ z, r ≠ []) (h2 : ∀ r ∈ z', r ≠ []) (h : (flatZ 0 z).map (fun p => (p.1, p.2.2)) = (flatZ 0 z').map (fun p => (p.1, p.2.2))) : z = z' := by
  have e := rowsG_congr 0 (tot z + tot z') _ _ 0 ([], -1) h
  have a := rowsG_all 0 (tot z + tot z') z 0 0 [] (-1) (by omega)
  have b := rowsG_all 0 (tot z + tot z') z' 0 0 [] (-1) (by omega)
  rw [cutZ_full _ z 0 h1 (by omega)] at a
  rw [cutZ_full _ z' 0 h2 (by omega)] at b
  rw [e] at a
  have : [] ++ z = [] ++ z' := a.symm.trans b
  simpa using this
theorem k3_of {p q : Gpoem_Poem} {t t' : List UInt8} {z : List Row} (hp : OkP p t z) (hq : OkP q t' z) : p.told_lines.map k3 = q.told_lines.map k3 := by
  have h := hp.vok.trans hq.vok.symm
  have := congrArg (List.map fun x : ByteArray × Int × Int × Int => (x.1, x.2.1, x.2.2.1)) h
  rw [List.map_map, List.map_map] at this
  exact this
instance {a b : List (ByteArray × Int × Int)} : Decidable (a = b) := inferInstance
theorem same_loop (p q : Gpoem_Poem) (hl : p.told_lines.length = q.told_lines.length) (hb : p.told_lines.length ≤ 1000) : ∀ (n i : Nat), i ≤ p.told_lines.length → p.told_lines.length - i < n →
    loopG (fun _ => none) (poem_Poem_Same_s1 p q (some true)) n (i : Int) = some (decide ((p.told_lines.drop i).map k3 = (q.told_lines.drop i).map k3)) := by
  intro n
  induction n with
  | zero => intro i h1 h2; omega
  | succ n ih =>
    intro i hi hn
    rw [loopG_succ]
    obtain ⟨ag, hag⟩ : ∃ ag, ag = loopG (fun _ => none) (poem_Poem_Same_s1 p q (some true)) n := ⟨_, rfl⟩
    rw [← hag] at ih ⊢
    unfold poem_Poem_Same_s1
    rcases Nat.lt_or_ge i p.told_lines.length with h | h
    · have h' : i < q.told_lines.length := by omega
      have hd := List.drop_eq_getElem_cons h
      have hd' := List.drop_eq_getElem_cons h'
      rw [hd, hd', List.map_cons, List.map_cons]
      refine condTI (decide_eq_true (by omega)) (thenI (getO_nat (List.getElem?_eq_getElem h)) (thenI (getO_nat (List.getElem?_eq_getElem h')) ?_))
      generalize p.told_lines[i] = v
      generalize q.told_lines[i] = v'
      by_cases h1 : v.Text = v'.Text
      · refine condFI (by rw [decide_eq_true h1]; rfl) ?_
        by_cases h2 : v.Indent = v'.Indent
        · refine condFI (by rw [h2]; exact bne_self_eq_false _) ?_
          by_cases h3 : v.Stanza = v'.Stanza
          · refine condFI (by rw [h3]; exact bne_self_eq_false _) (grdI ⟨by omega, by omega⟩ ?_)
            rw [show (i : Int) + 1 = ((i + 1 : Nat) : Int) by omega, ih (i + 1) (by omega) (by omega)]
            have : k3 v = k3 v' := by unfold k3; rw [h1, h2, h3]
            rw [this]
            congr 1
            exact (decide_eq_decide.2 ⟨fun e => by rw [e], fun e => (List.cons.inj e).2⟩)
          · refine condTI (bne_iff_ne.2 h3) ?_
            rw [decide_eq_false (fun e => h3 (congrArg (fun x : ByteArray × Int × Int => x.2.2) (List.cons.inj e).1))]
        · refine condTI (bne_iff_ne.2 h2) ?_
          rw [decide_eq_false (fun e => h2 (congrArg (fun x : ByteArray × Int × Int => x.2.1) (List.cons.inj e).1))]
      · refine condTI (by rw [decide_eq_false h1]; rfl) ?_
        rw [decide_eq_false (fun e => h1 (congrArg (fun x : ByteArray × Int × Int => x.1) (List.cons.inj e).1))]
    · rw [List.drop_eq_nil_of_le h, List.drop_eq_nil_of_le (by omega)]
      exact condFI (decide_eq_false (by omega)) rfl
/-- What Same answers. -/
theorem same_v {p q : Gpoem_Poem} {t t' : List UInt8} {z z' : List Row} (hp : OkP p t z) (hq : OkP q t' z') : poem_Poem_Same_v p q = some (decide (t = t' ∧ z = z')) := by
  unfold poem_Poem_Same_v
  have m1 := hp.most
  have m2 := hq.most
  have l1 := hp.len
  have l2 := hq.len
  by_cases ht : t = t'
  · refine condFI (by rw [hp.title, hq.title, ht]; simp) ?_
    by_cases hl : p.told_lines.length = q.told_lines.length
    · refine condFI (by rw [hl]; exact bne_self_eq_false _) (joinI ?_)
      have := same_loop p q hl (by omega) fuel 0 (Nat.zero_le _) (by unfold fuel; omega)
      rw [List.drop_zero, List.drop_zero] at this
      refine this.trans ?_
      congr 1
      refine decide_eq_decide.2 ⟨fun e => ⟨ht, z_of_flat hp.ne hq.ne (flat_of_k3 _ _ _ _ hp.vok hq.vok e)⟩, fun e => ?_⟩
      have hz := e.2
      subst hz
      exact k3_of hp hq
    · refine condTI (bne_iff_ne.2 (by omega)) ?_
      rw [decide_eq_false (fun e => hl (by rw [l1, l2, e.2]))]
  · refine condTI (by rw [hp.title, hq.title, decide_eq_false (fun e => ht (mkB_inj e))]; rfl) ?_
    rw [decide_eq_false (fun e => ht e.1)]
end Go.Proofs.YtgfkogafkhbgnaaDoor
namespace Go.Proofs.YtgfkogafkhbgnaaDoor
open Go.RowKit Go.Lib
set_option linter.unusedVariables false
set_option linter.unusedSimpArgs false
theorem line_at {p : Gpoem_Poem} {i : Nat} {v : Gapi_Verse} (h : p.told_lines[i]? = some v) : poem_Poem_Line_v p (i : Int) = some (v, 0) := by
  have hl := (List.getElem?_eq_some_iff.1 h).1
  unfold poem_Poem_Line_v
  exact condFI (decide_eq_false (by omega)) (condFI (decide_eq_false (by omega)) (thenI (getO_nat h) rfl))
/-- A poem that is made. -/
theorem made_good {t : List UInt8} {z : List Row} (h : GoodP t z) (hn : tot z ≤ 512) (hl : (prT t z).length ≤ 65536) : ∃ p, poem_made_v (mkB t) (mkZ z) = some (some p, 0) ∧ OkP p t z ∧ p.source = mkB (prT t z) ∧
    poem_Read_v (mkB (prT t z)) = some (some p, (⟨0, 0⟩ : Gapi_Spot)) ∧ ref17_Read_v (mkB (prT t z)) = some ((⟨mkB t, mkZ z⟩ : Gref17_Poem), p.told_lines, (⟨0, 0⟩ : Gapi_Spot)) := by
  obtain ⟨st, h1, h2, h3⟩ := rd_print h hn hl
  obtain ⟨hI, _⟩ := rd_ok h1
  have hwt := wtZ_le z fun r hr x hx => (h.ln r hr x hx).le
  have h4 := tot_ge z h.ne
  have h5 := h.tL
  have hr := read_v (prT t z)
  have hrr := refread_v (prT t z)
  rw [h1] at hr hrr
  have hok := hI.ok (mkB (prT t z))
  rw [h2, h3] at hok
  refine ⟨(⟨mkB st.t, st.vs, stSp 0 st.stz, mkB (prT t z)⟩ : Gpoem_Poem), ?_, by rw [h2, h3]; exact hok, rfl, hr, ?_⟩
  · rw [made_v t z h.ne (by omega), if_neg (by omega), hr]; rfl
  · rw [hrr]
    show some ((⟨mkB st.t, mkZ st.stz⟩ : Gref17_Poem), st.vs, _) = _
    rw [h2, h3]
end Go.Proofs.YtgfkogafkhbgnaaDoor
namespace Go.Proofs.YtgfkogafkhbgnaaDoor
open Go.RowKit Go.Lib
set_option linter.unusedVariables false
set_option linter.unusedSimpArgs false
/-! ### Cutting -/
theorem cutR_mem (a b : Nat) : ∀ (r : Row) (i : Nat), ∀ x ∈ cutR a b i r, x ∈ r
  | [], i, x, h => by cases h
  | y :: r, i, x, h => by
    rw [cutR] at h
    split at h
    · rcases List.mem_cons.1 h with rfl | h
      · simp
      · exact List.mem_cons_of_mem _ (cutR_mem a b r _ x h)
    · exact List.mem_cons_of_mem _ (cutR_mem a b r _ x h)
theorem cutR_len (a b : Nat) : ∀ (r : Row) (i : Nat), (cutR a b i r).length ≤ r.length
  | [], i => Nat.le_refl _
  | y :: r, i => by
    rw [cutR, List.length_cons]
    have := cutR_len a b r (i + 1)
    split
    · rw [List.length_cons]; omega
    · omega
theorem cutZ_sub (a b : Nat) : ∀ (z : List Row) (i : Nat), (∀ r ∈ cutZ a b i z, r ≠ [] ∧ ∃ r' ∈ z, ∀ x ∈ r, x ∈ r') ∧ tot (cutZ a b i z) ≤ tot z
  | [], i => ⟨(fun r h => by cases h), Nat.le_refl _⟩
  | y :: z, i => by
    obtain ⟨h1, h2⟩ := cutZ_sub a b z (i + y.length)
    have hl := cutR_len a b y i
    rw [cutZ, tot_app, tot_cons]
    constructor
    · intro r hr
      rcases List.mem_append.1 hr with hr | hr
      · split at hr
        · cases hr
        · rename_i hne
          rw [List.mem_singleton] at hr
          subst hr
          exact ⟨hne, y, by simp, cutR_mem a b y i⟩
      · obtain ⟨h3, r', h4, h5⟩ := h1 r hr
        exact ⟨h3, r', by simp [h4], h5⟩
    · split
      · show 0 + _ ≤ _; omega
      · rw [tot_one]; omega
theorem GoodP.cut {t : List UInt8} {z : List Row} (h : GoodP t z) (a b : Nat) : GoodP t (cutZ a b 0 z) :=
  ⟨h.tE, h.tL, fun r hr => ((cutZ_sub a b z 0).1 r hr).1, fun r hr x hx => by
    obtain ⟨_, r', h1, h2⟩ := (cutZ_sub a b z 0).1 r hr
    exact h.ln r' h1 x (h2 x hx)⟩
theorem GoodP.app {t : List UInt8} {z z' : List Row} (h : GoodP t z) {t' : List UInt8} (h' : GoodP t' z') : GoodP t (z ++ z') :=
  ⟨h.tE, h.tL, (fun r hr => (List.mem_append.1 hr).elim (h.ne r) (h'.ne r)), (fun r hr => (List.mem_append.1 hr).elim (h.ln r) (h'.ln r))⟩
end Go.Proofs.YtgfkogafkhbgnaaDoor
