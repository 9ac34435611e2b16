/-
  Texts laid together: LqH, PqF, PqG, PqH, LqY. Nothing is assumed.
-/
import Derived.Test.YtgfkogafkhbgnaaDoorPoemChanges4
import Derived.Test.YtgfkogafkhbgnaaDoorPoemChanges3
set_option maxRecDepth 100000
set_option maxHeartbeats 4000000
namespace Go.Proofs.YtgfkogafkhbgnaaDoor
open Go.RowKit Go.Lib
set_option linter.unusedVariables false
set_option linter.unusedSimpArgs false
def zcQ (j3 : ByteArray → Option ByteArray) (x5 : List ByteArray) (ag2 : ByteArray → Int → Option ByteArray) (b12 : ByteArray) (x8 : Int) : Option ByteArray := zaU (decide ((x8 : Int) < (x5.length : Int))) ( zaG (zdh x5 x8) fun (q2 : ByteArray) => grd (q2.size + (⟨#[10]⟩ : ByteArray).size ≤ 9223372036854775807) <| grd (b12.size + (q2 ++ (⟨#[10]⟩ : ByteArray)).size ≤ 140737488355328) <| grd (I64 (x8 + 1)) <| ag2 (b12 ++ (q2 ++ (⟨#[10]⟩ : ByteArray))) (x8 + 1)
) ( j3 b12
)
def zb4 (stanzas1 : List (List ByteArray)) (j2 : ByteArray → Option ByteArray) (ag1 : ByteArray → Int → Option ByteArray) (b7 : ByteArray) (x4 : Int) : Option ByteArray := zaU (decide ((x4 : Int) < (stanzas1.length : Int))) ( zbO (fun (j3 : ByteArray → Option ByteArray) => zaG (zdh stanzas1 x4) fun (x5 : List ByteArray) => zbO (fun (j4 : ByteArray → Option ByteArray) => zaU (decide ((0 : Int) < (b7.size : Int))) ( grd (b7.size + (⟨#[10]⟩ : ByteArray).size ≤ 140737488355328) <| j4 (b7 ++ (⟨#[10]⟩ : ByteArray))
) ( j4 b7
)
) (fun (b9 : ByteArray) => za8 (fun _ _ => none) (zcQ j3 x5) zb0 b9 0
)
) (fun (b8 : ByteArray) => grd (I64 (x4 + 1)) <| ag1 b8 (x4 + 1)
)
) ( j2 b7
)
def zc1 (title1 : ByteArray) (stanzas1 : List (List ByteArray)) : Option ByteArray := zbO (fun (j1 : ByteArray → Option ByteArray) => zaU (!decide (title1 = (⟨#[]⟩ : ByteArray))) ( grd ((⟨#[35, 32]⟩ : ByteArray).size + title1.size ≤ 9223372036854775807) <| grd (((⟨#[35, 32]⟩ : ByteArray) ++ title1).size + (⟨#[10]⟩ : ByteArray).size ≤ 9223372036854775807) <| grd ((⟨#[]⟩ : ByteArray).size + (((⟨#[35, 32]⟩ : ByteArray) ++ title1) ++ (⟨#[10]⟩ : ByteArray)).size ≤ 140737488355328) <| j1 ((⟨#[]⟩ : ByteArray) ++ (((⟨#[35, 32]⟩ : ByteArray) ++ title1) ++ (⟨#[10]⟩ : ByteArray)))
) ( zaU (decide ((0 : Int) < (stanzas1.length : Int))) ( zaG (zdh stanzas1 0) fun (x1 : List ByteArray) => zaG (zdh x1 0) fun (q1 : ByteArray) => zaG (zee q1) fun (r1 : Bool) => zaU (r1) ( grd ((⟨#[35, 32]⟩ : ByteArray).size + title1.size ≤ 9223372036854775807) <| grd (((⟨#[35, 32]⟩ : ByteArray) ++ title1).size + (⟨#[10]⟩ : ByteArray).size ≤ 9223372036854775807) <| grd ((⟨#[]⟩ : ByteArray).size + (((⟨#[35, 32]⟩ : ByteArray) ++ title1) ++ (⟨#[10]⟩ : ByteArray)).size ≤ 140737488355328) <| j1 ((⟨#[]⟩ : ByteArray) ++ (((⟨#[35, 32]⟩ : ByteArray) ++ title1) ++ (⟨#[10]⟩ : ByteArray)))
) ( j1 (⟨#[]⟩ : ByteArray)
)
) ( j1 (⟨#[]⟩ : ByteArray)
)
)
) (fun (b2 : ByteArray) => zbO (fun (j2 : ByteArray → Option ByteArray) => za8 (fun _ _ => none) (zb4 stanzas1 j2) zb0 b2 0
) (fun (b4 : ByteArray) => some b4
)
)
theorem zgd {title1 : ByteArray} {vvstanzas1 : Value} {vstanzas1 : Hd} {Zstanzas1 : List ((List ByteArray) × Hd)} {kstanzas1 : Nat} {zstanzas1 : List ((List ByteArray) × Hd)} {stanzas1 : List (List ByteArray)} (hwstanzas1 : Vw vvstanzas1 Zstanzas1 1 kstanzas1 vstanzas1.v zstanzas1) (hzstanzas1 : zstanzas1.map Prod.fst = stanzas1) {r : ByteArray} (h : zc1 title1 stanzas1 = some r) : FnR Tryd.prog 60 [.string title1, vstanzas1.v] [zbk zae 1 vvstanzas1 kstanzas1 Zstanzas1, zbM zaD Zstanzas1] [] (fun _ : Unit => (.string r)) (fun _ => []) := by
 unfold zc1 at h
 refine FnR.intro Tryd.func60 rfl Tryd.ntmps60 (by simp) ?_
 intro w0 K hrd
 obtain ⟨j1, hj1, h⟩ := zcp h
 refine zbm (β := ByteArray × Nat) 2 rfl (fun b => j1 b.1 = some r) (fun b => []) (fun b => [(1, vstanzas1.v), (5, zP b.2)]) (fun b => [ziv b.2 b.1]) (fun cut => ?_) ?_
 ·
  refine zas (zai (zak rfl dc rfl (zap (zaj (zas (zai ?_))))))
  refine zbl zoG rfl dc (fun b3 => ?_)
  show TO _ _ _ _ _ _ _ _ _ _ [cells b3 [.pointer none, .slice none 0 0] 106]
  refine znY (k := 0) rfl zlX ?_
  show TO _ _ _ _ _ _ _ _ _ _ [ziv b3 (⟨#[]⟩ : ByteArray)]
  refine zap (zaj (cut (zas (zai (zah rfl dc rfl (zaz rfl dc rfl rfl zcY (zah rfl dc rfl ?_)))))))
  refine za6 (s := 12) rfl (fun hb1 => ?_) (fun hb1 => ?_)
  ·
   have h := za0 hb1 h
   refine zan rfl dc (zan rfl dc (zan rfl dc (zan rfl dc (zan rfl dc (zan rfl dc (zan rfl dc (zan rfl dc (zan rfl dc (zan rfl dc (zan rfl dc (zaB (b := true) rfl dc rfl rfl (zap (zaj ?_)))))))))))))
   refine zbu rfl (zai (zah rfl dc rfl ?_))
   obtain ⟨hg1, h⟩ := zcb h
   refine zaz rfl dc rfl rfl (zeh hg1) ?_
   obtain ⟨hg2, h⟩ := zcb h
   refine zaz rfl dc rfl rfl (zeh hg2) ?_
   obtain ⟨hg3, h⟩ := zcb h
   refine zed (vs := [zP b3, .string (((⟨#[35, 32]⟩ : ByteArray) ++ title1) ++ (⟨#[10]⟩ : ByteArray))]) rfl dc rfl rfl rfl znr (zjd b3 (⟨#[]⟩ : ByteArray) (((⟨#[35, 32]⟩ : ByteArray) ++ title1) ++ (⟨#[10]⟩ : ByteArray)) hg3) (zal [0] kr rfl) ?_
   rintro u1
   show TO _ _ _ _ _ _ _ _ _ _ [emp, ziv b3 ((⟨#[]⟩ : ByteArray) ++ (((⟨#[35, 32]⟩ : ByteArray) ++ title1) ++ (⟨#[10]⟩ : ByteArray)))]
   refine zap ?_
   exact zaO ((⟨#[]⟩ : ByteArray) ++ (((⟨#[35, 32]⟩ : ByteArray) ++ title1) ++ (⟨#[10]⟩ : ByteArray)), b3) h rfl (zad rfl (zad rfl (zaH))) (zal [1] kr rfl)
  ·
   have h := za1 hb1 h
   refine zah rfl dc rfl (zcS hzstanzas1 hwstanzas1 rfl dc rfl Tryd.underlying54 (zaz rfl dc rfl rfl zdC (zah rfl dc rfl ?_)))
   refine za6 (s := 16) rfl (fun hb2 => ?_) (fun hb2 => ?_)
   ·
    have h := za0 hb2 h
    refine zah rfl dc rfl ?_
    obtain ⟨x1, hq1, h⟩ := zbN h
    obtain ⟨eh1, eq1⟩ := zeb hzstanzas1 hq1
    have hrd : Rd _ _ [zbk zae 1 vvstanzas1 kstanzas1 Zstanzas1, zbM zaD Zstanzas1, zej zbT 1 eh1 x1] := hrd.openEl (i := 1) (z := (x1, eh1)) rfl (Vw.get hwstanzas1 eq1)
    obtain ⟨vv1, k1, L1, hV1, hrd⟩ := hrd.openSl (i := 2) rfl
    replace hrd : Rd _ _ [zbk zae 1 vvstanzas1 kstanzas1 Zstanzas1, zbM zaD Zstanzas1, zej zbT 1 eh1 x1, zbk zbT 1 vv1 k1 L1] := hrd
    refine zbd hwstanzas1 eq1 Tryd.underlying54 zet rfl dc rfl rfl rfl (zbi (n := kstanzas1 + (0 : Int).toNat) (j := 0) (i := 0) (q := (x1, eh1)) hrd rfl (by omega) zeR rfl dc rfl (Vw.get hwstanzas1 eq1) rfl rfl ?_)
    obtain ⟨q1, hq2, h⟩ := zbN h
    refine zbd hV1 hq2 Tryd.underlying48 zlY rfl dc rfl rfl rfl (zbi (n := k1 + (0 : Int).toNat) (j := 0) (i := 3) (q := q1) hrd rfl (by omega) zgm rfl dc rfl (Vw.get hV1 hq2) rfl rfl ?_)
    obtain ⟨r1, hq3, h⟩ := zbN h
    refine zbH (v := .bool r1) (vs := [.string q1]) rfl dc rfl rfl rfl zo2 (zgA hq3) (zaB (b := true) rfl dc rfl rfl (zaB (b := false) rfl dc rfl rfl (zap (zaj ?_))))
    refine zaM rfl (fun hb3 => ?_) (fun hb3 => ?_)
    ·
     have h := za0 hb3 h
     refine zai (zah rfl dc rfl ?_)
     obtain ⟨hg4, h⟩ := zcb h
     refine zaz rfl dc rfl rfl (zeh hg4) ?_
     obtain ⟨hg5, h⟩ := zcb h
     refine zaz rfl dc rfl rfl (zeh hg5) ?_
     obtain ⟨hg6, h⟩ := zcb h
     refine zed (vs := [zP b3, .string (((⟨#[35, 32]⟩ : ByteArray) ++ title1) ++ (⟨#[10]⟩ : ByteArray))]) rfl dc rfl rfl rfl znr (zjd b3 (⟨#[]⟩ : ByteArray) (((⟨#[35, 32]⟩ : ByteArray) ++ title1) ++ (⟨#[10]⟩ : ByteArray)) hg6) (zal [0] kr rfl) ?_
     rintro u2
     show TO _ _ _ _ _ _ _ _ _ _ [emp, ziv b3 ((⟨#[]⟩ : ByteArray) ++ (((⟨#[35, 32]⟩ : ByteArray) ++ title1) ++ (⟨#[10]⟩ : ByteArray)))]
     refine zap ?_
     exact zaO ((⟨#[]⟩ : ByteArray) ++ (((⟨#[35, 32]⟩ : ByteArray) ++ title1) ++ (⟨#[10]⟩ : ByteArray)), b3) h rfl (zad rfl (zad rfl (zaH))) (zal [1] kr rfl)
    ·
     have h := za1 hb3 h
     refine zaP ?_
     exact zaO ((⟨#[]⟩ : ByteArray), b3) h rfl (zad rfl (zad rfl (zaH))) (zal [0] kr rfl)
   ·
    have h := za1 hb2 h
    refine zan rfl dc (zan rfl dc (zan rfl dc (zan rfl dc (zan rfl dc (zan rfl dc (zaB (b := false) rfl dc rfl rfl (zaB (b := false) rfl dc rfl rfl (zap (zaj (zbp rfl (zaP ?_)))))))))))
    exact zaO ((⟨#[]⟩ : ByteArray), b3) h rfl (zad rfl (zad rfl (zaH))) (zal [0] kr rfl)
 ·
  rintro ⟨b2, b1⟩ h
  rw [hj1] at h
  show TC _ _ _ _ _ ([]) _ _ [(1, vstanzas1.v), (5, zP b1)] [ziv b1 b2]
  obtain ⟨j2, hj2, h⟩ := zcp h
  refine zbm (β := ByteArray) 0 rfl (fun b => j2 b = some r) (fun b => []) (fun b => [(5, zP b1)]) (fun b => [ziv b1 b]) (fun cut => ?_) ?_
  ·
   refine cut (zas (zai (zah rfl dc rfl (zcS hzstanzas1 hwstanzas1 rfl dc rfl Tryd.underlying54 (zah rfl dc rfl (zap (zaj (za2 ?_))))))))
   refine zbJ (β := Nat × ByteArray × Int) (fun b => za8 (fun _ _ => none) (zb4 stanzas1 j2) b.1 b.2.1 b.2.2 = some r) (fun b => []) (fun b => [(5, zP b1), (29, vstanzas1.v), (30, zI (stanzas1.length : Int)), (31, zI b.2.2)]) (fun b => [ziv b1 b.2.1]) (fun b => b.1) (zb0, b2, 0) h rfl (zad rfl (zad rfl (zad rfl (zad rfl (zaH))))) (zal [0] kr rfl) ?_
   rintro ⟨n1, b7, x4⟩ h
   cases n1 with
   | zero => exact zdV h
   | succ n1 =>
    obtain ⟨ag1, hag1⟩ : ∃ ag, ag = za8 (fun _ _ => none) (zb4 stanzas1 j2) n1 := ⟨_, rfl⟩
    have h : zb4 stanzas1 j2 ag1 b7 x4 = some r := by rw [hag1]; exact h
    unfold zb4 at h
    show TC _ _ _ _ _ ([]) _ _ [(5, zP b1), (29, vstanzas1.v), (30, zI (stanzas1.length : Int)), (31, zI x4)] [ziv b1 b7]
    refine zas (zai (zaz rfl dc rfl rfl zbF (zap (zaj (zas ?_)))))
    refine zaM rfl (fun hb4 => ?_) (fun hb4 => ?_)
    ·
     have h := za0 hb4 h
     refine zaP (zaj ?_)
     obtain ⟨j3, hj3, h⟩ := zcp h
     refine zbm (β := ByteArray) 0 rfl (fun b => j3 b = some r) (fun b => []) (fun b => [(5, zP b1), (29, vstanzas1.v), (30, zI (stanzas1.length : Int)), (31, zI x4)]) (fun b => [ziv b1 b]) (fun cut => ?_) ?_
     ·
      refine cut (za2 (zas (zai ?_)))
      obtain ⟨x5, hq4, h⟩ := zbN h
      obtain ⟨eh2, eq2⟩ := zeb hzstanzas1 hq4
      have hrd : Rd _ _ [zbk zae 1 vvstanzas1 kstanzas1 Zstanzas1, zbM zaD Zstanzas1, zej zbT 1 eh2 x5] := hrd.openEl (i := 1) (z := (x5, eh2)) rfl (Vw.get hwstanzas1 eq2)
      obtain ⟨vv2, k2, L2, hV2, hrd⟩ := hrd.openSl (i := 2) rfl
      replace hrd : Rd _ _ [zbk zae 1 vvstanzas1 kstanzas1 Zstanzas1, zbM zaD Zstanzas1, zej zbT 1 eh2 x5, zbk zbT 1 vv2 k2 L2] := hrd
      refine zbd hwstanzas1 eq2 Tryd.underlying54 zet rfl dc rfl rfl rfl (zbi (n := kstanzas1 + (x4 : Int).toNat) (j := 0) (i := 0) (q := (x5, eh2)) hrd rfl (by omega) zeR rfl dc rfl (Vw.get hwstanzas1 eq2) rfl rfl (zak rfl dc rfl (zap (zaj ?_))))
      obtain ⟨j4, hj4, h⟩ := zcp h
      refine zbm (β := ByteArray) 0 rfl (fun b => j4 b = some r) (fun b => []) (fun b => [(5, zP b1), (7, eh2.v), (29, vstanzas1.v), (30, zI (stanzas1.length : Int)), (31, zI x4)]) (fun b => [ziv b1 b]) (fun cut => ?_) ?_
      ·
       refine cut (zas (zai (znD (v := zI (b7.size : Int)) (vs := [zP b1]) rfl dc rfl rfl rfl zpM (zos b1 b7) [0] kr rfl (zaz rfl dc rfl rfl zdC (zap (zaj ?_))))))
       refine zaM rfl (fun hb5 => ?_) (fun hb5 => ?_)
       ·
        have h := za0 hb5 h
        refine zai ?_
        obtain ⟨hg7, h⟩ := zcb h
        refine zed (vs := [zP b1, .string (⟨#[10]⟩ : ByteArray)]) rfl dc rfl rfl rfl znr (zjd b1 b7 (⟨#[10]⟩ : ByteArray) hg7) (zal [0] kr rfl) ?_
        rintro u3
        show TO _ _ _ _ _ _ _ _ _ _ [emp, ziv b1 (b7 ++ (⟨#[10]⟩ : ByteArray))]
        refine zap ?_
        exact zaO (b7 ++ (⟨#[10]⟩ : ByteArray)) h rfl (zad rfl (zad rfl (zad rfl (zad rfl (zad rfl (zaH)))))) (zal [1] kr rfl)
       ·
        have h := za1 hb5 h
        refine zaP ?_
        exact zaO b7 h rfl (zad rfl (zad rfl (zad rfl (zad rfl (zad rfl (zaH)))))) (zal [0] kr rfl)
      ·
       rintro b9 h
       rw [hj4] at h
       show TC _ _ _ _ _ ([]) _ _ [(5, zP b1), (7, eh2.v), (29, vstanzas1.v), (30, zI (stanzas1.length : Int)), (31, zI x4)] [ziv b1 b9]
       refine zas (zai (zah rfl dc rfl (zbG hV2 rfl dc rfl Tryd.underlying48 (zah rfl dc rfl (zap (zaj (za2 ?_)))))))
       refine zbJ (β := Nat × ByteArray × Int) (fun b => za8 (fun _ _ => none) (zcQ j3 x5) b.1 b.2.1 b.2.2 = some r) (fun b => []) (fun b => [(5, zP b1), (29, vstanzas1.v), (30, zI (stanzas1.length : Int)), (31, zI x4), (38, eh2.v), (39, zI (x5.length : Int)), (40, zI b.2.2)]) (fun b => [ziv b1 b.2.1]) (fun b => b.1) (zb0, b9, 0) h rfl (zad rfl (zad rfl (zad rfl (zad rfl (zad rfl (zad rfl (zad rfl (zaH)))))))) (zal [0] kr rfl) ?_
       rintro ⟨n2, b12, x8⟩ h
       cases n2 with
       | zero => exact zdV h
       | succ n2 =>
        obtain ⟨ag2, hag2⟩ : ∃ ag, ag = za8 (fun _ _ => none) (zcQ j3 x5) n2 := ⟨_, rfl⟩
        have h : zcQ j3 x5 ag2 b12 x8 = some r := by rw [hag2]; exact h
        unfold zcQ at h
        show TC _ _ _ _ _ ([]) _ _ [(5, zP b1), (29, vstanzas1.v), (30, zI (stanzas1.length : Int)), (31, zI x4), (38, eh2.v), (39, zI (x5.length : Int)), (40, zI x8)] [ziv b1 b12]
        refine zas (zai (zaz rfl dc rfl rfl zbF (zap (zaj (zas ?_)))))
        refine zaM rfl (fun hb6 => ?_) (fun hb6 => ?_)
        ·
         have h := za0 hb6 h
         refine zaP (zaj (zas (za2 (zas (zai ?_)))))
         obtain ⟨q2, hq5, h⟩ := zbN h
         refine zbd hV2 hq5 Tryd.underlying48 zlY rfl dc rfl rfl rfl (zbi (n := k2 + (x8 : Int).toNat) (j := 0) (i := 3) (q := q2) hrd rfl (by omega) zgm rfl dc rfl (Vw.get hV2 hq5) rfl rfl (zak rfl dc rfl (zap (zaj (zai (zah rfl dc rfl ?_))))))
         obtain ⟨hg8, h⟩ := zcb h
         refine zaz rfl dc rfl rfl (zeh hg8) ?_
         obtain ⟨hg9, h⟩ := zcb h
         refine zed (vs := [zP b1, .string (q2 ++ (⟨#[10]⟩ : ByteArray))]) rfl dc rfl rfl rfl znr (zjd b1 b12 (q2 ++ (⟨#[10]⟩ : ByteArray)) hg9) (zal [0] kr rfl) ?_
         rintro u4
         show TO _ _ _ _ _ _ _ _ _ _ [emp, ziv b1 (b12 ++ (q2 ++ (⟨#[10]⟩ : ByteArray)))]
         refine zap (zaA (zaj (zai ?_)))
         obtain ⟨hg10, h⟩ := zcb h
         refine zaz rfl dc rfl rfl (zbh (r := x8 + 1) (IntWalk.i64_in _ hg10)) (zah rfl dc rfl (zap ?_))
         subst hag2
         exact zbj (n2, b12 ++ (q2 ++ (⟨#[10]⟩ : ByteArray)), x8 + 1) h (Nat.lt_succ_self _) rfl (zad rfl (zad rfl (zad rfl (zad rfl (zad rfl (zad rfl (zad rfl (zaH)))))))) (zal [1] kr rfl)
        ·
         have h := za1 hb6 h
         refine zby (zaJ (zaJ (zaV (zaA ?_))))
         exact zaO b12 h rfl (zad rfl (zad rfl (zad rfl (zad rfl (zaH))))) (zal [0] kr rfl)
     ·
      rintro b8 h
      rw [hj3] at h
      show TC _ _ _ _ _ ([]) _ _ [(5, zP b1), (29, vstanzas1.v), (30, zI (stanzas1.length : Int)), (31, zI x4)] [ziv b1 b8]
      refine zai ?_
      obtain ⟨hg11, h⟩ := zcb h
      refine zaz rfl dc rfl rfl (zbh (r := x4 + 1) (IntWalk.i64_in _ hg11)) (zah rfl dc rfl (zap ?_))
      subst hag1
      exact zbj (n1, b8, x4 + 1) h (Nat.lt_succ_self _) rfl (zad rfl (zad rfl (zad rfl (zad rfl (zaH))))) (zal [0] kr rfl)
    ·
     have h := za1 hb4 h
     refine zby (zaJ (zaJ (zaV ?_)))
     exact zaO b7 h rfl (zad rfl (zaH)) (zal [0] kr rfl)
  ·
   rintro b4 h
   rw [hj2] at h
   show TC _ _ _ _ _ ([]) _ _ [(5, zP b1)] [ziv b1 b4]
   refine zas (zai (zed (vs := [zP b1]) rfl dc rfl rfl rfl zpL (zor b1 b4) (zal [0] kr rfl) ?_))
   rintro _
   show TO _ _ _ _ _ _ _ _ _ _ [emp]
   refine zak rfl dc rfl (zap (zaj (zaX ?_)))
   cases h
   exact za3 (rs := [.tmp 4]) () (.inl rfl) Tryd.results60 (.cons (.tmp rfl) .nil) rfl Splits.nil
def zcs (from1 : Int) (to1 : Int) (x1 : Int × Gapi_Verse) (ag1 : (List (List ByteArray)) → Int → Option (List (List ByteArray))) (out4 : List (List ByteArray)) (stanza3 : Int) : Option (List (List ByteArray)) := zaU (decide ((x1.1 : Int) < from1)) ( ag1 out4 stanza3
) ( zaU (decide ((to1 : Int) ≤ x1.1)) ( ag1 out4 stanza3
) ( zbO (fun (j2 : (List (List ByteArray)) → Int → Option (List (List ByteArray))) => zaU ((x1.2.Stanza : Int) != stanza3) ( grd (out4.length + 1 ≤ 2147483648) <| j2 (out4 ++ [([] : List ByteArray)]) x1.2.Stanza
) ( j2 out4 stanza3
)
) (fun (out5 : List (List ByteArray)) (stanza4 : Int) => grd (I64 ((out5.length : Int) - 1)) <| zaG (zdh out5 ((out5.length : Int) - 1)) fun (x2 : List ByteArray) => grd (0 ≤ x1.2.Indent ∧ x1.2.Indent ≤ 140737488355328) <| grd ((zcF x1.2.Indent).size + x1.2.Text.size ≤ 9223372036854775807) <| grd (x2.length + 1 ≤ 2147483648) <| ag1 (out5.set ((out5.length : Int) - 1 : Int).toNat (x2 ++ [(zcF x1.2.Indent) ++ x1.2.Text])) stanza4
)
)
)
def zb9 (p1 : Gpoem_Poem) (from1 : Int) (to1 : Int) : Option (List (List ByteArray)) := zbO (fun (j1 : (List (List ByteArray)) → Option (List (List ByteArray))) => zaG (zem p1) fun (r1 : Unit) => zaG (zcT p1) fun (its1 : (List (Int × Gapi_Verse))) => zbO (fun (d1 : (List (List ByteArray)) → Int → Option (List (List ByteArray))) => zfj d1 (zcs from1 to1) its1 ([] : List (List ByteArray)) (-1)
) (fun (out4 : List (List ByteArray)) (stanza3 : Int) => j1 out4
)
) (fun (out1 : List (List ByteArray)) => some out1
)
theorem zdG {bp1 : Nat} {p1 : Gpoem_Poem} {p1_h0 p1_h1 : Hd} {from1 : Int} {to1 : Int} {r : (List (List ByteArray))} (h : zb9 p1 from1 to1 = some r) : FnR Tryd.prog 61 [zP bp1, zI from1, zI to1] [cells bp1 [.string p1.told_title, p1_h0.v, p1_h1.v, .string p1.source] 93, vec zam 36 6 p1_h0.v p1.told_lines, vec zav 34 2 p1_h1.v p1.told_stanzas] [] (fun v0 : Value => v0) (fun v0 => [zbx zae zag 48 1 v0 r]) := by
 unfold zb9 at h
 refine FnR.intro Tryd.func61 rfl Tryd.ntmps61 (by simp) ?_
 intro w0 K hrd
 refine zjL ?_
 show TC _ _ _ _ _ _ _ _ _ [zev ((([] : List Nat) : List Nat).map zeO)]
 obtain ⟨j1, hj1, h⟩ := zcp h
 refine zbm (β := (List (List ByteArray)) × Nat × Hd × (List Nat)) 3 rfl (fun b => j1 b.1 = some r) (fun b => zdA b.2.2.2) (fun b => [(7, zP b.2.1)]) (fun b => [cells b.2.1 [b.2.2.1.v] 54, zbx zae zag 48 1 b.2.2.1.v b.1, zev ((b.2.2.2 : List Nat).map zeO)]) (fun cut => ?_) ?_
 ·
  refine zas (zai ?_)
  refine zeE rfl dc rfl (fun b2 => ?_)
  refine zeE rfl dc rfl (fun b3 => ?_)
  show TO _ _ _ _ _ _ _ _ _ _ [zev ((([] : List Nat) : List Nat).map zeO), cells b2 [zI from1] 3, cells b3 [zI to1] 3]
  refine zak rfl dc rfl (zap (zaj (zas (zai ?_))))
  refine zbl zpt rfl dc (fun b4 => ?_)
  refine zap (zaj (zas (zai ?_)))
  refine zbl zqb rfl dc (fun b5 => ?_)
  show TO _ _ _ _ _ _ _ _ _ _ [zev ((([] : List Nat) : List Nat).map zeO), cells b2 [zI from1] 3, cells b3 [zI to1] 3, cells b4 [.slice none 0 0] 54, cells b5 [zI 0] 3]
  refine zbo (k := 4) (l' := [zI (-1)]) zjh rfl rfl rfl rfl rfl (fun _ _ => rfl) rfl ?_
  refine zap (zaj (cut (zas (zai (zah rfl dc rfl ?_)))))
  obtain ⟨r1, hq1, h⟩ := zbN h
  refine zdw (vs := [zP bp1]) hrd rfl dc rfl rfl rfl zo8 (zfH (bp1 := bp1) (p1 := p1) (p1_h0 := p1_h0) (p1_h1 := p1_h1) hq1) Splits.nil (.ro 0 rfl (.ro 1 rfl (.ro 2 rfl .nil))) ?_
  rintro b6
  show TO _ _ _ _ _ _ _ _ _ _ [zev ((([] : List Nat) : List Nat).map zeO), cells b2 [zI from1] 3, cells b3 [zI to1] 3, cells b4 [.slice none 0 0] 54, cells b5 [zI (-1)] 3, cells b6 [zP bp1] 23]
  refine zbw (L' := [zev ((([] : List Nat) : List Nat).map zeO), cells b2 [zI from1] 3, cells b3 [zI to1] 3, cells b4 [.slice none 0 0] 54, cells b5 [zI (-1)] 3, cells b6 [zP bp1] 23]) (zal [0, 1, 2, 3, 4, 5] kr rfl) (zap (zaj (za2 ?_)))
  obtain ⟨its1, hq2, h⟩ := zbN h
  refine zjM (enc := zae) (nest := zag) (e := 48) (size := 1) ?_
  show TC _ _ _ _ _ _ _ _ _ [zev ((([] : List Nat) : List Nat).map zeO), cells b2 [zI from1] 3, cells b3 [zI to1] 3, cells b4 [.slice none 0 0] 54, cells b5 [zI (-1)] 3, cells b6 [zP bp1] 23, zbx zae zag 48 1 (.slice none 0 0) ([] : List (List ByteArray))]
  obtain ⟨d1, hd1, h⟩ := zcp h
  refine zkw (α := Int × Gapi_Verse) (β := (List (List ByteArray)) × Int × Hd) (γ := Unit) (δ := Nat) (ps := [14, 15]) hrd Ro.nil rfl zo1 (ze4 hq2) (fun pre b => ∀ post, its1 = pre ++ post → zfj d1 (zcs from1 to1) post b.1 b.2.1 = some r) (fun pre b => [cells b2 [zI from1] 3, cells b3 [zI to1] 3, cells b4 [b.2.2.v] 54, zbx zae zag 48 1 b.2.2.v b.1, cells b5 [zI b.2.1] 3]) (fun c pre g => False) (fun c pre g => []) (fun pre x b j => [(4, zP b2), (5, zP b3), (6, .slice none 0 0), (7, zP b4), (8, zP b5), (13, .func (.func 52) #[] #[zP b6]), (9, zI x.1), (10, zP j)]) (fun pre x b j => [cells b2 [zI from1] 3, cells b3 [zI to1] 3, cells b4 [b.2.2.v] 54, zbx zae zag 48 1 b.2.2.v b.1, cells b5 [zI b.2.1] 3, cells j [.string x.2.Text, zI x.2.Indent, zI x.2.Stanza, zI x.2.In, zI x.2.Span_From, zI x.2.Span_To] 36]) (([] : List (List ByteArray)), (-1), Hd.nil) (fun post e => by rw [List.nil_append] at e; subst e; exact h) (zal [1, 2, 3, 6, 4] kr rfl) (.own (zal [5] (by kernel_rfl) rfl) (fun _ _ h => sepL.one1.1 h) (.ro 0 rfl (.ro 1 rfl (.ro 2 rfl .nil)))) (fun _ => rfl) dc ?_ ?_ ?_ ?_
  ·
   rintro lp rc pre x1 post ⟨out4, stanza3, hd4⟩ w1 K1 hxs1 hext hro hinv
   have hrd := hrd.ext hext
   refine zas (zai (zak rfl dc rfl (zap (zaj (zai ?_)))))
   refine zbl ziF rfl dc (fun b7 => ?_)
   refine zaZ (k := 5) (vs := [.string x1.2.Text, zI x1.2.Indent, zI x1.2.Stanza, zI x1.2.In, zI x1.2.Span_From, zI x1.2.Span_To]) (l' := [.string x1.2.Text, zI x1.2.Indent, zI x1.2.Stanza, zI x1.2.In, zI x1.2.Span_From, zI x1.2.Span_To]) zf3 rfl rfl rfl rfl rfl (show _ ≤ _ by simp) rfl rfl ?_
   show TO _ _ _ _ _ _ _ _ _ _ [cells b2 [zI from1] 3, cells b3 [zI to1] 3, cells b4 [hd4.v] 54, zbx zae zag 48 1 hd4.v out4, cells b5 [zI stanza3] 3, cells b7 [.string x1.2.Text, zI x1.2.Indent, zI x1.2.Stanza, zI x1.2.In, zI x1.2.Span_From, zI x1.2.Span_To] 36]
   refine zap ?_
   exact fun a w ha hw => ⟨b7, (zad rfl (zad rfl (zad rfl (zad rfl (zad rfl (zad rfl (zad rfl (zad rfl (zaH))))))))) _ _ _ ha, hw.weaken (zal [0, 1, 2, 3, 4, 5] kr rfl)⟩
  ·
   rintro lp rc pre x1 post1 ⟨out4, stanza3, hd4⟩ jb1 w1 K1 hxs1 hext hro hinv
   have hrd := hrd.ext hext
   have h := hinv (x1 :: post1) hxs1
   obtain ⟨ag1, hag1⟩ : ∃ ag, ag = zfj d1 (zcs from1 to1) post1 := ⟨_, rfl⟩
   have h : zcs from1 to1 x1 ag1 out4 stanza3 = some r := by rw [hag1]; exact h
   unfold zcs at h
   show TC _ _ _ _ _ _ _ _ [(4, zP b2), (5, zP b3), (6, .slice none 0 0), (7, zP b4), (8, zP b5), (13, .func (.func 52) #[] #[zP b6]), (9, zI x1.1), (10, zP jb1)] [cells b2 [zI from1] 3, cells b3 [zI to1] 3, cells b4 [hd4.v] 54, zbx zae zag 48 1 hd4.v out4, cells b5 [zI stanza3] 3, cells jb1 [.string x1.2.Text, zI x1.2.Indent, zI x1.2.Stanza, zI x1.2.In, zI x1.2.Span_From, zI x1.2.Span_To] 36]
   refine za2 (zas (zas (zai (zah rfl dc rfl (zaN (k := 0) zfb rfl dc rfl rfl rfl (zaz rfl dc rfl rfl zbF (zah rfl dc rfl ?_)))))))
   refine za6 (s := 19) rfl (fun hb1 => ?_) (fun hb1 => ?_)
   ·
    have h := za0 hb1 h
    refine zan rfl dc (zan rfl dc (zan rfl dc (zaB (b := true) rfl dc rfl rfl (zap (zaj (zbu rfl (zby (zaJ (zaV ?_)))))))))
    exact zhV (out4, stanza3, hd4) (fun post2 e2 => by have e9 := zgS hxs1 e2; subst e9; subst hag1; exact h) (zal [0, 1, 2, 3, 4] kr rfl)
   ·
    have h := za1 hb1 h
    refine zah rfl dc rfl (zaN (k := 1) zfb rfl dc rfl rfl rfl (zaz rfl dc rfl rfl zeC (zaB (b := false) rfl dc rfl rfl (zap (zaj ?_)))))
    refine zaM rfl (fun hb2 => ?_) (fun hb2 => ?_)
    ·
     have h := za0 hb2 h
     refine zby (zaJ (zaV ?_))
     exact zhV (out4, stanza3, hd4) (fun post2 e2 => by have e9 := zgS hxs1 e2; subst e9; subst hag1; exact h) (zal [0, 1, 2, 3, 4] kr rfl)
    ·
     have h := za1 hb2 h
     refine zaP (zaj ?_)
     obtain ⟨j2, hj2, h⟩ := zcp h
     refine zbm (β := (List (List ByteArray)) × Int × Hd) 0 rfl (fun b => j2 b.1 b.2.1 = some r) (fun b => []) (fun b => [(4, zP b2), (5, zP b3), (6, .slice none 0 0), (7, zP b4), (8, zP b5), (10, zP jb1), (13, .func (.func 52) #[] #[zP b6])]) (fun b => [cells b2 [zI from1] 3, cells b3 [zI to1] 3, cells b4 [b.2.2.v] 54, zbx zae zag 48 1 b.2.2.v b.1, cells b5 [zI b.2.1] 3, cells jb1 [.string x1.2.Text, zI x1.2.Indent, zI x1.2.Stanza, zI x1.2.In, zI x1.2.Span_From, zI x1.2.Span_To] 36]) (fun cut => ?_) ?_
     ·
      refine cut (zas (zai (zar zio rfl dc rfl (show _ = 2 from rfl) (zaN (k := 5) zfb rfl dc rfl rfl rfl (zaN (k := 4) zfb rfl dc rfl rfl rfl (zaz rfl dc rfl rfl zbE (zap (zaj ?_))))))))
      refine zaM rfl (fun hb3 => ?_) (fun hb3 => ?_)
      ·
       have h := za0 hb3 h
       refine zas (zai (zaN (k := 2) zc7 rfl dc rfl rfl rfl ?_))
       refine zbg (cs := [.slice none 0 0]) (te := 48) (ps := [(0, .const (.slice none 0 0))]) rfl dc rfl (fun _ => by kernel_rfl) (fun b8 => ?_)
       refine zkv (enc := zbT) (e := 9) (size := 1) ?_
       show TO _ _ _ _ _ _ _ _ _ _ [cells b2 [zI from1] 3, cells b3 [zI to1] 3, cells b4 [hd4.v] 54, zbx zae zag 48 1 hd4.v out4, cells b5 [zI stanza3] 3, cells jb1 [.string x1.2.Text, zI x1.2.Indent, zI x1.2.Stanza, zI x1.2.In, zI x1.2.Span_From, zI x1.2.Span_To] 36, cells b8 [.slice none 0 0] 48, vec zbT 9 1 (.slice none 0 0) ([] : List ByteArray)]
       refine zes (k := 3) rfl zhC (fun zs1 hz1 => ?_)
       show TO _ _ _ _ _ _ _ _ _ _ [cells b2 [zI from1] 3, cells b3 [zI to1] 3, cells b4 [hd4.v] 54, vec zae 48 1 hd4.v zs1, cells b5 [zI stanza3] 3, cells jb1 [.string x1.2.Text, zI x1.2.Indent, zI x1.2.Stanza, zI x1.2.In, zI x1.2.Span_From, zI x1.2.Span_To] 36, cells b8 [.slice none 0 0] 48, vec zbT 9 1 (.slice none 0 0) ([] : List ByteArray), own zag zs1]
       obtain ⟨hg1, h⟩ := zcb h
       refine zbr (k := 3) (k2 := 6) (ys := [(([] : List ByteArray), Hd.nil)]) Tryd.underlying54 zkS zaL zcI rfl dc rfl rfl rfl rfl rfl rfl (by rw [zm3 hz1]; exact hg1) (fun v1 => ?_)
       show TO _ _ _ _ _ _ _ _ _ _ [cells b2 [zI from1] 3, cells b3 [zI to1] 3, cells b4 [hd4.v] 54, vec zae 48 1 v1 (zs1 ++ [(([] : List ByteArray), Hd.nil)]), cells b5 [zI stanza3] 3, cells jb1 [.string x1.2.Text, zI x1.2.Indent, zI x1.2.Stanza, zI x1.2.In, zI x1.2.Span_From, zI x1.2.Span_To] 36, cells b8 [.slice none 0 0] 48, vec zbT 9 1 (.slice none 0 0) ([] : List ByteArray), own zag zs1]
       refine zb7 (k := 3) rfl (fun hd6 he1 => ?_)
       subst he1
       refine zei (k := 8) rfl (zal [7] kr rfl) rfl (zlc (nest := zag) (zs := zs1) (z := (([] : List ByteArray), Hd.nil))) ?_
       show TO _ _ _ _ _ _ _ _ _ _ [cells b2 [zI from1] 3, cells b3 [zI to1] 3, cells b4 [hd4.v] 54, vec zae 48 1 hd6.v (zs1 ++ [(([] : List ByteArray), Hd.nil)]), cells b5 [zI stanza3] 3, cells jb1 [.string x1.2.Text, zI x1.2.Indent, zI x1.2.Stanza, zI x1.2.In, zI x1.2.Span_From, zI x1.2.Span_To] 36, cells b8 [.slice none 0 0] 48, emp, own zag (zs1 ++ [(([] : List ByteArray), Hd.nil)])]
       refine zei (k := 3) rfl (zal [8] kr rfl) rfl (zit (enc := zae) (nest := zag) (zoA hz1)) ?_
       show TO _ _ _ _ _ _ _ _ _ _ [cells b2 [zI from1] 3, cells b3 [zI to1] 3, cells b4 [hd4.v] 54, zbx zae zag 48 1 hd6.v (out4 ++ [([] : List ByteArray)]), cells b5 [zI stanza3] 3, cells jb1 [.string x1.2.Text, zI x1.2.Indent, zI x1.2.Stanza, zI x1.2.In, zI x1.2.Span_From, zI x1.2.Span_To] 36, cells b8 [.slice none 0 0] 48, emp, emp]
       refine zbw (L' := [cells b2 [zI from1] 3, cells b3 [zI to1] 3, cells b4 [hd4.v] 54, zbx zae zag 48 1 hd6.v (out4 ++ [([] : List ByteArray)]), cells b5 [zI stanza3] 3, cells jb1 [.string x1.2.Text, zI x1.2.Indent, zI x1.2.Stanza, zI x1.2.In, zI x1.2.Span_From, zI x1.2.Span_To] 36, cells b8 [.slice none 0 0] 48]) (zal [0, 1, 2, 3, 4, 5, 6] kr rfl) ?_
       refine zbo (k := 2) (l' := [hd6.v]) zlx rfl rfl rfl rfl rfl (fun _ _ => rfl) rfl ?_
       show TO _ _ _ _ _ _ _ _ _ _ [cells b2 [zI from1] 3, cells b3 [zI to1] 3, cells b4 [hd6.v] 54, zbx zae zag 48 1 hd6.v (out4 ++ [([] : List ByteArray)]), cells b5 [zI stanza3] 3, cells jb1 [.string x1.2.Text, zI x1.2.Indent, zI x1.2.Stanza, zI x1.2.In, zI x1.2.Span_From, zI x1.2.Span_To] 36, cells b8 [.slice none 0 0] 48]
       refine zap (zaj (zai (zar zio rfl dc rfl (show _ = 2 from rfl) (zaN (k := 5) zfb rfl dc rfl rfl rfl ?_))))
       refine zbo (k := 4) (l' := [zI x1.2.Stanza]) zjh rfl rfl rfl rfl rfl (fun _ _ => rfl) rfl ?_
       refine zap ?_
       exact zaO (out4 ++ [([] : List ByteArray)], x1.2.Stanza, hd6) h rfl (zad rfl (zad rfl (zad rfl (zad rfl (zad rfl (zad rfl (zad rfl (zaH)))))))) (zal [0, 1, 2, 3, 4, 5] kr rfl)
      ·
       have h := za1 hb3 h
       refine zaP ?_
       exact zaO (out4, stanza3, hd4) h rfl (zad rfl (zad rfl (zad rfl (zad rfl (zad rfl (zad rfl (zad rfl (zaH)))))))) (zal [0, 1, 2, 3, 4, 5] kr rfl)
     ·
      rintro ⟨out5, stanza4, hd5⟩ h
      rw [hj2] at h
      show TC _ _ _ _ _ ([]) _ _ [(4, zP b2), (5, zP b3), (6, .slice none 0 0), (7, zP b4), (8, zP b5), (10, zP jb1), (13, .func (.func 52) #[] #[zP b6])] [cells b2 [zI from1] 3, cells b3 [zI to1] 3, cells b4 [hd5.v] 54, zbx zae zag 48 1 hd5.v out5, cells b5 [zI stanza4] 3, cells jb1 [.string x1.2.Text, zI x1.2.Indent, zI x1.2.Stanza, zI x1.2.In, zI x1.2.Span_From, zI x1.2.Span_To] 36]
      refine zas (zai (zaN (k := 2) zc7 rfl dc rfl rfl rfl (zi9 (k := 3) rfl dc rfl rfl Tryd.underlying54 ?_)))
      obtain ⟨hg2, h⟩ := zcb h
      refine zaz rfl dc rfl rfl (zec (r := (out5.length : Int) - 1) (IntWalk.i64_in _ hg2)) (zak rfl dc rfl (zap (zaj ?_)))
      refine zeN (k := 3) rfl zhC (fun zs2 hz2 => ?_)
      show TC _ _ _ _ _ _ _ _ _ [cells b2 [zI from1] 3, cells b3 [zI to1] 3, cells b4 [hd5.v] 54, vec zae 48 1 hd5.v zs2, cells b5 [zI stanza4] 3, cells jb1 [.string x1.2.Text, zI x1.2.Indent, zI x1.2.Stanza, zI x1.2.In, zI x1.2.Span_From, zI x1.2.Span_To] 36, own zag zs2]
      obtain ⟨x2, hq3, h⟩ := zbN h
      obtain ⟨eh1, eq1⟩ := zeb hz2 hq3
      obtain ⟨hg3, h⟩ := zcb h
      obtain ⟨hg4, h⟩ := zcb h
      obtain ⟨hg5, h⟩ := zcb h
      refine zeN (k := 6) rfl (znd (zcq eq1)) (fun _ _ => ?_)
      show TC _ _ _ _ _ _ _ _ _ [cells b2 [zI from1] 3, cells b3 [zI to1] 3, cells b4 [hd5.v] 54, vec zae 48 1 hd5.v zs2, cells b5 [zI stanza4] 3, cells jb1 [.string x1.2.Text, zI x1.2.Indent, zI x1.2.Stanza, zI x1.2.In, zI x1.2.Span_From, zI x1.2.Span_To] 36, own zag (zs2.eraseIdx (((out5.length : Int) - 1 : Int).toNat)), vec zbT 9 1 eh1.v x2]
      refine zha 1 ?_
      show TC _ _ _ _ _ _ _ _ _ [cells b2 [zI from1] 3, cells b3 [zI to1] 3, cells b4 [hd5.v] 54, vec zae 48 1 hd5.v zs2, cells b5 [zI stanza4] 3, cells jb1 [.string x1.2.Text, zI x1.2.Indent, zI x1.2.Stanza, zI x1.2.In, zI x1.2.Span_From, zI x1.2.Span_To] 36, own zag (zs2.eraseIdx (((out5.length : Int) - 1 : Int).toNat)), vec zbT 9 1 eh1.v x2, emp]
      refine let vals1 : (Nat × Hd) → List (Nat × Nat × Value) := fun b => [(0, 36, hd5.v), (1, 37, zI ((out5.length : Int) - 1)), (2, 38, hd5.v), (3, 39, zI ((out5.length : Int) - 1)), (4, 40, .pointer (some ⟨zff hd5.v, ((out5.length : Int) - 1 : Int).toNat * 1, none⟩)), (5, 41, eh1.v), (6, 42, .pointer (some ⟨jb1, 1, none⟩)), (7, 43, zI x1.2.Indent), (8, 44, .string (zcF x1.2.Indent)), (9, 45, zP jb1), (10, 46, .string x1.2.Text), (11, 47, .string ((zcF x1.2.Indent) ++ x1.2.Text)), (12, 48, .slice (some ⟨b.1, 0, none⟩) 1 1), (13, 49, b.2.v)]; let LL1 : (Nat → Prop) → (Nat × Hd) → List Asn := fun D b => [cells b2 [zI from1] 3, cells b3 [zI to1] 3, cells b4 [hd5.v] 54, vec zae 48 1 hd5.v zs2, cells b5 [zI stanza4] 3, cells jb1 [.string x1.2.Text, zI x1.2.Indent, zI x1.2.Stanza, zI x1.2.In, zI x1.2.Span_From, zI x1.2.Span_To] 36, own zag (zs2.eraseIdx (((out5.length : Int) - 1 : Int).toNat)), eD D (vec zbT 9 1 eh1.v x2) [(13, vec zbT 9 1 b.2.v (x2 ++ [(zcF x1.2.Indent) ++ x1.2.Text]))], eD D emp [(12, cells b.1 [.string ((zcF x1.2.Indent) ++ x1.2.Text)] 9)]]; ?_
      refine zfa (β := Nat × Hd) 14 ((0 : Nat), Hd.nil) vals1 LL1 mixed kr kr dc (fun _ => rfl) (zaa rfl (zaa rfl (zaa rfl (zaa rfl (zaa rfl (zaa rfl (zaa rfl (zaa zdi (zaa zdi rfl))))))))) (zaC ?_ (zaC ?_ (zaC ?_ (zaC ?_ (zaC ?_ (zaC ?_ (zaC ?_ (zaC ?_ (zaC ?_ (zaC ?_ (zaC ?_ (zaC ?_ (zaC ?_ (zaC ?_ DrawG.nil)))))))))))))) ?_
      ·
       intro D b hn hd hcl
       obtain ⟨b9, hd7⟩ := b
       refine zaQ rfl (zaN (k := 2) zc7 rfl dc (zaE (by rfl) rfl) rfl rfl ?_)
       exact zaR (b9, hd7) 0 (by rfl) (by rfl) rfl (congrArg (dl D) rfl) (zaa rfl (zaa rfl (zaa rfl (zaa rfl (zaa rfl (zaa rfl (zaa rfl (zaa ((zax (by rfl)).trans rfl) (zaa ((zax (by rfl)).trans rfl) rfl)))))))))
      ·
       intro D b hn hd hcl
       obtain ⟨b9, hd7⟩ := b
       refine zaQ rfl (zah rfl dc (zaE (by rfl) rfl) ?_)
       exact zaR (b9, hd7) 1 (by rfl) (by rfl) rfl (congrArg (dl D) rfl) (zaa rfl (zaa rfl (zaa rfl (zaa rfl (zaa rfl (zaa rfl (zaa rfl (zaa ((zax (by rfl)).trans rfl) (zaa ((zax (by rfl)).trans rfl) rfl)))))))))
      ·
       intro D b hn hd hcl
       obtain ⟨b9, hd7⟩ := b
       refine zaQ (zaa rfl (zaa rfl (zaa rfl (zaa rfl (zaa rfl (zaa rfl (zaa rfl (zaa (zaq (fun hD => hn (hcl 4 _ rfl (hcl 5 _ rfl (hcl 13 _ rfl hD 5 dc) 4 dc) 2 dc)) zaw) rfl)))))))) ?_
       refine zaN (k := 2) zc7 rfl dc (zaE (by rfl) rfl) rfl rfl ?_
       exact zaR (b9, hd7) 2 (by rfl) (by rfl) rfl (congrArg (dl D) rfl) (zaa rfl (zaa rfl (zaa rfl (zaa rfl (zaa rfl (zaa rfl (zaa rfl (zaa ((zax (by rfl)).trans (zaq (fun hD => hn (hcl 4 _ rfl (hcl 5 _ rfl (hcl 13 _ rfl hD 5 dc) 4 dc) 2 dc)) zaw)) (zaa ((zax (by rfl)).trans rfl) rfl)))))))))
      ·
       intro D b hn hd hcl
       obtain ⟨b9, hd7⟩ := b
       refine zaQ (zaa rfl (zaa rfl (zaa rfl (zaa rfl (zaa rfl (zaa rfl (zaa rfl (zaa (zaq (fun hD => hn (hcl 4 _ rfl (hcl 5 _ rfl (hcl 13 _ rfl hD 5 dc) 4 dc) 3 dc)) zaw) rfl)))))))) ?_
       refine zah rfl dc (zaE (by rfl) rfl) ?_
       exact zaR (b9, hd7) 3 (by rfl) (by rfl) rfl (congrArg (dl D) rfl) (zaa rfl (zaa rfl (zaa rfl (zaa rfl (zaa rfl (zaa rfl (zaa rfl (zaa ((zax (by rfl)).trans (zaq (fun hD => hn (hcl 4 _ rfl (hcl 5 _ rfl (hcl 13 _ rfl hD 5 dc) 4 dc) 3 dc)) zaw)) (zaa ((zax (by rfl)).trans rfl) rfl)))))))))
      ·
       intro D b hn hd hcl
       obtain ⟨b9, hd7⟩ := b
       refine zaQ (zaa rfl (zaa rfl (zaa rfl (zaa rfl (zaa rfl (zaa rfl (zaa rfl (zaa (zaq (fun hD => hn (hcl 5 _ rfl (hcl 13 _ rfl hD 5 dc) 4 dc)) zaw) rfl)))))))) ?_
       refine zce (k := 3) eq1 Tryd.underlying54 zet rfl dc (zab (m := 2) rfl rfl (hd 2 dc)) (zab (m := 3) rfl rfl (hd 3 dc)) rfl rfl ?_
       exact zaR (b9, hd7) 4 (by rfl) (by rfl) rfl (congrArg (dl D) rfl) (zaa rfl (zaa rfl (zaa rfl (zaa rfl (zaa rfl (zaa rfl (zaa rfl (zaa ((zax (by rfl)).trans (zaq (fun hD => hn (hcl 5 _ rfl (hcl 13 _ rfl hD 5 dc) 4 dc)) zaw)) (zaa ((zax (by rfl)).trans rfl) rfl)))))))))
      ·
       intro D b hn hd hcl
       obtain ⟨b9, hd7⟩ := b
       refine zaQ (zaa rfl (zaa rfl (zaa rfl (zaa rfl (zaa rfl (zaa rfl (zaa rfl (zaa (zaq (fun hD => hn (hcl 13 _ rfl hD 5 dc)) zaw) rfl)))))))) ?_
       refine zd2 (i := ((out5.length : Int) - 1 : Int).toNat) (j := 0) (k := 3) (q := (x2, eh1)) zeR zaL rfl dc (zab (m := 4) rfl rfl (hd 4 dc)) rfl (zcq eq1) rfl dc rfl ?_
       exact zaR (b9, hd7) 5 (by rfl) (by rfl) rfl (congrArg (dl D) rfl) (zaa rfl (zaa rfl (zaa rfl (zaa rfl (zaa rfl (zaa rfl (zaa rfl (zaa ((zax (by rfl)).trans (zaq (fun hD => hn (hcl 13 _ rfl hD 5 dc)) zaw)) (zaa ((zax (by rfl)).trans rfl) rfl)))))))))
      ·
       intro D b hn hd hcl
       obtain ⟨b9, hd7⟩ := b
       refine zaQ (zaa rfl (zaa rfl (zaa rfl (zaa rfl (zaa rfl (zaa rfl (zaa rfl (zaa (zaq (fun hD => hn (hcl 7 _ rfl (hcl 8 _ rfl (hcl 13 _ rfl hD 8 dc) 7 dc) 6 dc)) zaw) (zaa (zaq (fun hD => hn (hcl 7 _ rfl (hcl 8 _ rfl (hcl 11 _ rfl (hcl 12 _ rfl hD 11 dc) 8 dc) 7 dc) 6 dc)) zaw) rfl))))))))) ?_
       refine zar zkO rfl dc (zaE (by rfl) rfl) (show _ = 1 from rfl) ?_
       exact zaR (b9, hd7) 6 (by rfl) (by rfl) rfl (congrArg (dl D) rfl) (zaa rfl (zaa rfl (zaa rfl (zaa rfl (zaa rfl (zaa rfl (zaa rfl (zaa ((zax (by rfl)).trans (zaq (fun hD => hn (hcl 7 _ rfl (hcl 8 _ rfl (hcl 13 _ rfl hD 8 dc) 7 dc) 6 dc)) zaw)) (zaa ((zax (by rfl)).trans (zaq (fun hD => hn (hcl 7 _ rfl (hcl 8 _ rfl (hcl 11 _ rfl (hcl 12 _ rfl hD 11 dc) 8 dc) 7 dc) 6 dc)) zaw)) rfl)))))))))
      ·
       intro D b hn hd hcl
       obtain ⟨b9, hd7⟩ := b
       refine zaQ (zaa rfl (zaa rfl (zaa rfl (zaa rfl (zaa rfl (zaa rfl (zaa rfl (zaa (zaq (fun hD => hn (hcl 8 _ rfl (hcl 13 _ rfl hD 8 dc) 7 dc)) zaw) (zaa (zaq (fun hD => hn (hcl 8 _ rfl (hcl 11 _ rfl (hcl 12 _ rfl hD 11 dc) 8 dc) 7 dc)) zaw) rfl))))))))) ?_
       refine zaN (k := 5) zfb rfl dc (zab (m := 6) rfl rfl (hd 6 dc)) rfl rfl ?_
       exact zaR (b9, hd7) 7 (by rfl) (by rfl) rfl (congrArg (dl D) rfl) (zaa rfl (zaa rfl (zaa rfl (zaa rfl (zaa rfl (zaa rfl (zaa rfl (zaa ((zax (by rfl)).trans (zaq (fun hD => hn (hcl 8 _ rfl (hcl 13 _ rfl hD 8 dc) 7 dc)) zaw)) (zaa ((zax (by rfl)).trans (zaq (fun hD => hn (hcl 8 _ rfl (hcl 11 _ rfl (hcl 12 _ rfl hD 11 dc) 8 dc) 7 dc)) zaw)) rfl)))))))))
      ·
       intro D b hn hd hcl
       obtain ⟨b9, hd7⟩ := b
       refine zaQ (zaa rfl (zaa rfl (zaa rfl (zaa rfl (zaa rfl (zaa rfl (zaa rfl (zaa (zaq (fun hD => hn (hcl 13 _ rfl hD 8 dc)) zaw) (zaa (zaq (fun hD => hn (hcl 11 _ rfl (hcl 12 _ rfl hD 11 dc) 8 dc)) zaw) rfl))))))))) ?_
       refine zbH (v := .string (zcF x1.2.Indent)) (vs := [.string (⟨#[32]⟩ : ByteArray), zI x1.2.Indent]) rfl dc rfl (evL.cons rfl (evL.cons (zab (m := 7) rfl rfl (hd 7 dc)) evL.nil)) rfl zpZ (zm7 x1.2.Indent hg3) ?_
       exact zaR (b9, hd7) 8 (by rfl) (by rfl) rfl (congrArg (dl D) rfl) (zaa rfl (zaa rfl (zaa rfl (zaa rfl (zaa rfl (zaa rfl (zaa rfl (zaa ((zax (by rfl)).trans (zaq (fun hD => hn (hcl 13 _ rfl hD 8 dc)) zaw)) (zaa ((zax (by rfl)).trans (zaq (fun hD => hn (hcl 11 _ rfl (hcl 12 _ rfl hD 11 dc) 8 dc)) zaw)) rfl)))))))))
      ·
       intro D b hn hd hcl
       obtain ⟨b9, hd7⟩ := b
       refine zaQ (zaa rfl (zaa rfl (zaa rfl (zaa rfl (zaa rfl (zaa rfl (zaa rfl (zaa (zaq (fun hD => hn (hcl 10 _ rfl (hcl 11 _ rfl (hcl 12 _ rfl (hcl 13 _ rfl hD 12 dc) 11 dc) 10 dc) 9 dc)) zaw) (zaa (zaq (fun hD => hn (hcl 10 _ rfl (hcl 11 _ rfl (hcl 12 _ rfl hD 11 dc) 10 dc) 9 dc)) zaw) rfl))))))))) ?_
       refine zar zkP rfl dc (zaE (by rfl) rfl) (show _ = 0 from rfl) ?_
       exact zaR (b9, hd7) 9 (by rfl) (by rfl) rfl (congrArg (dl D) rfl) (zaa rfl (zaa rfl (zaa rfl (zaa rfl (zaa rfl (zaa rfl (zaa rfl (zaa ((zax (by rfl)).trans (zaq (fun hD => hn (hcl 10 _ rfl (hcl 11 _ rfl (hcl 12 _ rfl (hcl 13 _ rfl hD 12 dc) 11 dc) 10 dc) 9 dc)) zaw)) (zaa ((zax (by rfl)).trans (zaq (fun hD => hn (hcl 10 _ rfl (hcl 11 _ rfl (hcl 12 _ rfl hD 11 dc) 10 dc) 9 dc)) zaw)) rfl)))))))))
      ·
       intro D b hn hd hcl
       obtain ⟨b9, hd7⟩ := b
       refine zaQ (zaa rfl (zaa rfl (zaa rfl (zaa rfl (zaa rfl (zaa rfl (zaa rfl (zaa (zaq (fun hD => hn (hcl 11 _ rfl (hcl 12 _ rfl (hcl 13 _ rfl hD 12 dc) 11 dc) 10 dc)) zaw) (zaa (zaq (fun hD => hn (hcl 11 _ rfl (hcl 12 _ rfl hD 11 dc) 10 dc)) zaw) rfl))))))))) ?_
       refine zaN (k := 5) zgm rfl dc (zab (m := 9) rfl rfl (hd 9 dc)) rfl rfl ?_
       exact zaR (b9, hd7) 10 (by rfl) (by rfl) rfl (congrArg (dl D) rfl) (zaa rfl (zaa rfl (zaa rfl (zaa rfl (zaa rfl (zaa rfl (zaa rfl (zaa ((zax (by rfl)).trans (zaq (fun hD => hn (hcl 11 _ rfl (hcl 12 _ rfl (hcl 13 _ rfl hD 12 dc) 11 dc) 10 dc)) zaw)) (zaa ((zax (by rfl)).trans (zaq (fun hD => hn (hcl 11 _ rfl (hcl 12 _ rfl hD 11 dc) 10 dc)) zaw)) rfl)))))))))
      ·
       intro D b hn hd hcl
       obtain ⟨b9, hd7⟩ := b
       refine zaQ (zaa rfl (zaa rfl (zaa rfl (zaa rfl (zaa rfl (zaa rfl (zaa rfl (zaa (zaq (fun hD => hn (hcl 12 _ rfl (hcl 13 _ rfl hD 12 dc) 11 dc)) zaw) (zaa (zaq (fun hD => hn (hcl 12 _ rfl hD 11 dc)) zaw) rfl))))))))) ?_
       refine zaz rfl dc (zab (m := 8) rfl rfl (hd 8 dc)) (zab (m := 10) rfl rfl (hd 10 dc)) (zeh hg4) ?_
       exact zaR (b9, hd7) 11 (by rfl) (by rfl) rfl (congrArg (dl D) rfl) (zaa rfl (zaa rfl (zaa rfl (zaa rfl (zaa rfl (zaa rfl (zaa rfl (zaa ((zax (by rfl)).trans (zaq (fun hD => hn (hcl 12 _ rfl (hcl 13 _ rfl hD 12 dc) 11 dc)) zaw)) (zaa ((zax (by rfl)).trans (zaq (fun hD => hn (hcl 12 _ rfl hD 11 dc)) zaw)) rfl)))))))))
      ·
       intro D b hn hd hcl
       obtain ⟨_, hd7⟩ := b
       refine zaQ (zaa rfl (zaa rfl (zaa rfl (zaa rfl (zaa rfl (zaa rfl (zaa rfl (zaa (zaq (fun hD => hn (hcl 13 _ rfl hD 12 dc)) zaw) (zaa (zaq hn zaw) rfl))))))))) ?_
       refine zbg (cs := [.string ((zcF x1.2.Indent) ++ x1.2.Text)]) (te := 9) (ps := [(0, .tmp 47)]) rfl dc (evP.cons (zab (m := 11) rfl rfl (hd 11 dc)) evP.nil) (fun _ => by kernel_rfl) (fun b9 => ?_)
       refine zd5 8 rfl rfl ?_
       show TO _ _ _ _ _ _ _ _ _ _ [cells b2 [zI from1] 3, cells b3 [zI to1] 3, cells b4 [hd5.v] 54, vec zae 48 1 hd5.v zs2, cells b5 [zI stanza4] 3, cells jb1 [.string x1.2.Text, zI x1.2.Indent, zI x1.2.Stanza, zI x1.2.In, zI x1.2.Span_From, zI x1.2.Span_To] 36, own zag (zs2.eraseIdx (((out5.length : Int) - 1 : Int).toNat)), vec zbT 9 1 eh1.v x2, cells b9 [.string ((zcF x1.2.Indent) ++ x1.2.Text)] 9]
       exact zaR (b9, hd7) 12 (by rfl) (by rfl) rfl (zao (fun _ => rfl) (zao (fun _ => rfl) (zao (fun _ => rfl) (zao (fun _ => rfl) (zao (fun _ => rfl) (zao (fun _ => rfl) (zao (fun _ => rfl) (zao (fun _ => rfl) (zao (fun _ => rfl) (zao (fun _ => rfl) (zao (fun _ => rfl) (zao (fun _ => rfl) (zao (fun hD => absurd hD hn) (zao (fun _ => rfl) rfl)))))))))))))) (zaa rfl (zaa rfl (zaa rfl (zaa rfl (zaa rfl (zaa rfl (zaa rfl (zaa ((zax (by rfl)).trans (zaq (fun hD => hn (hcl 13 _ rfl hD 12 dc)) zaw)) (zaa (zbb (Or.inr rfl) rfl) rfl)))))))))
      ·
       intro D b hn hd hcl
       obtain ⟨b9, _⟩ := b
       refine zaQ (zaa rfl (zaa rfl (zaa rfl (zaa rfl (zaa rfl (zaa rfl (zaa rfl (zaa (zaq hn zaw) (zaa (zbb (hd 12 dc) rfl) rfl))))))))) ?_
       refine zbr (k := 7) (k2 := 8) (ys := [(zcF x1.2.Indent) ++ x1.2.Text]) Tryd.underlying48 zpl zgp zhQ rfl dc (zab (m := 5) rfl rfl (hd 5 dc)) (zab (m := 12) rfl rfl (hd 12 dc)) rfl rfl rfl rfl hg5 (fun v2 => ?_)
       refine zb7 (k := 7) rfl (fun hd7 he2 => ?_)
       subst he2
       exact zaR (b9, hd7) 13 (by rfl) (by rfl) rfl (zao (fun _ => rfl) (zao (fun _ => rfl) (zao (fun _ => rfl) (zao (fun _ => rfl) (zao (fun _ => rfl) (zao (fun _ => rfl) (zao (fun _ => rfl) (zao (fun _ => rfl) (zao (fun _ => rfl) (zao (fun _ => rfl) (zao (fun _ => rfl) (zao (fun _ => rfl) (zao (fun _ => rfl) (zao (fun hD => absurd hD hn) rfl)))))))))))))) (zaa rfl (zaa rfl (zaa rfl (zaa rfl (zaa rfl (zaa rfl (zaa rfl (zaa (zbb (Or.inr rfl) rfl) (zaa ((zax (by rfl)).trans (zbb (hd 12 dc) rfl)) rfl)))))))))
      intro D b hall
      obtain ⟨b9, hd7⟩ := b
      refine zaQ (zaa rfl (zaa rfl (zaa rfl (zaa rfl (zaa rfl (zaa rfl (zaa rfl (zaa (zbb (hall 13 dc) rfl) (zaa (zbb (hall 12 dc) rfl) rfl))))))))) (zce (k := 3) eq1 Tryd.underlying54 zet rfl dc rfl rfl rfl rfl ?_)
      refine zfW (i := ((out5.length : Int) - 1 : Int).toNat) (j := 0) (k := 3) (q := (x2, eh1)) (q' := (x2 ++ [(zcF x1.2.Indent) ++ x1.2.Text], hd7)) zet zaL rfl rfl rfl rfl (zcq eq1) rfl dc rfl (fun _ _ => rfl) ?_
      show TO _ _ _ _ _ _ _ _ _ _ [cells b2 [zI from1] 3, cells b3 [zI to1] 3, cells b4 [hd5.v] 54, vec zae 48 1 hd5.v (zs2.set (((out5.length : Int) - 1 : Int).toNat) (x2 ++ [(zcF x1.2.Indent) ++ x1.2.Text], hd7)), cells b5 [zI stanza4] 3, cells jb1 [.string x1.2.Text, zI x1.2.Indent, zI x1.2.Stanza, zI x1.2.In, zI x1.2.Span_From, zI x1.2.Span_To] 36, own zag (zs2.eraseIdx (((out5.length : Int) - 1 : Int).toNat)), vec zbT 9 1 hd7.v (x2 ++ [(zcF x1.2.Indent) ++ x1.2.Text]), cells b9 [.string ((zcF x1.2.Indent) ++ x1.2.Text)] 9]
      refine zei (k := 6) rfl (zal [7] kr rfl) rfl (znc (nest := zag) (zs := zs2) (z := (x2 ++ [(zcF x1.2.Indent) ++ x1.2.Text], hd7)) (zkB (zcq eq1)) zh2) ?_
      show TO _ _ _ _ _ _ _ _ _ _ [cells b2 [zI from1] 3, cells b3 [zI to1] 3, cells b4 [hd5.v] 54, vec zae 48 1 hd5.v (zs2.set (((out5.length : Int) - 1 : Int).toNat) (x2 ++ [(zcF x1.2.Indent) ++ x1.2.Text], hd7)), cells b5 [zI stanza4] 3, cells jb1 [.string x1.2.Text, zI x1.2.Indent, zI x1.2.Stanza, zI x1.2.In, zI x1.2.Span_From, zI x1.2.Span_To] 36, own zag (zs2.set (((out5.length : Int) - 1 : Int).toNat) (x2 ++ [(zcF x1.2.Indent) ++ x1.2.Text], hd7)), emp, cells b9 [.string ((zcF x1.2.Indent) ++ x1.2.Text)] 9]
      refine zap (zaA (zlp (k := 3) rfl (zal [6] kr rfl) rfl (zit (enc := zae) (nest := zag) (zps hz2)) ?_))
      show TX _ _ _ _ _ _ _ [cells b2 [zI from1] 3, cells b3 [zI to1] 3, cells b4 [hd5.v] 54, zbx zae zag 48 1 hd5.v (out5.set ((out5.length : Int) - 1 : Int).toNat (x2 ++ [(zcF x1.2.Indent) ++ x1.2.Text])), cells b5 [zI stanza4] 3, cells jb1 [.string x1.2.Text, zI x1.2.Indent, zI x1.2.Stanza, zI x1.2.In, zI x1.2.Span_From, zI x1.2.Span_To] 36, emp, emp, cells b9 [.string ((zcF x1.2.Indent) ++ x1.2.Text)] 9]
      exact zhV (out5.set ((out5.length : Int) - 1 : Int).toNat (x2 ++ [(zcF x1.2.Indent) ++ x1.2.Text]), stanza4, hd5) (fun post2 e2 => by have e9 := zgS hxs1 e2; subst e9; subst hag1; exact h) (zal [0, 1, 2, 3, 4] kr rfl)
  ·
   rintro dm1 ⟨out4, stanza3, hd4⟩ hinv
   have h : d1 out4 stanza3 = some r := hinv [] (List.append_nil _).symm
   rw [hd1] at h
   show TX _ _ _ _ _ _ _ [zev ((([] : List Nat) : List Nat).map zeO), emp, emp, emp, emp, cells b6 [zP bp1] 23, emp, cells b2 [zI from1] 3, cells b3 [zI to1] 3, cells b4 [hd4.v] 54, zbx zae zag 48 1 hd4.v out4, cells b5 [zI stanza3] 3, zeO dm1]
   refine zix (k := 12) (j := 0) rfl rfl dc ?_
   show TX _ _ _ _ _ _ _ [zev ((dm1 :: ([] : List Nat) : List Nat).map zeO), emp, emp, emp, emp, cells b6 [zP bp1] 23, emp, cells b2 [zI from1] 3, cells b3 [zI to1] 3, cells b4 [hd4.v] 54, zbx zae zag 48 1 hd4.v out4, cells b5 [zI stanza3] 3, emp]
   refine zaA ?_
   exact zaO (out4, b4, hd4, dm1 :: ([] : List Nat)) h rfl (zad rfl (zaH)) (zal [9, 10, 0] kr rfl)
  ·
   rintro dm1 c pre x1 post g hxs hX
   exact (show False from hX).elim
 ·
  rintro ⟨out1, b1, hd1, ds1⟩ h
  rw [hj1] at h
  show TC _ _ _ _ _ (zdA ds1) _ _ [(7, zP b1)] [cells b1 [hd1.v] 54, zbx zae zag 48 1 hd1.v out1, zev ((ds1 : List Nat).map zeO)]
  refine zas (zai (zaN (k := 0) zc7 rfl dc rfl rfl rfl (zak rfl dc rfl (zap (zaj (zaX ?_))))))
  cases h
  exact zep (rs := [.tmp 6]) ds1 hd1.v (.inl rfl) (zb8 (k := 2) rfl) Tryd.results61 (.cons (.tmp rfl) .nil) rfl (zal [1] kr rfl)
def zdP (stanzas1 : List (List ByteArray)) (j1 : Int → Option ((Option Gpoem_Poem) × Int)) (ag1 : Int → Int → Option ((Option Gpoem_Poem) × Int)) (n4 : Int) (x3 : Int) : Option ((Option Gpoem_Poem) × Int) := zaU (decide ((x3 : Int) < (stanzas1.length : Int))) ( zaG (zdh stanzas1 x3) fun (x4 : List ByteArray) => grd (I64 (n4 + (x4.length : Int))) <| grd (I64 (x3 + 1)) <| ag1 (n4 + (x4.length : Int)) (x3 + 1)
) ( j1 n4
)
def zcx (title1 : ByteArray) (stanzas1 : List (List ByteArray)) : Option ((Option Gpoem_Poem) × Int) := zbO (fun (j1 : Int → Option ((Option Gpoem_Poem) × Int)) => za8 (fun _ _ => none) (zdP stanzas1 j1) zb0 0 0
) (fun (n1 : Int) => zaG (zc1 title1 stanzas1) fun (r1 : ByteArray) => zaU (decide ((512 : Int) < n1)) ( some (none, 3)
) ( zaU (decide ((65536 : Int) < (r1.size : Int))) ( some (none, 3)
) ( zaG (zcU r1) fun (r2 : ((Option Gpoem_Poem) × Gapi_Spot)) => some (r2.1, 0)
)
)
)
theorem zge {title1 : ByteArray} {vvstanzas1 : Value} {vstanzas1 : Hd} {Zstanzas1 : List ((List ByteArray) × Hd)} {kstanzas1 : Nat} {zstanzas1 : List ((List ByteArray) × Hd)} {stanzas1 : List (List ByteArray)} (hwstanzas1 : Vw vvstanzas1 Zstanzas1 1 kstanzas1 vstanzas1.v zstanzas1) (hzstanzas1 : zstanzas1.map Prod.fst = stanzas1) {r : ((Option Gpoem_Poem) × Int)} (h : zcx title1 stanzas1 = some r) : FnR Tryd.prog 62 [.string title1, vstanzas1.v] [zbk zae 1 vvstanzas1 kstanzas1 Zstanzas1, zbM zaD Zstanzas1] [] (fun v0 : Value => .tuple #[v0, zI r.2]) (fun v0 => [zco zau zat 93 v0 r.1]) := by
 unfold zcx at h
 refine FnR.intro Tryd.func62 rfl Tryd.ntmps62 (by simp) ?_
 intro w0 K hrd
 obtain ⟨j1, hj1, h⟩ := zcp h
 refine zbm (β := Int) 2 rfl (fun b => j1 b = some r) (fun b => []) (fun b => [(0, .string title1), (1, vstanzas1.v), (6, zI b)]) (fun b => []) (fun cut => ?_) ?_
 ·
  refine zas (zai (zak rfl dc rfl (zak rfl dc rfl (zap (zaj (zas (zai (zak rfl dc rfl (zap (zaj (cut (zas (zai ?_)))))))))))))
  refine zah rfl dc rfl (zcS hzstanzas1 hwstanzas1 rfl dc rfl Tryd.underlying54 (zah rfl dc rfl (zap (zaj (za2 ?_)))))
  refine zbJ (β := Nat × Int × Int) (fun b => za8 (fun _ _ => none) (zdP stanzas1 j1) b.1 b.2.1 b.2.2 = some r) (fun b => []) (fun b => [(0, .string title1), (1, vstanzas1.v), (6, zI b.2.1), (12, vstanzas1.v), (13, zI (stanzas1.length : Int)), (14, zI b.2.2)]) (fun b => []) (fun b => b.1) (zb0, 0, 0) h rfl (zad rfl (zad rfl (zad rfl (zad rfl (zad rfl (zad rfl (zaH))))))) Splits.nil ?_
  rintro ⟨n5, n4, x3⟩ h
  cases n5 with
  | zero => exact zdV h
  | succ n5 =>
   obtain ⟨ag1, hag1⟩ : ∃ ag, ag = za8 (fun _ _ => none) (zdP stanzas1 j1) n5 := ⟨_, rfl⟩
   have h : zdP stanzas1 j1 ag1 n4 x3 = some r := by rw [hag1]; exact h
   unfold zdP at h
   show TC _ _ _ _ _ ([]) _ _ [(0, .string title1), (1, vstanzas1.v), (6, zI n4), (12, vstanzas1.v), (13, zI (stanzas1.length : Int)), (14, zI x3)] []
   refine zas (zai (zaz rfl dc rfl rfl zbF (zap (zaj (zas ?_)))))
   refine zaM rfl (fun hb1 => ?_) (fun hb1 => ?_)
   ·
    have h := za0 hb1 h
    refine zaP (zaj (zas (za2 (zas (zai ?_)))))
    obtain ⟨x4, hq1, h⟩ := zbN h
    obtain ⟨eh1, eq1⟩ := zeb hzstanzas1 hq1
    have hrd : Rd _ _ [zbk zae 1 vvstanzas1 kstanzas1 Zstanzas1, zbM zaD Zstanzas1, zej zbT 1 eh1 x4] := hrd.openEl (i := 1) (z := (x4, eh1)) rfl (Vw.get hwstanzas1 eq1)
    obtain ⟨vv1, k1, L1, hV1, hrd⟩ := hrd.openSl (i := 2) rfl
    replace hrd : Rd _ _ [zbk zae 1 vvstanzas1 kstanzas1 Zstanzas1, zbM zaD Zstanzas1, zej zbT 1 eh1 x4, zbk zbT 1 vv1 k1 L1] := hrd
    refine zbd hwstanzas1 eq1 Tryd.underlying54 zet rfl dc rfl rfl rfl (zbi (n := kstanzas1 + (x3 : Int).toNat) (j := 0) (i := 0) (q := (x4, eh1)) hrd rfl (by omega) zeR rfl dc rfl (Vw.get hwstanzas1 eq1) rfl rfl (zak rfl dc rfl (zap (zaj (zai (zah rfl dc rfl (zah rfl dc rfl (zbG hV1 rfl dc rfl Tryd.underlying48 ?_))))))))
    obtain ⟨hg1, h⟩ := zcb h
    refine zaz rfl dc rfl rfl (zbh (r := n4 + (x4.length : Int)) (IntWalk.i64_in _ hg1)) (zak rfl dc rfl (zap (zaA (zaj (zai ?_)))))
    obtain ⟨hg2, h⟩ := zcb h
    refine zaz rfl dc rfl rfl (zbh (r := x3 + 1) (IntWalk.i64_in _ hg2)) (zah rfl dc rfl (zap ?_))
    subst hag1
    exact zbj (n5, n4 + (x4.length : Int), x3 + 1) h (Nat.lt_succ_self _) rfl (zad rfl (zad rfl (zad rfl (zad rfl (zad rfl (zad rfl (zaH))))))) Splits.nil
   ·
    have h := za1 hb1 h
    refine zby (zaJ (zaJ (zaV ?_)))
    exact zaO n4 h rfl (zad rfl (zad rfl (zad rfl (zaH)))) Splits.nil
 ·
  rintro n1 h
  rw [hj1] at h
  show TC _ _ _ _ _ ([]) _ _ [(0, .string title1), (1, vstanzas1.v), (6, zI n1)] []
  refine zas (zai (zah rfl dc rfl (zah rfl dc rfl ?_)))
  obtain ⟨r1, hq2, h⟩ := zbN h
  refine za4 (v := .string r1) (vs := [.string title1, vstanzas1.v]) hrd rfl dc rfl rfl rfl zoZ (zgd (vstanzas1 := vstanzas1) hwstanzas1 hzstanzas1 hq2) (.ro 0 rfl (.ro 1 rfl .nil)) (zak rfl dc rfl (zap (zaj (zas (zas (zai (zah rfl dc rfl (zaz rfl dc rfl rfl zdC (zah rfl dc rfl ?_)))))))))
  refine za6 (s := 28) rfl (fun hb2 => ?_) (fun hb2 => ?_)
  ·
   have h := za0 hb2 h
   refine zan rfl dc (zan rfl dc (zan rfl dc (zaB (b := true) rfl dc rfl rfl (zap (zaj (zbu rfl (zas (zai (zak rfl dc rfl (zak rfl dc rfl (zap (zaj (zaX ?_)))))))))))))
   refine zay (zdu zau zat 93 ?_)
   show TX _ _ _ _ _ _ _ [zco zau zat 93 (.pointer none) none]
   cases h
   exact za3 (rs := [.tmp 4, .tmp 5]) (.pointer none) (.inl rfl) Tryd.results62 (.cons (.tmp rfl) (.cons (.tmp rfl) .nil)) rfl (zal [0] kr rfl)
  ·
   have h := za1 hb2 h
   refine zah rfl dc rfl (zbA rfl dc rfl Tryd.underlying9 (zaz rfl dc rfl rfl zdC (zaB (b := false) rfl dc rfl rfl (zap (zaj ?_)))))
   refine zaM rfl (fun hb3 => ?_) (fun hb3 => ?_)
   ·
    have h := za0 hb3 h
    refine zas (zai (zak rfl dc rfl (zak rfl dc rfl (zap (zaj (zaX (zay (zdu zau zat 93 ?_))))))))
    show TX _ _ _ _ _ _ _ [zco zau zat 93 (.pointer none) none]
    cases h
    exact za3 (rs := [.tmp 4, .tmp 5]) (.pointer none) (.inl rfl) Tryd.results62 (.cons (.tmp rfl) (.cons (.tmp rfl) .nil)) rfl (zal [0] kr rfl)
   ·
    have h := za1 hb3 h
    refine zaP (zaj (zas (zai (zah rfl dc rfl ?_))))
    obtain ⟨r2, hq3, h⟩ := zbN h
    refine zed (vs := [.string r1]) rfl dc rfl rfl rfl znv (zfv hq3) Splits.nil ?_
    rintro v1
    show TO _ _ _ _ _ _ _ _ _ _ [zco zau zat 93 v1 r2.1]
    refine zbw (L' := [zco zau zat 93 v1 r2.1]) (zal [0] kr rfl) (zah rfl dc rfl (zaS rfl dc rfl rfl (zaS rfl dc rfl rfl ?_)))
    refine zbl ziG rfl dc (fun b1 => ?_)
    refine zak rfl dc rfl (zaZ (k := 1) (vs := [zI r2.2.Err, zI r2.2.At]) (l' := [zI r2.2.Err, zI r2.2.At]) zf7 rfl rfl rfl rfl rfl (show _ ≤ _ by simp) rfl rfl ?_)
    show TO _ _ _ _ _ _ _ _ _ _ [zco zau zat 93 v1 r2.1, cells b1 [zI r2.2.Err, zI r2.2.At] 26]
    refine zap (zaj (zas (zai (zah rfl dc rfl (zak rfl dc rfl (zak rfl dc rfl (zap (zaj (zaX ?_)))))))))
    cases h
    exact za3 (rs := [.tmp 4, .tmp 5]) v1 (.inl rfl) Tryd.results62 (.cons (.tmp rfl) (.cons (.tmp rfl) .nil)) rfl (zal [0] kr rfl)
def zc8 (p1 : Gpoem_Poem) : Option ByteArray := zaG (zb9 p1 0 (p1.told_lines.length : Int)) fun (r1 : (List (List ByteArray))) => zaG (zc1 p1.told_title r1) fun (r2 : ByteArray) => some r2
theorem zfw {bp1 : Nat} {p1 : Gpoem_Poem} {p1_h0 p1_h1 : Hd} {r : ByteArray} (h : zc8 p1 = some r) : FnR Tryd.prog 18 [zP bp1] [cells bp1 [.string p1.told_title, p1_h0.v, p1_h1.v, .string p1.source] 93, vec zam 36 6 p1_h0.v p1.told_lines, vec zav 34 2 p1_h1.v p1.told_stanzas] [] (fun _ : Unit => (.string r)) (fun _ => []) := by
 unfold zc8 at h
 refine FnR.intro Tryd.func18 rfl Tryd.ntmps18 (by simp) ?_
 intro w0 K hrd
 refine zas (zai (zak rfl dc rfl (zap (zaj (zas (zas (zai (zah rfl dc rfl (zaz rfl dc rfl rfl (zbf Tryd.underlying23) (zap (zaj (zbp rfl (zaP ?_)))))))))))))
 refine zaj (zas ?_)
 obtain ⟨r1, hq1, h⟩ := zbN h
 obtain ⟨r2, hq2, h⟩ := zbN h
 refine zhb (β := Hd) 13 12 _ [(0, 5, zP bp1), (1, 6, zP bp1), (2, 7, zP bp1), (3, 8, zP bp1), (4, 9, .string p1.told_title), (5, 10, zP bp1), (6, 11, zP bp1), (7, 12, zP bp1), (8, 13, zP bp1), (9, 14, .pointer (some ⟨bp1, 1, none⟩)), (10, 15, p1_h0.v), (11, 16, zI (p1.told_lines.length : Int))] (fun hd1 => [(17, hd1.v)]) (fun hd1 => [zbx zae zag 48 1 hd1.v r1]) mixed kr kr rfl dc dc (by rfl) kr kr (DrawPreX.cons ?_ (DrawPreX.cons ?_ (DrawPreX.cons ?_ (DrawPreX.cons ?_ (DrawPreX.cons ?_ (DrawPreX.cons ?_ (DrawPreX.cons ?_ (DrawPreX.cons ?_ (DrawPreX.cons ?_ (DrawPreX.cons ?_ (DrawPreX.cons ?_ (DrawPreX.cons ?_ (zcO DrawPreX.nil))))))))))))) (fun hd1 => (DrawPreX.cons ?_ (DrawPreX.cons ?_ (DrawPreX.cons ?_ (DrawPreX.cons ?_ (DrawPreX.cons ?_ (DrawPreX.cons ?_ (DrawPreX.cons ?_ (DrawPreX.cons ?_ (DrawPreX.cons ?_ (DrawPreX.cons ?_ (DrawPreX.cons ?_ (DrawPreX.cons ?_ (zcO DrawPreX.nil)))))))))))))) ?_ ?_
 ·
  intro D hn hd hcl hu hi
  refine zah rfl dc (zaE (by rfl) rfl) ?_
  exact zaf 0 hu hi rfl
 ·
  intro D hn hd hcl hu hi
  refine zaW rfl dc (zab (m := 0) hu rfl (hd 0 dc)) ?_
  exact zaf 1 hu hi rfl
 ·
  intro D hn hd hcl hu hi
  refine zar zbS rfl dc (zab (m := 1) hu rfl (hd 1 dc)) (show _ = 0 from rfl) ?_
  exact zaf 2 hu hi rfl
 ·
  intro D hn hd hcl hu hi
  refine zar zfn rfl dc (zab (m := 2) hu rfl (hd 2 dc)) (show _ = 0 from rfl) ?_
  exact zaf 3 hu hi rfl
 ·
  intro D hn hd hcl hu hi
  refine zbq (i := 0) hrd rfl zgm rfl dc (zab (m := 3) hu rfl (hd 3 dc)) rfl ?_
  exact zaf 4 hu hi rfl
 ·
  intro D hn hd hcl hu hi
  refine zah rfl dc (zaE (by rfl) rfl) ?_
  exact zaf 5 hu hi rfl
 ·
  intro D hn hd hcl hu hi
  refine zah rfl dc (zaE (by rfl) rfl) ?_
  exact zaf 6 hu hi rfl
 ·
  intro D hn hd hcl hu hi
  refine zaW rfl dc (zab (m := 6) hu rfl (hd 6 dc)) ?_
  exact zaf 7 hu hi rfl
 ·
  intro D hn hd hcl hu hi
  refine zar zbS rfl dc (zab (m := 7) hu rfl (hd 7 dc)) (show _ = 0 from rfl) ?_
  exact zaf 8 hu hi rfl
 ·
  intro D hn hd hcl hu hi
  refine zar zdB rfl dc (zab (m := 8) hu rfl (hd 8 dc)) (show _ = 1 from rfl) ?_
  exact zaf 9 hu hi rfl
 ·
  intro D hn hd hcl hu hi
  refine zbq (i := 0) hrd rfl zew rfl dc (zab (m := 9) hu rfl (hd 9 dc)) rfl ?_
  exact zaf 10 hu hi rfl
 ·
  intro D hn hd hcl hu hi
  refine zbG (hrd.vw (i := 1) rfl) rfl dc (zab (m := 10) hu rfl (hd 10 dc)) Tryd.underlying57 ?_
  exact zaf 11 hu hi rfl
 ·
  intro D hn hd hcl hu hi
  refine zah rfl dc (zaE (by rfl) rfl) ?_
  exact zaf 0 hu hi rfl
 ·
  intro D hn hd hcl hu hi
  refine zaW rfl dc (zab (m := 0) hu rfl (hd 0 dc)) ?_
  exact zaf 1 hu hi rfl
 ·
  intro D hn hd hcl hu hi
  refine zar zbS rfl dc (zab (m := 1) hu rfl (hd 1 dc)) (show _ = 0 from rfl) ?_
  exact zaf 2 hu hi rfl
 ·
  intro D hn hd hcl hu hi
  refine zar zfn rfl dc (zab (m := 2) hu rfl (hd 2 dc)) (show _ = 0 from rfl) ?_
  exact zaf 3 hu hi rfl
 ·
  intro D hn hd hcl hu hi
  refine zbq (i := 0) hrd rfl zgm rfl dc (zab (m := 3) hu rfl (hd 3 dc)) rfl ?_
  exact zaf 4 hu hi rfl
 ·
  intro D hn hd hcl hu hi
  refine zah rfl dc (zaE (by rfl) rfl) ?_
  exact zaf 5 hu hi rfl
 ·
  intro D hn hd hcl hu hi
  refine zah rfl dc (zaE (by rfl) rfl) ?_
  exact zaf 6 hu hi rfl
 ·
  intro D hn hd hcl hu hi
  refine zaW rfl dc (zab (m := 6) hu rfl (hd 6 dc)) ?_
  exact zaf 7 hu hi rfl
 ·
  intro D hn hd hcl hu hi
  refine zar zbS rfl dc (zab (m := 7) hu rfl (hd 7 dc)) (show _ = 0 from rfl) ?_
  exact zaf 8 hu hi rfl
 ·
  intro D hn hd hcl hu hi
  refine zar zdB rfl dc (zab (m := 8) hu rfl (hd 8 dc)) (show _ = 1 from rfl) ?_
  exact zaf 9 hu hi rfl
 ·
  intro D hn hd hcl hu hi
  refine zbq (i := 0) hrd rfl zew rfl dc (zab (m := 9) hu rfl (hd 9 dc)) rfl ?_
  exact zaf 10 hu hi rfl
 ·
  intro D hn hd hcl hu hi
  refine zbG (hrd.vw (i := 1) rfl) rfl dc (zab (m := 10) hu rfl (hd 10 dc)) Tryd.underlying57 ?_
  exact zaf 11 hu hi rfl
 ·
  intro D hn hd hcl
  refine zdw (vs := [zP bp1, zI 0, zI (p1.told_lines.length : Int)]) hrd rfl dc rfl (evL.cons (zab (m := 5) kr rfl (hd 5 dc)) (evL.cons rfl (evL.cons (zab (m := 11) kr rfl (hd 11 dc)) evL.nil))) rfl zmI (zdG (bp1 := bp1) (p1 := p1) (p1_h0 := p1_h0) (p1_h1 := p1_h1) hq1) Splits.nil (.ro 0 rfl (.ro 1 rfl (.ro 2 rfl .nil))) ?_
  rintro v1
  show TO _ _ _ _ _ _ _ _ _ _ [zbx zae zag 48 1 v1 r1]
  refine zbw (L' := [zbx zae zag 48 1 v1 r1]) (zal [0] kr rfl) ?_
  refine zfN (k := 0) rfl (fun hd1 he1 => ?_)
  subst he1
  exact fun a w ha hw => ⟨hd1, zjN (by rfl) _ _ _ ha, hw⟩
 intro hd1
 show TO _ _ _ _ _ _ _ _ _ _ [zbx zae zag 48 1 hd1.v r1]
 refine za4 (v := .string r2) (vs := [.string p1.told_title, hd1.v]) hrd rfl dc rfl rfl rfl zoZ (zch (nest := zag) (e := 48) (v := hd1.v) (xs := r1) (RD1 := []) (RD2 := []) zaL za5 (fun zs_c0 hz_c0 hV_c0 => (zgd (vstanzas1 := hd1) hV_c0 hz_c0 hq2))) (.own (zal [0] (by kernel_rfl) rfl) (fun _ _ h => sepL.one1.1 h) .nil) ?_
 refine zak rfl dc rfl (zap (zaj (zaX ?_)))
 cases h
 exact za3 (rs := [.tmp 2]) () (.inl rfl) Tryd.results18 (.cons (.tmp rfl) .nil) rfl Splits.nil
def zcn (p1 : Gpoem_Poem) (k1 : Int) (line1 : ByteArray) : Option ((Option Gpoem_Poem) × Int) := zaU (decide ((k1 : Int) < 0)) ( some (none, 5)
) ( zaU (decide (((p1.told_lines.length : Int) : Int) ≤ k1)) ( some (none, 5)
) ( zaU (!(znP line1 1024)) ( some (none, 170)
) ( zaG (zd8 line1) fun (r1 : Bool) => zaU (r1) ( some (none, 170)
) ( zaG (zb9 p1 0 (p1.told_lines.length : Int)) fun (r2 : (List (List ByteArray))) => zaG (zdh p1.told_lines k1) fun (q1 : Gapi_Verse) => zaG (zdh r2 q1.Stanza) fun (x1 : List ByteArray) => zaG (zdh x1 q1.In) fun (q2 : ByteArray) => zaG (zcx p1.told_title (r2.set ((q1.Stanza : Int).toNat) (x1.set (q1.In : Int).toNat line1))) fun (r3 : ((Option Gpoem_Poem) × Int)) => some (r3.1, r3.2)
)
)
)
)
theorem zfY {bp1 : Nat} {p1 : Gpoem_Poem} {p1_h0 p1_h1 : Hd} {k1 : Int} {line1 : ByteArray} {r : ((Option Gpoem_Poem) × Int)} (h : zcn p1 k1 line1 = some r) : FnR Tryd.prog 29 [zP bp1, zI k1, .string line1] [cells bp1 [.string p1.told_title, p1_h0.v, p1_h1.v, .string p1.source] 93, vec zam 36 6 p1_h0.v p1.told_lines, vec zav 34 2 p1_h1.v p1.told_stanzas] [] (fun v0 : Value => .tuple #[v0, zI r.2]) (fun v0 => [zco zau zat 93 v0 r.1]) := by
 unfold zcn at h
 refine FnR.intro Tryd.func29 rfl Tryd.ntmps29 (by simp) ?_
 intro w0 K hrd
 refine zas (zai (zak rfl dc rfl (zak rfl dc rfl (zap (zaj (zas (za2 (zas (zai (zah rfl dc rfl (zaz rfl dc rfl rfl (zbf Tryd.underlying23) (zak rfl dc rfl (zap ?_)))))))))))))
 refine zaj (zbp rfl (zas (zai (zah rfl dc rfl (zaz rfl dc rfl rfl zbF (zah rfl dc rfl ?_))))))
 refine za6 (s := 16) rfl (fun hb1 => ?_) (fun hb1 => ?_)
 ·
  have h := za0 hb1 h
  refine zan rfl dc (zan rfl dc (zan rfl dc (zan rfl dc (zan rfl dc (zan rfl dc (zan rfl dc (zan rfl dc (zaB (b := true) rfl dc rfl rfl (zak rfl dc rfl (zap (zaj (zbu rfl (zas ?_)))))))))))))
  refine zai (zak rfl dc rfl (zak rfl dc rfl (zap (zaj (zaX (zaI (zay (zdu zau zat 93 ?_))))))))
  show TX _ _ _ _ _ _ _ [zco zau zat 93 (.pointer none) none]
  cases h
  exact za3 (rs := [.tmp 6, .tmp 7]) (.pointer none) (.inl rfl) Tryd.results29 (.cons (.tmp rfl) (.cons (.tmp rfl) .nil)) rfl (zal [0] kr rfl)
 ·
  have h := za1 hb1 h
  refine zah rfl dc rfl (zah rfl dc rfl (zaW rfl dc rfl (zar zbS rfl dc rfl (show _ = 0 from rfl) (zar zdB rfl dc rfl (show _ = 1 from rfl) (zbq (i := 0) hrd rfl zew rfl dc rfl rfl (zbG (hrd.vw (i := 1) rfl) rfl dc rfl Tryd.underlying57 (zaz rfl dc rfl rfl zeC (zaB (b := false) rfl dc rfl rfl (zak rfl dc rfl (zap (zaj ?_)))))))))))
  refine zaM rfl (fun hb2 => ?_) (fun hb2 => ?_)
  ·
   have h := za0 hb2 h
   refine zas (zai (zak rfl dc rfl (zak rfl dc rfl (zap (zaj (zaX (zaI (zay (zdu zau zat 93 ?_)))))))))
   show TX _ _ _ _ _ _ _ [zco zau zat 93 (.pointer none) none]
   cases h
   exact za3 (rs := [.tmp 6, .tmp 7]) (.pointer none) (.inl rfl) Tryd.results29 (.cons (.tmp rfl) (.cons (.tmp rfl) .nil)) rfl (zal [0] kr rfl)
  ·
   have h := za1 hb2 h
   refine zas (zai (zah rfl dc rfl (zbH (v := .bool (znP line1 1024)) (vs := [.string line1, zI 1024]) rfl dc rfl rfl rfl zpJ (zpB line1 1024 dc) (zhJ rfl dc rfl zfX (zah rfl dc rfl ?_)))))
   refine za6 (s := 30) rfl (fun hb3 => ?_) (fun hb3 => ?_)
   ·
    have h := za0 hb3 h
    refine zan rfl dc (zan rfl dc (zaB (b := true) rfl dc rfl rfl (zak rfl dc rfl (zap (zaj (zbu rfl (zas (zai (zak rfl dc rfl (zak rfl dc rfl (zap (zaj (zaX ?_)))))))))))))
    refine zaI (zay (zdu zau zat 93 ?_))
    show TX _ _ _ _ _ _ _ [zco zau zat 93 (.pointer none) none]
    cases h
    exact za3 (rs := [.tmp 6, .tmp 7]) (.pointer none) (.inl rfl) Tryd.results29 (.cons (.tmp rfl) (.cons (.tmp rfl) .nil)) rfl (zal [0] kr rfl)
   ·
    have h := za1 hb3 h
    refine zah rfl dc rfl ?_
    obtain ⟨r1, hq1, h⟩ := zbN h
    refine zbH (v := .bool r1) (vs := [.string line1]) rfl dc rfl rfl rfl zo3 (zgV hq1) (zaB (b := false) rfl dc rfl rfl (zak rfl dc rfl (zap (zaj ?_))))
    refine zaM rfl (fun hb4 => ?_) (fun hb4 => ?_)
    ·
     have h := za0 hb4 h
     refine zas (zai (zak rfl dc rfl (zak rfl dc rfl (zap (zaj (zaX (zaI (zay (zdu zau zat 93 ?_)))))))))
     show TX _ _ _ _ _ _ _ [zco zau zat 93 (.pointer none) none]
     cases h
     exact za3 (rs := [.tmp 6, .tmp 7]) (.pointer none) (.inl rfl) Tryd.results29 (.cons (.tmp rfl) (.cons (.tmp rfl) .nil)) rfl (zal [0] kr rfl)
    ·
     have h := za1 hb4 h
     refine zaP (zaA (zaj (zas (zai (zah rfl dc rfl (zah rfl dc rfl (zaW rfl dc rfl (zar zbS rfl dc rfl (show _ = 0 from rfl) (zar zdB rfl dc rfl (show _ = 1 from rfl) (zbq (i := 0) hrd rfl zew rfl dc rfl rfl (zbG (hrd.vw (i := 1) rfl) rfl dc rfl Tryd.underlying57 ?_)))))))))))
     obtain ⟨r2, hq2, h⟩ := zbN h
     refine zdw (vs := [zP bp1, zI 0, zI (p1.told_lines.length : Int)]) hrd rfl dc rfl rfl rfl zmI (zdG (bp1 := bp1) (p1 := p1) (p1_h0 := p1_h0) (p1_h1 := p1_h1) hq2) Splits.nil (.ro 0 rfl (.ro 1 rfl (.ro 2 rfl .nil))) ?_
     rintro v1
     show TO _ _ _ _ _ _ _ _ _ _ [zbx zae zag 48 1 v1 r2]
     refine zbw (L' := [zbx zae zag 48 1 v1 r2]) (zal [0] kr rfl) ?_
     refine zfN (k := 0) rfl (fun hd1 he1 => ?_)
     subst he1
     refine zak rfl dc rfl (zap (zaj (zas (zai (zah rfl dc rfl (zaW rfl dc rfl (zar zbS rfl dc rfl (show _ = 0 from rfl) (zar zdB rfl dc rfl (show _ = 1 from rfl) (zbq (i := 0) hrd rfl zew rfl dc rfl rfl (zah rfl dc rfl ?_))))))))))
     obtain ⟨q1, hq3, h⟩ := zbN h
     refine zbd (hrd.vw (i := 1) rfl) hq3 Tryd.underlying57 zf3 rfl dc rfl rfl rfl (zdv (m := 0 + (k1 : Int).toNat) (j := 0) (i := 1) (q := q1) (cs := [.string q1.Text, zI q1.Indent, zI q1.Stanza, zI q1.In, zI q1.Span_From, zI q1.Span_To]) hrd rfl zgF zbI rfl dc rfl (Vw.get (hrd.vw (i := 1) rfl) hq3) rfl rfl rfl ?_)
     refine zbl ziF rfl dc (fun b1 => ?_)
     refine zaZ (k := 1) (vs := [.string q1.Text, zI q1.Indent, zI q1.Stanza, zI q1.In, zI q1.Span_From, zI q1.Span_To]) (l' := [.string q1.Text, zI q1.Indent, zI q1.Stanza, zI q1.In, zI q1.Span_From, zI q1.Span_To]) zf3 rfl rfl rfl rfl rfl (show _ ≤ _ by simp) rfl rfl ?_
     show TO _ _ _ _ _ _ _ _ _ _ [zbx zae zag 48 1 hd1.v r2, cells b1 [.string q1.Text, zI q1.Indent, zI q1.Stanza, zI q1.In, zI q1.Span_From, zI q1.Span_To] 36]
     refine zap (zaj (zas ?_))
     refine zeN (k := 0) rfl zhC (fun zs1 hz1 => ?_)
     show TC _ _ _ _ _ _ _ _ _ [vec zae 48 1 hd1.v zs1, cells b1 [.string q1.Text, zI q1.Indent, zI q1.Stanza, zI q1.In, zI q1.Span_From, zI q1.Span_To] 36, own zag zs1]
     obtain ⟨x1, hq4, h⟩ := zbN h
     obtain ⟨eh1, eq1⟩ := zeb hz1 hq4
     obtain ⟨q2, hq5, h⟩ := zbN h
     refine zeN (k := 2) rfl (znd (zcq eq1)) (fun _ _ => ?_)
     show TC _ _ _ _ _ _ _ _ _ [vec zae 48 1 hd1.v zs1, cells b1 [.string q1.Text, zI q1.Indent, zI q1.Stanza, zI q1.In, zI q1.Span_From, zI q1.Span_To] 36, own zag (zs1.eraseIdx ((q1.Stanza : Int).toNat)), vec zbT 9 1 eh1.v x1]
     refine zbR 8 [(0, 50, hd1.v), (1, 51, .pointer (some ⟨b1, 2, none⟩)), (2, 52, zI q1.Stanza), (3, 53, .pointer (some ⟨zff hd1.v, (q1.Stanza : Int).toNat * 1, none⟩)), (4, 54, eh1.v), (5, 55, .pointer (some ⟨b1, 3, none⟩)), (6, 56, zI q1.In), (7, 57, .string line1)] mixed kr kr dc (by rfl) kr kr (zac ?_ (zac ?_ (zac ?_ (zac ?_ (zac ?_ (zac ?_ (zac ?_ (zac ?_ DrawPre.nil)))))))) ?_
     ·
      intro D hn hd hcl hu hi
      refine zah rfl dc (zaE (by rfl) rfl) ?_
      exact zaf 0 hu hi rfl
     ·
      intro D hn hd hcl hu hi
      refine zar zio rfl dc (zaE (by rfl) rfl) (show _ = 2 from rfl) ?_
      exact zaf 1 hu hi rfl
     ·
      intro D hn hd hcl hu hi
      refine zaN (k := 1) zfb rfl dc (zab (m := 1) hu rfl (hd 1 dc)) rfl rfl ?_
      exact zaf 2 hu hi rfl
     ·
      intro D hn hd hcl hu hi
      refine zce (k := 0) eq1 Tryd.underlying54 zet rfl dc (zab (m := 0) hu rfl (hd 0 dc)) (zab (m := 2) hu rfl (hd 2 dc)) rfl rfl ?_
      exact zaf 3 hu hi rfl
     ·
      intro D hn hd hcl hu hi
      refine zd2 (i := (q1.Stanza : Int).toNat) (j := 0) (k := 0) (q := (x1, eh1)) zeR zaL rfl dc (zab (m := 3) hu rfl (hd 3 dc)) rfl (zcq eq1) rfl dc rfl ?_
      exact zaf 4 hu hi rfl
     ·
      intro D hn hd hcl hu hi
      refine zar zoh rfl dc (zaE (by rfl) rfl) (show _ = 3 from rfl) ?_
      exact zaf 5 hu hi rfl
     ·
      intro D hn hd hcl hu hi
      refine zaN (k := 1) zfb rfl dc (zab (m := 5) hu rfl (hd 5 dc)) rfl rfl ?_
      exact zaf 6 hu hi rfl
     ·
      intro D hn hd hcl hu hi
      refine zah rfl dc (zaE (by rfl) rfl) ?_
      exact zaf 7 hu hi rfl
     refine zce (k := 3) hq5 Tryd.underlying48 zlY rfl dc rfl rfl rfl rfl ?_
     refine zfW (i := (q1.In : Int).toNat) (j := 0) (k := 3) (q := q2) (q' := line1) zlY zgp rfl rfl rfl rfl (zcq hq5) rfl dc rfl (fun _ _ => rfl) ?_
     refine zap (zaj (zas (zai (zah rfl dc rfl (zaW rfl dc rfl (zar zbS rfl dc rfl (show _ = 0 from rfl) (zar zfn rfl dc rfl (show _ = 0 from rfl) (zbq (i := 0) hrd rfl zgm rfl dc rfl rfl (zah rfl dc rfl (znY (k := 0) rfl (zm4 (zn1 (zcq eq1)).symm (q1 := (x1, eh1)) (q2 := (x1.set (q1.In : Int).toNat line1, eh1)) zaL rfl) (zei (k := 2) rfl (zal [3] kr rfl) rfl (znc (nest := zag) (zs := zs1) (z := (x1.set (q1.In : Int).toNat line1, eh1)) (zkB (zcq eq1)) zh2) ?_)))))))))))
     show TO _ _ _ _ _ _ _ _ _ _ [vec zae 48 1 hd1.v (zs1.set ((q1.Stanza : Int).toNat) (x1.set (q1.In : Int).toNat line1, eh1)), cells b1 [.string q1.Text, zI q1.Indent, zI q1.Stanza, zI q1.In, zI q1.Span_From, zI q1.Span_To] 36, own zag (zs1.set ((q1.Stanza : Int).toNat) (x1.set (q1.In : Int).toNat line1, eh1)), emp]
     refine zcA (k := 0) rfl (fun hw1 => ?_)
     obtain ⟨r3, hq6, h⟩ := zbN h
     refine zdw (vs := [.string p1.told_title, hd1.v]) hrd rfl dc rfl rfl rfl zok (zge (vstanzas1 := hd1) hw1 (zps hz1) hq6) Splits.nil (.own (As := [vec zae 48 1 hd1.v (zs1.set ((q1.Stanza : Int).toNat) (x1.set (q1.In : Int).toNat line1, eh1))]) (zal [0] (by kernel_rfl) rfl) (fun _ _ h => zcr zaL (sepL.one1.1 h)) (.own (As := [own zag (zs1.set ((q1.Stanza : Int).toNat) (x1.set (q1.In : Int).toNat line1, eh1))]) (zal [2] (by kernel_rfl) rfl) (fun _ _ h => zdr za5 (sepL.one1.1 h)) .nil)) ?_
     rintro v2
     show TO _ _ _ _ _ _ _ _ _ _ [vec zae 48 1 hd1.v (zs1.set ((q1.Stanza : Int).toNat) (x1.set (q1.In : Int).toNat line1, eh1)), cells b1 [.string q1.Text, zI q1.Indent, zI q1.Stanza, zI q1.In, zI q1.Span_From, zI q1.Span_To] 36, own zag (zs1.set ((q1.Stanza : Int).toNat) (x1.set (q1.In : Int).toNat line1, eh1)), emp, zco zau zat 93 v2 r3.1]
     refine zbw (L' := [vec zae 48 1 hd1.v (zs1.set ((q1.Stanza : Int).toNat) (x1.set (q1.In : Int).toNat line1, eh1)), cells b1 [.string q1.Text, zI q1.Indent, zI q1.Stanza, zI q1.In, zI q1.Span_From, zI q1.Span_To] 36, own zag (zs1.set ((q1.Stanza : Int).toNat) (x1.set (q1.In : Int).toNat line1, eh1)), emp, zco zau zat 93 v2 r3.1]) (zal [0, 1, 2, 3, 4] kr rfl) (zaS rfl dc rfl rfl (zaS rfl dc rfl rfl (zak rfl dc rfl (zak rfl dc rfl (zap (zaj (zaX ?_)))))))
     cases h
     exact za3 (rs := [.tmp 6, .tmp 7]) v2 (.inl rfl) Tryd.results29 (.cons (.tmp rfl) (.cons (.tmp rfl) .nil)) rfl (zal [4] kr rfl)
def zd9 (p1 : Gpoem_Poem) (from1 : Int) (to1 : Int) : Option ((Option Gpoem_Poem) × Int) := zaU (decide ((from1 : Int) < 0)) ( some (none, 5)
) ( zaU (decide ((to1 : Int) < from1)) ( some (none, 5)
) ( zaU (decide (((p1.told_lines.length : Int) : Int) < to1)) ( some (none, 5)
) ( zaG (zb9 p1 from1 to1) fun (r1 : (List (List ByteArray))) => zaG (zcx p1.told_title r1) fun (r2 : ((Option Gpoem_Poem) × Int)) => some (r2.1, r2.2)
)
)
)
theorem zhB {bp1 : Nat} {p1 : Gpoem_Poem} {p1_h0 p1_h1 : Hd} {from1 : Int} {to1 : Int} {r : ((Option Gpoem_Poem) × Int)} (h : zd9 p1 from1 to1 = some r) : FnR Tryd.prog 25 [zP bp1, zI from1, zI to1] [cells bp1 [.string p1.told_title, p1_h0.v, p1_h1.v, .string p1.source] 93, vec zam 36 6 p1_h0.v p1.told_lines, vec zav 34 2 p1_h1.v p1.told_stanzas] [] (fun v0 : Value => .tuple #[v0, zI r.2]) (fun v0 => [zco zau zat 93 v0 r.1]) := by
 unfold zd9 at h
 refine FnR.intro Tryd.func25 rfl Tryd.ntmps25 (by simp) ?_
 intro w0 K hrd
 refine zas (zai (zak rfl dc rfl (zak rfl dc rfl (zap (zaj (zas (za2 (zas (zai (zah rfl dc rfl (zaz rfl dc rfl rfl (zbf Tryd.underlying23) (zak rfl dc rfl (zap ?_)))))))))))))
 refine zaj (zbp rfl (zas (zai (zah rfl dc rfl (zaz rfl dc rfl rfl zbF (zah rfl dc rfl ?_))))))
 refine za6 (s := 14) rfl (fun hb1 => ?_) (fun hb1 => ?_)
 ·
  have h := za0 hb1 h
  refine zan rfl dc (zan rfl dc (zan rfl dc (zaB (b := true) rfl dc rfl rfl (zah rfl dc rfl (zan rfl dc (zan rfl dc (zan rfl dc (zan rfl dc (zan rfl dc (zan rfl dc (zan rfl dc (zan rfl dc (zaB (b := true) rfl dc rfl rfl ?_)))))))))))))
  refine zak rfl dc rfl (zap (zaj (zbu rfl (zas (zai (zak rfl dc rfl (zak rfl dc rfl (zap (zaj (zaX (zaI (zay (zdu zau zat 93 ?_)))))))))))))
  show TX _ _ _ _ _ _ _ [zco zau zat 93 (.pointer none) none]
  cases h
  exact za3 (rs := [.tmp 6, .tmp 7]) (.pointer none) (.inl rfl) Tryd.results25 (.cons (.tmp rfl) (.cons (.tmp rfl) .nil)) rfl (zal [0] kr rfl)
 ·
  have h := za1 hb1 h
  refine zah rfl dc rfl (zah rfl dc rfl (zaz rfl dc rfl rfl zbF (zaB (b := false) rfl dc rfl rfl (zah rfl dc rfl ?_))))
  refine za6 (s := 19) rfl (fun hb2 => ?_) (fun hb2 => ?_)
  ·
   have h := za0 hb2 h
   refine zan rfl dc (zan rfl dc (zan rfl dc (zan rfl dc (zan rfl dc (zan rfl dc (zan rfl dc (zan rfl dc (zaB (b := true) rfl dc rfl rfl (zak rfl dc rfl (zap (zaj (zbu rfl (zas ?_)))))))))))))
   refine zai (zak rfl dc rfl (zak rfl dc rfl (zap (zaj (zaX (zaI (zay (zdu zau zat 93 ?_))))))))
   show TX _ _ _ _ _ _ _ [zco zau zat 93 (.pointer none) none]
   cases h
   exact za3 (rs := [.tmp 6, .tmp 7]) (.pointer none) (.inl rfl) Tryd.results25 (.cons (.tmp rfl) (.cons (.tmp rfl) .nil)) rfl (zal [0] kr rfl)
  ·
   have h := za1 hb2 h
   refine zah rfl dc rfl (zah rfl dc rfl (zaW rfl dc rfl (zar zbS rfl dc rfl (show _ = 0 from rfl) (zar zdB rfl dc rfl (show _ = 1 from rfl) (zbq (i := 0) hrd rfl zew rfl dc rfl rfl (zbG (hrd.vw (i := 1) rfl) rfl dc rfl Tryd.underlying57 (zaz rfl dc rfl rfl zdC (zaB (b := false) rfl dc rfl rfl (zak rfl dc rfl (zap (zaj ?_)))))))))))
   refine zaM rfl (fun hb3 => ?_) (fun hb3 => ?_)
   ·
    have h := za0 hb3 h
    refine zas (zai (zak rfl dc rfl (zak rfl dc rfl (zap (zaj (zaX (zaI (zay (zdu zau zat 93 ?_)))))))))
    show TX _ _ _ _ _ _ _ [zco zau zat 93 (.pointer none) none]
    cases h
    exact za3 (rs := [.tmp 6, .tmp 7]) (.pointer none) (.inl rfl) Tryd.results25 (.cons (.tmp rfl) (.cons (.tmp rfl) .nil)) rfl (zal [0] kr rfl)
   ·
    have h := za1 hb3 h
    refine zaP (zaA (zaj (zas ?_)))
    obtain ⟨r1, hq1, h⟩ := zbN h
    obtain ⟨r2, hq2, h⟩ := zbN h
    refine zha 2 ?_
    show TC _ _ _ _ _ _ _ _ _ [emp, emp]
    refine let vals1 : (Hd × Value) → List (Nat × Nat × Value) := fun b => [(0, 29, zP bp1), (1, 30, zP bp1), (2, 31, zP bp1), (3, 32, zP bp1), (4, 33, .string p1.told_title), (5, 34, zP bp1), (6, 35, zI from1), (7, 36, zI to1), (8, 37, b.1.v), (9, 38, .tuple #[b.2, zI r2.2]), (10, 39, b.2), (11, 40, zI r2.2)]; let LL1 : (Nat → Prop) → (Hd × Value) → List Asn := fun D b => [eD D emp [(8, zbx zae zag 48 1 b.1.v r1)], eD D emp [(9, zco zau zat 93 b.2 r2.1)]]; ?_
    refine zfa (β := Hd × Value) 12 (Hd.nil, (.slice none 0 0 : Value)) vals1 LL1 mixed kr kr dc (fun _ => rfl) (zaa zdi (zaa zdi rfl)) (zaC ?_ (zaC ?_ (zaC ?_ (zaC ?_ (zaC ?_ (zaC ?_ (zaC ?_ (zaC ?_ (zaC ?_ (zaC ?_ (zaC ?_ (zaC ?_ DrawG.nil)))))))))))) ?_
    ·
     intro D b hn hd hcl
     obtain ⟨hd1, v2⟩ := b
     refine zaQ (zaa rfl (zaa (zaq (fun hD => hn (hcl 1 _ rfl (hcl 2 _ rfl (hcl 3 _ rfl (hcl 4 _ rfl (hcl 9 _ rfl hD 4 dc) 3 dc) 2 dc) 1 dc) 0 dc)) zaw) rfl)) ?_
     refine zah rfl dc (zaE (by rfl) rfl) ?_
     exact zaR (hd1, v2) 0 (by rfl) (by rfl) rfl (congrArg (dl D) rfl) (zaa ((zax (by rfl)).trans rfl) (zaa ((zax (by rfl)).trans (zaq (fun hD => hn (hcl 1 _ rfl (hcl 2 _ rfl (hcl 3 _ rfl (hcl 4 _ rfl (hcl 9 _ rfl hD 4 dc) 3 dc) 2 dc) 1 dc) 0 dc)) zaw)) rfl))
    ·
     intro D b hn hd hcl
     obtain ⟨hd1, v2⟩ := b
     refine zaQ (zaa rfl (zaa (zaq (fun hD => hn (hcl 2 _ rfl (hcl 3 _ rfl (hcl 4 _ rfl (hcl 9 _ rfl hD 4 dc) 3 dc) 2 dc) 1 dc)) zaw) rfl)) ?_
     refine zaW rfl dc (zab (m := 0) rfl rfl (hd 0 dc)) ?_
     exact zaR (hd1, v2) 1 (by rfl) (by rfl) rfl (congrArg (dl D) rfl) (zaa ((zax (by rfl)).trans rfl) (zaa ((zax (by rfl)).trans (zaq (fun hD => hn (hcl 2 _ rfl (hcl 3 _ rfl (hcl 4 _ rfl (hcl 9 _ rfl hD 4 dc) 3 dc) 2 dc) 1 dc)) zaw)) rfl))
    ·
     intro D b hn hd hcl
     obtain ⟨hd1, v2⟩ := b
     refine zaQ (zaa rfl (zaa (zaq (fun hD => hn (hcl 3 _ rfl (hcl 4 _ rfl (hcl 9 _ rfl hD 4 dc) 3 dc) 2 dc)) zaw) rfl)) ?_
     refine zar zbS rfl dc (zab (m := 1) rfl rfl (hd 1 dc)) (show _ = 0 from rfl) ?_
     exact zaR (hd1, v2) 2 (by rfl) (by rfl) rfl (congrArg (dl D) rfl) (zaa ((zax (by rfl)).trans rfl) (zaa ((zax (by rfl)).trans (zaq (fun hD => hn (hcl 3 _ rfl (hcl 4 _ rfl (hcl 9 _ rfl hD 4 dc) 3 dc) 2 dc)) zaw)) rfl))
    ·
     intro D b hn hd hcl
     obtain ⟨hd1, v2⟩ := b
     refine zaQ (zaa rfl (zaa (zaq (fun hD => hn (hcl 4 _ rfl (hcl 9 _ rfl hD 4 dc) 3 dc)) zaw) rfl)) ?_
     refine zar zfn rfl dc (zab (m := 2) rfl rfl (hd 2 dc)) (show _ = 0 from rfl) ?_
     exact zaR (hd1, v2) 3 (by rfl) (by rfl) rfl (congrArg (dl D) rfl) (zaa ((zax (by rfl)).trans rfl) (zaa ((zax (by rfl)).trans (zaq (fun hD => hn (hcl 4 _ rfl (hcl 9 _ rfl hD 4 dc) 3 dc)) zaw)) rfl))
    ·
     intro D b hn hd hcl
     obtain ⟨hd1, v2⟩ := b
     refine zaQ (zaa rfl (zaa (zaq (fun hD => hn (hcl 9 _ rfl hD 4 dc)) zaw) rfl)) ?_
     refine zbq (i := 0) hrd rfl zgm rfl dc (zab (m := 3) rfl rfl (hd 3 dc)) rfl ?_
     exact zaR (hd1, v2) 4 (by rfl) (by rfl) rfl (congrArg (dl D) rfl) (zaa ((zax (by rfl)).trans rfl) (zaa ((zax (by rfl)).trans (zaq (fun hD => hn (hcl 9 _ rfl hD 4 dc)) zaw)) rfl))
    ·
     intro D b hn hd hcl
     obtain ⟨hd1, v2⟩ := b
     refine zaQ (zaa (zaq (fun hD => hn (hcl 8 _ rfl hD 5 dc)) zaw) (zaa (zaq (fun hD => hn (hcl 8 _ rfl (hcl 9 _ rfl hD 8 dc) 5 dc)) zaw) rfl)) ?_
     refine zah rfl dc (zaE (by rfl) rfl) ?_
     exact zaR (hd1, v2) 5 (by rfl) (by rfl) rfl (congrArg (dl D) rfl) (zaa ((zax (by rfl)).trans (zaq (fun hD => hn (hcl 8 _ rfl hD 5 dc)) zaw)) (zaa ((zax (by rfl)).trans (zaq (fun hD => hn (hcl 8 _ rfl (hcl 9 _ rfl hD 8 dc) 5 dc)) zaw)) rfl))
    ·
     intro D b hn hd hcl
     obtain ⟨hd1, v2⟩ := b
     refine zaQ (zaa (zaq (fun hD => hn (hcl 8 _ rfl hD 6 dc)) zaw) (zaa (zaq (fun hD => hn (hcl 8 _ rfl (hcl 9 _ rfl hD 8 dc) 6 dc)) zaw) rfl)) ?_
     refine zah rfl dc (zaE (by rfl) rfl) ?_
     exact zaR (hd1, v2) 6 (by rfl) (by rfl) rfl (congrArg (dl D) rfl) (zaa ((zax (by rfl)).trans (zaq (fun hD => hn (hcl 8 _ rfl hD 6 dc)) zaw)) (zaa ((zax (by rfl)).trans (zaq (fun hD => hn (hcl 8 _ rfl (hcl 9 _ rfl hD 8 dc) 6 dc)) zaw)) rfl))
    ·
     intro D b hn hd hcl
     obtain ⟨hd1, v2⟩ := b
     refine zaQ (zaa (zaq (fun hD => hn (hcl 8 _ rfl hD 7 dc)) zaw) (zaa (zaq (fun hD => hn (hcl 8 _ rfl (hcl 9 _ rfl hD 8 dc) 7 dc)) zaw) rfl)) ?_
     refine zah rfl dc (zaE (by rfl) rfl) ?_
     exact zaR (hd1, v2) 7 (by rfl) (by rfl) rfl (congrArg (dl D) rfl) (zaa ((zax (by rfl)).trans (zaq (fun hD => hn (hcl 8 _ rfl hD 7 dc)) zaw)) (zaa ((zax (by rfl)).trans (zaq (fun hD => hn (hcl 8 _ rfl (hcl 9 _ rfl hD 8 dc) 7 dc)) zaw)) rfl))
    ·
     intro D b hn hd hcl
     obtain ⟨_, v2⟩ := b
     refine zaQ (zaa (zaq hn zaw) (zaa (zaq (fun hD => hn (hcl 9 _ rfl hD 8 dc)) zaw) rfl)) ?_
     refine zdw (vs := [zP bp1, zI from1, zI to1]) hrd rfl dc rfl (evL.cons (zab (m := 5) rfl rfl (hd 5 dc)) (evL.cons (zab (m := 6) rfl rfl (hd 6 dc)) (evL.cons (zab (m := 7) rfl rfl (hd 7 dc)) evL.nil))) rfl zmI (zdG (bp1 := bp1) (p1 := p1) (p1_h0 := p1_h0) (p1_h1 := p1_h1) hq1) Splits.nil (.ro 0 rfl (.ro 1 rfl (.ro 2 rfl .nil))) ?_
     rintro v1
     show TO _ _ _ _ _ _ _ _ _ _ [emp, emp, zbx zae zag 48 1 v1 r1]
     refine zbw (L' := [emp, emp, zbx zae zag 48 1 v1 r1]) (zal [0, 1, 2] kr rfl) ?_
     refine zfN (k := 2) rfl (fun hd1 he1 => ?_)
     subst he1
     refine zd5 0 rfl rfl ?_
     show TO _ _ _ _ _ _ _ _ _ _ [zbx zae zag 48 1 hd1.v r1, emp]
     exact zaR (hd1, v2) 8 (by rfl) (by rfl) rfl (zao (fun _ => rfl) (zao (fun _ => rfl) (zao (fun _ => rfl) (zao (fun _ => rfl) (zao (fun _ => rfl) (zao (fun _ => rfl) (zao (fun _ => rfl) (zao (fun _ => rfl) (zao (fun hD => absurd hD hn) (congrArg (dl D) rfl)))))))))) (zaa (zbb (Or.inr rfl) rfl) (zaa ((zax (by rfl)).trans (zaq (fun hD => hn (hcl 9 _ rfl hD 8 dc)) zaw)) rfl))
    ·
     intro D b hn hd hcl
     obtain ⟨hd1, _⟩ := b
     refine zaQ (zaa (zbb (hd 8 dc) rfl) (zaa (zaq hn zaw) rfl)) ?_
     refine zdw (vs := [.string p1.told_title, hd1.v]) hrd rfl dc rfl (evL.cons (zab (m := 4) rfl rfl (hd 4 dc)) (evL.cons (zab (m := 8) rfl rfl (hd 8 dc)) evL.nil)) rfl zok (zch (nest := zag) (e := 48) (v := hd1.v) (xs := r1) (RD1 := []) (RD2 := []) zaL za5 (fun zs_c0 hz_c0 hV_c0 => (zge (vstanzas1 := hd1) hV_c0 hz_c0 hq2))) Splits.nil (.own (zal [0] (by kernel_rfl) rfl) (fun _ _ h => sepL.one1.1 h) .nil) ?_
     rintro v2
     show TO _ _ _ _ _ _ _ _ _ _ [zbx zae zag 48 1 hd1.v r1, emp, zco zau zat 93 v2 r2.1]
     refine zbw (L' := [zbx zae zag 48 1 hd1.v r1, emp, zco zau zat 93 v2 r2.1]) (zal [0, 1, 2] kr rfl) (zd5 1 rfl rfl ?_)
     show TO _ _ _ _ _ _ _ _ _ _ [zbx zae zag 48 1 hd1.v r1, zco zau zat 93 v2 r2.1]
     exact zaR (hd1, v2) 9 (by rfl) (by rfl) rfl (zao (fun _ => rfl) (zao (fun _ => rfl) (zao (fun _ => rfl) (zao (fun _ => rfl) (zao (fun _ => rfl) (zao (fun _ => rfl) (zao (fun _ => rfl) (zao (fun _ => rfl) (zao (fun _ => rfl) (zao (fun hD => absurd hD hn) (zao (fun hD => absurd (hcl 10 _ rfl hD 9 dc) hn) (zao (fun _ => rfl) rfl)))))))))))) (zaa ((zax (by rfl)).trans (zbb (hd 8 dc) rfl)) (zaa (zbb (Or.inr rfl) rfl) rfl))
    ·
     intro D b hn hd hcl
     obtain ⟨hd1, v2⟩ := b
     refine zaQ (zaa (zbb (hcl 9 _ rfl (hd 9 dc) 8 dc) rfl) (zaa (zbb (hd 9 dc) rfl) rfl)) (zaS rfl dc (zab (m := 9) rfl rfl (hd 9 dc)) rfl ?_)
     exact zaR (hd1, v2) 10 (by rfl) (by rfl) rfl (congrArg (dl D) rfl) (zaa ((zax (by rfl)).trans (zbb (hcl 9 _ rfl (hd 9 dc) 8 dc) rfl)) (zaa ((zax (by rfl)).trans (zbb (hd 9 dc) rfl)) rfl))
    ·
     intro D b hn hd hcl
     obtain ⟨hd1, v2⟩ := b
     refine zaQ (zaa (zbb (hcl 9 _ rfl (hd 9 dc) 8 dc) rfl) (zaa (zbb (hd 9 dc) rfl) rfl)) (zaS rfl dc (zab (m := 9) rfl rfl (hd 9 dc)) rfl ?_)
     exact zaR (hd1, v2) 11 (by rfl) (by rfl) rfl (congrArg (dl D) rfl) (zaa ((zax (by rfl)).trans (zbb (hcl 9 _ rfl (hd 9 dc) 8 dc) rfl)) (zaa ((zax (by rfl)).trans (zbb (hd 9 dc) rfl)) rfl))
    intro D b hall
    obtain ⟨hd1, v2⟩ := b
    refine zaQ (zaa (zbb (hall 8 dc) rfl) (zaa (zbb (hall 9 dc) rfl) rfl)) (zak rfl dc rfl (zak rfl dc rfl (zap (zaj (zaX ?_)))))
    cases h
    exact za3 (rs := [.tmp 6, .tmp 7]) v2 (.inl rfl) Tryd.results25 (.cons (.tmp rfl) (.cons (.tmp rfl) .nil)) rfl (zal [1] kr rfl)
def zdj (p1 : Gpoem_Poem) (q1 : Gpoem_Poem) : Option ((Option Gpoem_Poem) × Int) := zaG (zb9 p1 0 (p1.told_lines.length : Int)) fun (r1 : (List (List ByteArray))) => zaG (zb9 q1 0 (q1.told_lines.length : Int)) fun (r2 : (List (List ByteArray))) => grd (r1.length + r2.length ≤ 2147483648) <| zaG (zcx p1.told_title (r1 ++ r2)) fun (r3 : ((Option Gpoem_Poem) × Int)) => some (r3.1, r3.2)
theorem zhh {bp1 : Nat} {p1 : Gpoem_Poem} {p1_h0 p1_h1 : Hd} {bq1 : Nat} {q1 : Gpoem_Poem} {q1_h0 q1_h1 : Hd} {r : ((Option Gpoem_Poem) × Int)} (h : zdj p1 q1 = some r) : FnR Tryd.prog 22 [zP bp1, zP bq1] [cells bp1 [.string p1.told_title, p1_h0.v, p1_h1.v, .string p1.source] 93, vec zam 36 6 p1_h0.v p1.told_lines, vec zav 34 2 p1_h1.v p1.told_stanzas, cells bq1 [.string q1.told_title, q1_h0.v, q1_h1.v, .string q1.source] 93, vec zam 36 6 q1_h0.v q1.told_lines, vec zav 34 2 q1_h1.v q1.told_stanzas] [] (fun v0 : Value => .tuple #[v0, zI r.2]) (fun v0 => [zco zau zat 93 v0 r.1]) := by
 unfold zdj at h
 refine FnR.intro Tryd.func22 rfl Tryd.ntmps22 (by simp) ?_
 intro w0 K hrd
 refine zas (zai (zak rfl dc rfl (zak rfl dc rfl (zap (zaj (zas (zas (zai (zah rfl dc rfl (zaz rfl dc rfl rfl (zbf Tryd.underlying23) (zah rfl dc rfl (zah rfl dc rfl (zaz rfl dc rfl rfl (zbf Tryd.underlying23) ?_)))))))))))))
 refine zaB (b := false) rfl dc rfl rfl (zap (zaj (zbp rfl (zaP (zaj (zas ?_))))))
 obtain ⟨r1, hq1, h⟩ := zbN h
 obtain ⟨r2, hq2, h⟩ := zbN h
 obtain ⟨hg1, h⟩ := zcb h
 obtain ⟨r3, hq3, h⟩ := zbN h
 refine zha 5 ?_
 show TC _ _ _ _ _ _ _ _ _ [emp, emp, emp, emp, emp]
 refine let vals1 : (Hd × Hd × {zs : List ((List ByteArray) × Hd) // zs.map Prod.fst = r1} × {zs : List ((List ByteArray) × Hd) // zs.map Prod.fst = r2} × Hd × Value) → List (Nat × Nat × Value) := fun b => [(0, 12, zP bp1), (1, 13, zP bp1), (2, 14, zP bp1), (3, 15, zP bp1), (4, 16, .string p1.told_title), (5, 17, zP bp1), (6, 18, zP bp1), (7, 19, zP bp1), (8, 20, zP bp1), (9, 21, .pointer (some ⟨bp1, 1, none⟩)), (10, 22, p1_h0.v), (11, 23, zI (p1.told_lines.length : Int)), (12, 24, b.1.v), (13, 25, zP bq1), (14, 26, zP bq1), (15, 27, zP bq1), (16, 28, zP bq1), (17, 29, .pointer (some ⟨bq1, 1, none⟩)), (18, 30, q1_h0.v), (19, 31, zI (q1.told_lines.length : Int)), (20, 32, b.2.1.v), (21, 33, b.2.2.2.2.1.v), (22, 34, .tuple #[b.2.2.2.2.2, zI r3.2]), (23, 35, b.2.2.2.2.2), (24, 36, zI r3.2)]; let LL1 : (Nat → Prop) → (Hd × Hd × {zs : List ((List ByteArray) × Hd) // zs.map Prod.fst = r1} × {zs : List ((List ByteArray) × Hd) // zs.map Prod.fst = r2} × Hd × Value) → List Asn := fun D b => [eD D emp [(21, zbx zae zag 48 1 b.2.2.2.2.1.v (r1 ++ r2)), (12, zbx zae zag 48 1 b.1.v r1)], eD D emp [(21, vec zae 48 1 b.2.1.v b.2.2.2.1.1), (20, zbx zae zag 48 1 b.2.1.v r2)], eD D emp [(21, emp)], eD D emp [(21, emp)], eD D emp [(22, zco zau zat 93 b.2.2.2.2.2 r3.1)]]; ?_
 refine zfa (β := Hd × Hd × {zs : List ((List ByteArray) × Hd) // zs.map Prod.fst = r1} × {zs : List ((List ByteArray) × Hd) // zs.map Prod.fst = r2} × Hd × Value) 25 (Hd.nil, Hd.nil, ⟨r1.map (fun x => (x, Hd.nil)), zqc _ _⟩, ⟨r2.map (fun x => (x, Hd.nil)), zqc _ _⟩, Hd.nil, (.slice none 0 0 : Value)) vals1 LL1 mixed kr kr dc (fun _ => rfl) (zaa zdi (zaa zdi (zaa zdi (zaa zdi (zaa zdi rfl))))) (zaC ?_ (zaC ?_ (zaC ?_ (zaC ?_ (zaC ?_ (zaC ?_ (zaC ?_ (zaC ?_ (zaC ?_ (zaC ?_ (zaC ?_ (zaC ?_ (zaC ?_ (zaC ?_ (zaC ?_ (zaC ?_ (zaC ?_ (zaC ?_ (zaC ?_ (zaC ?_ (zaC ?_ (zaC ?_ (zaC ?_ (zaC ?_ (zaC ?_ DrawG.nil))))))))))))))))))))))))) ?_
 ·
  intro D b hn hd hcl
  obtain ⟨hd1, hd2, ⟨zs1, hz1⟩, ⟨zs2, hz2⟩, hd3, v4⟩ := b
  refine zaQ (zaa rfl (zaa rfl (zaa rfl (zaa rfl (zaa (zaq (fun hD => hn (hcl 1 _ rfl (hcl 2 _ rfl (hcl 3 _ rfl (hcl 4 _ rfl (hcl 22 _ rfl hD 4 dc) 3 dc) 2 dc) 1 dc) 0 dc)) zaw) rfl))))) ?_
  refine zah rfl dc (zaE (by rfl) rfl) ?_
  exact zaR (hd1, hd2, ⟨zs1, hz1⟩, ⟨zs2, hz2⟩, hd3, v4) 0 (by rfl) (by rfl) rfl (congrArg (dl D) rfl) (zaa ((zax (by rfl)).trans rfl) (zaa ((zax (by rfl)).trans rfl) (zaa ((zax (by rfl)).trans rfl) (zaa ((zax (by rfl)).trans rfl) (zaa ((zax (by rfl)).trans (zaq (fun hD => hn (hcl 1 _ rfl (hcl 2 _ rfl (hcl 3 _ rfl (hcl 4 _ rfl (hcl 22 _ rfl hD 4 dc) 3 dc) 2 dc) 1 dc) 0 dc)) zaw)) rfl)))))
 ·
  intro D b hn hd hcl
  obtain ⟨hd1, hd2, ⟨zs1, hz1⟩, ⟨zs2, hz2⟩, hd3, v4⟩ := b
  refine zaQ (zaa rfl (zaa rfl (zaa rfl (zaa rfl (zaa (zaq (fun hD => hn (hcl 2 _ rfl (hcl 3 _ rfl (hcl 4 _ rfl (hcl 22 _ rfl hD 4 dc) 3 dc) 2 dc) 1 dc)) zaw) rfl))))) ?_
  refine zaW rfl dc (zab (m := 0) rfl rfl (hd 0 dc)) ?_
  exact zaR (hd1, hd2, ⟨zs1, hz1⟩, ⟨zs2, hz2⟩, hd3, v4) 1 (by rfl) (by rfl) rfl (congrArg (dl D) rfl) (zaa ((zax (by rfl)).trans rfl) (zaa ((zax (by rfl)).trans rfl) (zaa ((zax (by rfl)).trans rfl) (zaa ((zax (by rfl)).trans rfl) (zaa ((zax (by rfl)).trans (zaq (fun hD => hn (hcl 2 _ rfl (hcl 3 _ rfl (hcl 4 _ rfl (hcl 22 _ rfl hD 4 dc) 3 dc) 2 dc) 1 dc)) zaw)) rfl)))))
 ·
  intro D b hn hd hcl
  obtain ⟨hd1, hd2, ⟨zs1, hz1⟩, ⟨zs2, hz2⟩, hd3, v4⟩ := b
  refine zaQ (zaa rfl (zaa rfl (zaa rfl (zaa rfl (zaa (zaq (fun hD => hn (hcl 3 _ rfl (hcl 4 _ rfl (hcl 22 _ rfl hD 4 dc) 3 dc) 2 dc)) zaw) rfl))))) ?_
  refine zar zbS rfl dc (zab (m := 1) rfl rfl (hd 1 dc)) (show _ = 0 from rfl) ?_
  exact zaR (hd1, hd2, ⟨zs1, hz1⟩, ⟨zs2, hz2⟩, hd3, v4) 2 (by rfl) (by rfl) rfl (congrArg (dl D) rfl) (zaa ((zax (by rfl)).trans rfl) (zaa ((zax (by rfl)).trans rfl) (zaa ((zax (by rfl)).trans rfl) (zaa ((zax (by rfl)).trans rfl) (zaa ((zax (by rfl)).trans (zaq (fun hD => hn (hcl 3 _ rfl (hcl 4 _ rfl (hcl 22 _ rfl hD 4 dc) 3 dc) 2 dc)) zaw)) rfl)))))
 ·
  intro D b hn hd hcl
  obtain ⟨hd1, hd2, ⟨zs1, hz1⟩, ⟨zs2, hz2⟩, hd3, v4⟩ := b
  refine zaQ (zaa rfl (zaa rfl (zaa rfl (zaa rfl (zaa (zaq (fun hD => hn (hcl 4 _ rfl (hcl 22 _ rfl hD 4 dc) 3 dc)) zaw) rfl))))) ?_
  refine zar zfn rfl dc (zab (m := 2) rfl rfl (hd 2 dc)) (show _ = 0 from rfl) ?_
  exact zaR (hd1, hd2, ⟨zs1, hz1⟩, ⟨zs2, hz2⟩, hd3, v4) 3 (by rfl) (by rfl) rfl (congrArg (dl D) rfl) (zaa ((zax (by rfl)).trans rfl) (zaa ((zax (by rfl)).trans rfl) (zaa ((zax (by rfl)).trans rfl) (zaa ((zax (by rfl)).trans rfl) (zaa ((zax (by rfl)).trans (zaq (fun hD => hn (hcl 4 _ rfl (hcl 22 _ rfl hD 4 dc) 3 dc)) zaw)) rfl)))))
 ·
  intro D b hn hd hcl
  obtain ⟨hd1, hd2, ⟨zs1, hz1⟩, ⟨zs2, hz2⟩, hd3, v4⟩ := b
  refine zaQ (zaa rfl (zaa rfl (zaa rfl (zaa rfl (zaa (zaq (fun hD => hn (hcl 22 _ rfl hD 4 dc)) zaw) rfl))))) ?_
  refine zbq (i := 0) hrd rfl zgm rfl dc (zab (m := 3) rfl rfl (hd 3 dc)) rfl ?_
  exact zaR (hd1, hd2, ⟨zs1, hz1⟩, ⟨zs2, hz2⟩, hd3, v4) 4 (by rfl) (by rfl) rfl (congrArg (dl D) rfl) (zaa ((zax (by rfl)).trans rfl) (zaa ((zax (by rfl)).trans rfl) (zaa ((zax (by rfl)).trans rfl) (zaa ((zax (by rfl)).trans rfl) (zaa ((zax (by rfl)).trans (zaq (fun hD => hn (hcl 22 _ rfl hD 4 dc)) zaw)) rfl)))))
 ·
  intro D b hn hd hcl
  obtain ⟨hd1, hd2, ⟨zs1, hz1⟩, ⟨zs2, hz2⟩, hd3, v4⟩ := b
  refine zaQ (zaa (zaq (fun hD => hn (hcl 12 _ rfl (hcl 21 _ rfl hD 12 dc) 5 dc)) (zaq (fun hD => hn (hcl 12 _ rfl hD 5 dc)) zaw)) (zaa (zaq (fun hD => hn (hcl 12 _ rfl (hcl 21 _ rfl hD 12 dc) 5 dc)) (zaq (fun hD => hn (hcl 12 _ rfl (hcl 20 _ rfl hD 12 dc) 5 dc)) zaw)) (zaa (zaq (fun hD => hn (hcl 12 _ rfl (hcl 21 _ rfl hD 12 dc) 5 dc)) zaw) (zaa (zaq (fun hD => hn (hcl 12 _ rfl (hcl 21 _ rfl hD 12 dc) 5 dc)) zaw) (zaa (zaq (fun hD => hn (hcl 12 _ rfl (hcl 21 _ rfl (hcl 22 _ rfl hD 21 dc) 12 dc) 5 dc)) zaw) rfl))))) ?_
  refine zah rfl dc (zaE (by rfl) rfl) ?_
  exact zaR (hd1, hd2, ⟨zs1, hz1⟩, ⟨zs2, hz2⟩, hd3, v4) 5 (by rfl) (by rfl) rfl (congrArg (dl D) rfl) (zaa ((zax (by rfl)).trans (zaq (fun hD => hn (hcl 12 _ rfl (hcl 21 _ rfl hD 12 dc) 5 dc)) (zaq (fun hD => hn (hcl 12 _ rfl hD 5 dc)) zaw))) (zaa ((zax (by rfl)).trans (zaq (fun hD => hn (hcl 12 _ rfl (hcl 21 _ rfl hD 12 dc) 5 dc)) (zaq (fun hD => hn (hcl 12 _ rfl (hcl 20 _ rfl hD 12 dc) 5 dc)) zaw))) (zaa ((zax (by rfl)).trans (zaq (fun hD => hn (hcl 12 _ rfl (hcl 21 _ rfl hD 12 dc) 5 dc)) zaw)) (zaa ((zax (by rfl)).trans (zaq (fun hD => hn (hcl 12 _ rfl (hcl 21 _ rfl hD 12 dc) 5 dc)) zaw)) (zaa ((zax (by rfl)).trans (zaq (fun hD => hn (hcl 12 _ rfl (hcl 21 _ rfl (hcl 22 _ rfl hD 21 dc) 12 dc) 5 dc)) zaw)) rfl)))))
 ·
  intro D b hn hd hcl
  obtain ⟨hd1, hd2, ⟨zs1, hz1⟩, ⟨zs2, hz2⟩, hd3, v4⟩ := b
  refine zaQ (zaa (zaq (fun hD => hn (hcl 7 _ rfl (hcl 8 _ rfl (hcl 9 _ rfl (hcl 10 _ rfl (hcl 11 _ rfl (hcl 12 _ rfl (hcl 21 _ rfl hD 12 dc) 11 dc) 10 dc) 9 dc) 8 dc) 7 dc) 6 dc)) (zaq (fun hD => hn (hcl 7 _ rfl (hcl 8 _ rfl (hcl 9 _ rfl (hcl 10 _ rfl (hcl 11 _ rfl (hcl 12 _ rfl hD 11 dc) 10 dc) 9 dc) 8 dc) 7 dc) 6 dc)) zaw)) (zaa (zaq (fun hD => hn (hcl 7 _ rfl (hcl 8 _ rfl (hcl 9 _ rfl (hcl 10 _ rfl (hcl 11 _ rfl (hcl 12 _ rfl (hcl 21 _ rfl hD 12 dc) 11 dc) 10 dc) 9 dc) 8 dc) 7 dc) 6 dc)) (zaq (fun hD => hn (hcl 7 _ rfl (hcl 8 _ rfl (hcl 9 _ rfl (hcl 10 _ rfl (hcl 11 _ rfl (hcl 12 _ rfl (hcl 20 _ rfl hD 12 dc) 11 dc) 10 dc) 9 dc) 8 dc) 7 dc) 6 dc)) zaw)) (zaa (zaq (fun hD => hn (hcl 7 _ rfl (hcl 8 _ rfl (hcl 9 _ rfl (hcl 10 _ rfl (hcl 11 _ rfl (hcl 12 _ rfl (hcl 21 _ rfl hD 12 dc) 11 dc) 10 dc) 9 dc) 8 dc) 7 dc) 6 dc)) zaw) (zaa (zaq (fun hD => hn (hcl 7 _ rfl (hcl 8 _ rfl (hcl 9 _ rfl (hcl 10 _ rfl (hcl 11 _ rfl (hcl 12 _ rfl (hcl 21 _ rfl hD 12 dc) 11 dc) 10 dc) 9 dc) 8 dc) 7 dc) 6 dc)) zaw) (zaa (zaq (fun hD => hn (hcl 7 _ rfl (hcl 8 _ rfl (hcl 9 _ rfl (hcl 10 _ rfl (hcl 11 _ rfl (hcl 12 _ rfl (hcl 21 _ rfl (hcl 22 _ rfl hD 21 dc) 12 dc) 11 dc) 10 dc) 9 dc) 8 dc) 7 dc) 6 dc)) zaw) rfl))))) ?_
  refine zah rfl dc (zaE (by rfl) rfl) ?_
  exact zaR (hd1, hd2, ⟨zs1, hz1⟩, ⟨zs2, hz2⟩, hd3, v4) 6 (by rfl) (by rfl) rfl (congrArg (dl D) rfl) (zaa ((zax (by rfl)).trans (zaq (fun hD => hn (hcl 7 _ rfl (hcl 8 _ rfl (hcl 9 _ rfl (hcl 10 _ rfl (hcl 11 _ rfl (hcl 12 _ rfl (hcl 21 _ rfl hD 12 dc) 11 dc) 10 dc) 9 dc) 8 dc) 7 dc) 6 dc)) (zaq (fun hD => hn (hcl 7 _ rfl (hcl 8 _ rfl (hcl 9 _ rfl (hcl 10 _ rfl (hcl 11 _ rfl (hcl 12 _ rfl hD 11 dc) 10 dc) 9 dc) 8 dc) 7 dc) 6 dc)) zaw))) (zaa ((zax (by rfl)).trans (zaq (fun hD => hn (hcl 7 _ rfl (hcl 8 _ rfl (hcl 9 _ rfl (hcl 10 _ rfl (hcl 11 _ rfl (hcl 12 _ rfl (hcl 21 _ rfl hD 12 dc) 11 dc) 10 dc) 9 dc) 8 dc) 7 dc) 6 dc)) (zaq (fun hD => hn (hcl 7 _ rfl (hcl 8 _ rfl (hcl 9 _ rfl (hcl 10 _ rfl (hcl 11 _ rfl (hcl 12 _ rfl (hcl 20 _ rfl hD 12 dc) 11 dc) 10 dc) 9 dc) 8 dc) 7 dc) 6 dc)) zaw))) (zaa ((zax (by rfl)).trans (zaq (fun hD => hn (hcl 7 _ rfl (hcl 8 _ rfl (hcl 9 _ rfl (hcl 10 _ rfl (hcl 11 _ rfl (hcl 12 _ rfl (hcl 21 _ rfl hD 12 dc) 11 dc) 10 dc) 9 dc) 8 dc) 7 dc) 6 dc)) zaw)) (zaa ((zax (by rfl)).trans (zaq (fun hD => hn (hcl 7 _ rfl (hcl 8 _ rfl (hcl 9 _ rfl (hcl 10 _ rfl (hcl 11 _ rfl (hcl 12 _ rfl (hcl 21 _ rfl hD 12 dc) 11 dc) 10 dc) 9 dc) 8 dc) 7 dc) 6 dc)) zaw)) (zaa ((zax (by rfl)).trans (zaq (fun hD => hn (hcl 7 _ rfl (hcl 8 _ rfl (hcl 9 _ rfl (hcl 10 _ rfl (hcl 11 _ rfl (hcl 12 _ rfl (hcl 21 _ rfl (hcl 22 _ rfl hD 21 dc) 12 dc) 11 dc) 10 dc) 9 dc) 8 dc) 7 dc) 6 dc)) zaw)) rfl)))))
 ·
  intro D b hn hd hcl
  obtain ⟨hd1, hd2, ⟨zs1, hz1⟩, ⟨zs2, hz2⟩, hd3, v4⟩ := b
  refine zaQ (zaa (zaq (fun hD => hn (hcl 8 _ rfl (hcl 9 _ rfl (hcl 10 _ rfl (hcl 11 _ rfl (hcl 12 _ rfl (hcl 21 _ rfl hD 12 dc) 11 dc) 10 dc) 9 dc) 8 dc) 7 dc)) (zaq (fun hD => hn (hcl 8 _ rfl (hcl 9 _ rfl (hcl 10 _ rfl (hcl 11 _ rfl (hcl 12 _ rfl hD 11 dc) 10 dc) 9 dc) 8 dc) 7 dc)) zaw)) (zaa (zaq (fun hD => hn (hcl 8 _ rfl (hcl 9 _ rfl (hcl 10 _ rfl (hcl 11 _ rfl (hcl 12 _ rfl (hcl 21 _ rfl hD 12 dc) 11 dc) 10 dc) 9 dc) 8 dc) 7 dc)) (zaq (fun hD => hn (hcl 8 _ rfl (hcl 9 _ rfl (hcl 10 _ rfl (hcl 11 _ rfl (hcl 12 _ rfl (hcl 20 _ rfl hD 12 dc) 11 dc) 10 dc) 9 dc) 8 dc) 7 dc)) zaw)) (zaa (zaq (fun hD => hn (hcl 8 _ rfl (hcl 9 _ rfl (hcl 10 _ rfl (hcl 11 _ rfl (hcl 12 _ rfl (hcl 21 _ rfl hD 12 dc) 11 dc) 10 dc) 9 dc) 8 dc) 7 dc)) zaw) (zaa (zaq (fun hD => hn (hcl 8 _ rfl (hcl 9 _ rfl (hcl 10 _ rfl (hcl 11 _ rfl (hcl 12 _ rfl (hcl 21 _ rfl hD 12 dc) 11 dc) 10 dc) 9 dc) 8 dc) 7 dc)) zaw) (zaa (zaq (fun hD => hn (hcl 8 _ rfl (hcl 9 _ rfl (hcl 10 _ rfl (hcl 11 _ rfl (hcl 12 _ rfl (hcl 21 _ rfl (hcl 22 _ rfl hD 21 dc) 12 dc) 11 dc) 10 dc) 9 dc) 8 dc) 7 dc)) zaw) rfl))))) ?_
  refine zaW rfl dc (zab (m := 6) rfl rfl (hd 6 dc)) ?_
  exact zaR (hd1, hd2, ⟨zs1, hz1⟩, ⟨zs2, hz2⟩, hd3, v4) 7 (by rfl) (by rfl) rfl (congrArg (dl D) rfl) (zaa ((zax (by rfl)).trans (zaq (fun hD => hn (hcl 8 _ rfl (hcl 9 _ rfl (hcl 10 _ rfl (hcl 11 _ rfl (hcl 12 _ rfl (hcl 21 _ rfl hD 12 dc) 11 dc) 10 dc) 9 dc) 8 dc) 7 dc)) (zaq (fun hD => hn (hcl 8 _ rfl (hcl 9 _ rfl (hcl 10 _ rfl (hcl 11 _ rfl (hcl 12 _ rfl hD 11 dc) 10 dc) 9 dc) 8 dc) 7 dc)) zaw))) (zaa ((zax (by rfl)).trans (zaq (fun hD => hn (hcl 8 _ rfl (hcl 9 _ rfl (hcl 10 _ rfl (hcl 11 _ rfl (hcl 12 _ rfl (hcl 21 _ rfl hD 12 dc) 11 dc) 10 dc) 9 dc) 8 dc) 7 dc)) (zaq (fun hD => hn (hcl 8 _ rfl (hcl 9 _ rfl (hcl 10 _ rfl (hcl 11 _ rfl (hcl 12 _ rfl (hcl 20 _ rfl hD 12 dc) 11 dc) 10 dc) 9 dc) 8 dc) 7 dc)) zaw))) (zaa ((zax (by rfl)).trans (zaq (fun hD => hn (hcl 8 _ rfl (hcl 9 _ rfl (hcl 10 _ rfl (hcl 11 _ rfl (hcl 12 _ rfl (hcl 21 _ rfl hD 12 dc) 11 dc) 10 dc) 9 dc) 8 dc) 7 dc)) zaw)) (zaa ((zax (by rfl)).trans (zaq (fun hD => hn (hcl 8 _ rfl (hcl 9 _ rfl (hcl 10 _ rfl (hcl 11 _ rfl (hcl 12 _ rfl (hcl 21 _ rfl hD 12 dc) 11 dc) 10 dc) 9 dc) 8 dc) 7 dc)) zaw)) (zaa ((zax (by rfl)).trans (zaq (fun hD => hn (hcl 8 _ rfl (hcl 9 _ rfl (hcl 10 _ rfl (hcl 11 _ rfl (hcl 12 _ rfl (hcl 21 _ rfl (hcl 22 _ rfl hD 21 dc) 12 dc) 11 dc) 10 dc) 9 dc) 8 dc) 7 dc)) zaw)) rfl)))))
 ·
  intro D b hn hd hcl
  obtain ⟨hd1, hd2, ⟨zs1, hz1⟩, ⟨zs2, hz2⟩, hd3, v4⟩ := b
  refine zaQ (zaa (zaq (fun hD => hn (hcl 9 _ rfl (hcl 10 _ rfl (hcl 11 _ rfl (hcl 12 _ rfl (hcl 21 _ rfl hD 12 dc) 11 dc) 10 dc) 9 dc) 8 dc)) (zaq (fun hD => hn (hcl 9 _ rfl (hcl 10 _ rfl (hcl 11 _ rfl (hcl 12 _ rfl hD 11 dc) 10 dc) 9 dc) 8 dc)) zaw)) (zaa (zaq (fun hD => hn (hcl 9 _ rfl (hcl 10 _ rfl (hcl 11 _ rfl (hcl 12 _ rfl (hcl 21 _ rfl hD 12 dc) 11 dc) 10 dc) 9 dc) 8 dc)) (zaq (fun hD => hn (hcl 9 _ rfl (hcl 10 _ rfl (hcl 11 _ rfl (hcl 12 _ rfl (hcl 20 _ rfl hD 12 dc) 11 dc) 10 dc) 9 dc) 8 dc)) zaw)) (zaa (zaq (fun hD => hn (hcl 9 _ rfl (hcl 10 _ rfl (hcl 11 _ rfl (hcl 12 _ rfl (hcl 21 _ rfl hD 12 dc) 11 dc) 10 dc) 9 dc) 8 dc)) zaw) (zaa (zaq (fun hD => hn (hcl 9 _ rfl (hcl 10 _ rfl (hcl 11 _ rfl (hcl 12 _ rfl (hcl 21 _ rfl hD 12 dc) 11 dc) 10 dc) 9 dc) 8 dc)) zaw) (zaa (zaq (fun hD => hn (hcl 9 _ rfl (hcl 10 _ rfl (hcl 11 _ rfl (hcl 12 _ rfl (hcl 21 _ rfl (hcl 22 _ rfl hD 21 dc) 12 dc) 11 dc) 10 dc) 9 dc) 8 dc)) zaw) rfl))))) ?_
  refine zar zbS rfl dc (zab (m := 7) rfl rfl (hd 7 dc)) (show _ = 0 from rfl) ?_
  exact zaR (hd1, hd2, ⟨zs1, hz1⟩, ⟨zs2, hz2⟩, hd3, v4) 8 (by rfl) (by rfl) rfl (congrArg (dl D) rfl) (zaa ((zax (by rfl)).trans (zaq (fun hD => hn (hcl 9 _ rfl (hcl 10 _ rfl (hcl 11 _ rfl (hcl 12 _ rfl (hcl 21 _ rfl hD 12 dc) 11 dc) 10 dc) 9 dc) 8 dc)) (zaq (fun hD => hn (hcl 9 _ rfl (hcl 10 _ rfl (hcl 11 _ rfl (hcl 12 _ rfl hD 11 dc) 10 dc) 9 dc) 8 dc)) zaw))) (zaa ((zax (by rfl)).trans (zaq (fun hD => hn (hcl 9 _ rfl (hcl 10 _ rfl (hcl 11 _ rfl (hcl 12 _ rfl (hcl 21 _ rfl hD 12 dc) 11 dc) 10 dc) 9 dc) 8 dc)) (zaq (fun hD => hn (hcl 9 _ rfl (hcl 10 _ rfl (hcl 11 _ rfl (hcl 12 _ rfl (hcl 20 _ rfl hD 12 dc) 11 dc) 10 dc) 9 dc) 8 dc)) zaw))) (zaa ((zax (by rfl)).trans (zaq (fun hD => hn (hcl 9 _ rfl (hcl 10 _ rfl (hcl 11 _ rfl (hcl 12 _ rfl (hcl 21 _ rfl hD 12 dc) 11 dc) 10 dc) 9 dc) 8 dc)) zaw)) (zaa ((zax (by rfl)).trans (zaq (fun hD => hn (hcl 9 _ rfl (hcl 10 _ rfl (hcl 11 _ rfl (hcl 12 _ rfl (hcl 21 _ rfl hD 12 dc) 11 dc) 10 dc) 9 dc) 8 dc)) zaw)) (zaa ((zax (by rfl)).trans (zaq (fun hD => hn (hcl 9 _ rfl (hcl 10 _ rfl (hcl 11 _ rfl (hcl 12 _ rfl (hcl 21 _ rfl (hcl 22 _ rfl hD 21 dc) 12 dc) 11 dc) 10 dc) 9 dc) 8 dc)) zaw)) rfl)))))
 ·
  intro D b hn hd hcl
  obtain ⟨hd1, hd2, ⟨zs1, hz1⟩, ⟨zs2, hz2⟩, hd3, v4⟩ := b
  refine zaQ (zaa (zaq (fun hD => hn (hcl 10 _ rfl (hcl 11 _ rfl (hcl 12 _ rfl (hcl 21 _ rfl hD 12 dc) 11 dc) 10 dc) 9 dc)) (zaq (fun hD => hn (hcl 10 _ rfl (hcl 11 _ rfl (hcl 12 _ rfl hD 11 dc) 10 dc) 9 dc)) zaw)) (zaa (zaq (fun hD => hn (hcl 10 _ rfl (hcl 11 _ rfl (hcl 12 _ rfl (hcl 21 _ rfl hD 12 dc) 11 dc) 10 dc) 9 dc)) (zaq (fun hD => hn (hcl 10 _ rfl (hcl 11 _ rfl (hcl 12 _ rfl (hcl 20 _ rfl hD 12 dc) 11 dc) 10 dc) 9 dc)) zaw)) (zaa (zaq (fun hD => hn (hcl 10 _ rfl (hcl 11 _ rfl (hcl 12 _ rfl (hcl 21 _ rfl hD 12 dc) 11 dc) 10 dc) 9 dc)) zaw) (zaa (zaq (fun hD => hn (hcl 10 _ rfl (hcl 11 _ rfl (hcl 12 _ rfl (hcl 21 _ rfl hD 12 dc) 11 dc) 10 dc) 9 dc)) zaw) (zaa (zaq (fun hD => hn (hcl 10 _ rfl (hcl 11 _ rfl (hcl 12 _ rfl (hcl 21 _ rfl (hcl 22 _ rfl hD 21 dc) 12 dc) 11 dc) 10 dc) 9 dc)) zaw) rfl))))) ?_
  refine zar zdB rfl dc (zab (m := 8) rfl rfl (hd 8 dc)) (show _ = 1 from rfl) ?_
  exact zaR (hd1, hd2, ⟨zs1, hz1⟩, ⟨zs2, hz2⟩, hd3, v4) 9 (by rfl) (by rfl) rfl (congrArg (dl D) rfl) (zaa ((zax (by rfl)).trans (zaq (fun hD => hn (hcl 10 _ rfl (hcl 11 _ rfl (hcl 12 _ rfl (hcl 21 _ rfl hD 12 dc) 11 dc) 10 dc) 9 dc)) (zaq (fun hD => hn (hcl 10 _ rfl (hcl 11 _ rfl (hcl 12 _ rfl hD 11 dc) 10 dc) 9 dc)) zaw))) (zaa ((zax (by rfl)).trans (zaq (fun hD => hn (hcl 10 _ rfl (hcl 11 _ rfl (hcl 12 _ rfl (hcl 21 _ rfl hD 12 dc) 11 dc) 10 dc) 9 dc)) (zaq (fun hD => hn (hcl 10 _ rfl (hcl 11 _ rfl (hcl 12 _ rfl (hcl 20 _ rfl hD 12 dc) 11 dc) 10 dc) 9 dc)) zaw))) (zaa ((zax (by rfl)).trans (zaq (fun hD => hn (hcl 10 _ rfl (hcl 11 _ rfl (hcl 12 _ rfl (hcl 21 _ rfl hD 12 dc) 11 dc) 10 dc) 9 dc)) zaw)) (zaa ((zax (by rfl)).trans (zaq (fun hD => hn (hcl 10 _ rfl (hcl 11 _ rfl (hcl 12 _ rfl (hcl 21 _ rfl hD 12 dc) 11 dc) 10 dc) 9 dc)) zaw)) (zaa ((zax (by rfl)).trans (zaq (fun hD => hn (hcl 10 _ rfl (hcl 11 _ rfl (hcl 12 _ rfl (hcl 21 _ rfl (hcl 22 _ rfl hD 21 dc) 12 dc) 11 dc) 10 dc) 9 dc)) zaw)) rfl)))))
 ·
  intro D b hn hd hcl
  obtain ⟨hd1, hd2, ⟨zs1, hz1⟩, ⟨zs2, hz2⟩, hd3, v4⟩ := b
  refine zaQ (zaa (zaq (fun hD => hn (hcl 11 _ rfl (hcl 12 _ rfl (hcl 21 _ rfl hD 12 dc) 11 dc) 10 dc)) (zaq (fun hD => hn (hcl 11 _ rfl (hcl 12 _ rfl hD 11 dc) 10 dc)) zaw)) (zaa (zaq (fun hD => hn (hcl 11 _ rfl (hcl 12 _ rfl (hcl 21 _ rfl hD 12 dc) 11 dc) 10 dc)) (zaq (fun hD => hn (hcl 11 _ rfl (hcl 12 _ rfl (hcl 20 _ rfl hD 12 dc) 11 dc) 10 dc)) zaw)) (zaa (zaq (fun hD => hn (hcl 11 _ rfl (hcl 12 _ rfl (hcl 21 _ rfl hD 12 dc) 11 dc) 10 dc)) zaw) (zaa (zaq (fun hD => hn (hcl 11 _ rfl (hcl 12 _ rfl (hcl 21 _ rfl hD 12 dc) 11 dc) 10 dc)) zaw) (zaa (zaq (fun hD => hn (hcl 11 _ rfl (hcl 12 _ rfl (hcl 21 _ rfl (hcl 22 _ rfl hD 21 dc) 12 dc) 11 dc) 10 dc)) zaw) rfl))))) ?_
  refine zbq (i := 0) hrd rfl zew rfl dc (zab (m := 9) rfl rfl (hd 9 dc)) rfl ?_
  exact zaR (hd1, hd2, ⟨zs1, hz1⟩, ⟨zs2, hz2⟩, hd3, v4) 10 (by rfl) (by rfl) rfl (congrArg (dl D) rfl) (zaa ((zax (by rfl)).trans (zaq (fun hD => hn (hcl 11 _ rfl (hcl 12 _ rfl (hcl 21 _ rfl hD 12 dc) 11 dc) 10 dc)) (zaq (fun hD => hn (hcl 11 _ rfl (hcl 12 _ rfl hD 11 dc) 10 dc)) zaw))) (zaa ((zax (by rfl)).trans (zaq (fun hD => hn (hcl 11 _ rfl (hcl 12 _ rfl (hcl 21 _ rfl hD 12 dc) 11 dc) 10 dc)) (zaq (fun hD => hn (hcl 11 _ rfl (hcl 12 _ rfl (hcl 20 _ rfl hD 12 dc) 11 dc) 10 dc)) zaw))) (zaa ((zax (by rfl)).trans (zaq (fun hD => hn (hcl 11 _ rfl (hcl 12 _ rfl (hcl 21 _ rfl hD 12 dc) 11 dc) 10 dc)) zaw)) (zaa ((zax (by rfl)).trans (zaq (fun hD => hn (hcl 11 _ rfl (hcl 12 _ rfl (hcl 21 _ rfl hD 12 dc) 11 dc) 10 dc)) zaw)) (zaa ((zax (by rfl)).trans (zaq (fun hD => hn (hcl 11 _ rfl (hcl 12 _ rfl (hcl 21 _ rfl (hcl 22 _ rfl hD 21 dc) 12 dc) 11 dc) 10 dc)) zaw)) rfl)))))
 ·
  intro D b hn hd hcl
  obtain ⟨hd1, hd2, ⟨zs1, hz1⟩, ⟨zs2, hz2⟩, hd3, v4⟩ := b
  refine zaQ (zaa (zaq (fun hD => hn (hcl 12 _ rfl (hcl 21 _ rfl hD 12 dc) 11 dc)) (zaq (fun hD => hn (hcl 12 _ rfl hD 11 dc)) zaw)) (zaa (zaq (fun hD => hn (hcl 12 _ rfl (hcl 21 _ rfl hD 12 dc) 11 dc)) (zaq (fun hD => hn (hcl 12 _ rfl (hcl 20 _ rfl hD 12 dc) 11 dc)) zaw)) (zaa (zaq (fun hD => hn (hcl 12 _ rfl (hcl 21 _ rfl hD 12 dc) 11 dc)) zaw) (zaa (zaq (fun hD => hn (hcl 12 _ rfl (hcl 21 _ rfl hD 12 dc) 11 dc)) zaw) (zaa (zaq (fun hD => hn (hcl 12 _ rfl (hcl 21 _ rfl (hcl 22 _ rfl hD 21 dc) 12 dc) 11 dc)) zaw) rfl))))) ?_
  refine zbG (hrd.vw (i := 1) rfl) rfl dc (zab (m := 10) rfl rfl (hd 10 dc)) Tryd.underlying57 ?_
  exact zaR (hd1, hd2, ⟨zs1, hz1⟩, ⟨zs2, hz2⟩, hd3, v4) 11 (by rfl) (by rfl) rfl (congrArg (dl D) rfl) (zaa ((zax (by rfl)).trans (zaq (fun hD => hn (hcl 12 _ rfl (hcl 21 _ rfl hD 12 dc) 11 dc)) (zaq (fun hD => hn (hcl 12 _ rfl hD 11 dc)) zaw))) (zaa ((zax (by rfl)).trans (zaq (fun hD => hn (hcl 12 _ rfl (hcl 21 _ rfl hD 12 dc) 11 dc)) (zaq (fun hD => hn (hcl 12 _ rfl (hcl 20 _ rfl hD 12 dc) 11 dc)) zaw))) (zaa ((zax (by rfl)).trans (zaq (fun hD => hn (hcl 12 _ rfl (hcl 21 _ rfl hD 12 dc) 11 dc)) zaw)) (zaa ((zax (by rfl)).trans (zaq (fun hD => hn (hcl 12 _ rfl (hcl 21 _ rfl hD 12 dc) 11 dc)) zaw)) (zaa ((zax (by rfl)).trans (zaq (fun hD => hn (hcl 12 _ rfl (hcl 21 _ rfl (hcl 22 _ rfl hD 21 dc) 12 dc) 11 dc)) zaw)) rfl)))))
 ·
  intro D b hn hd hcl
  obtain ⟨_, hd2, ⟨zs1, hz1⟩, ⟨zs2, hz2⟩, hd3, v4⟩ := b
  refine zaQ (zaa (zaq (fun hD => hn (hcl 21 _ rfl hD 12 dc)) (zaq hn zaw)) (zaa (zaq (fun hD => hn (hcl 21 _ rfl hD 12 dc)) (zaq (fun hD => hn (hcl 20 _ rfl hD 12 dc)) zaw)) (zaa (zaq (fun hD => hn (hcl 21 _ rfl hD 12 dc)) zaw) (zaa (zaq (fun hD => hn (hcl 21 _ rfl hD 12 dc)) zaw) (zaa (zaq (fun hD => hn (hcl 21 _ rfl (hcl 22 _ rfl hD 21 dc) 12 dc)) zaw) rfl))))) ?_
  refine zdw (vs := [zP bp1, zI 0, zI (p1.told_lines.length : Int)]) hrd rfl dc rfl (evL.cons (zab (m := 5) rfl rfl (hd 5 dc)) (evL.cons rfl (evL.cons (zab (m := 11) rfl rfl (hd 11 dc)) evL.nil))) rfl zmI (zdG (bp1 := bp1) (p1 := p1) (p1_h0 := p1_h0) (p1_h1 := p1_h1) hq1) Splits.nil (.ro 0 rfl (.ro 1 rfl (.ro 2 rfl .nil))) ?_
  rintro v1
  show TO _ _ _ _ _ _ _ _ _ _ [emp, emp, emp, emp, emp, zbx zae zag 48 1 v1 r1]
  refine zbw (L' := [emp, emp, emp, emp, emp, zbx zae zag 48 1 v1 r1]) (zal [0, 1, 2, 3, 4, 5] kr rfl) ?_
  refine zfN (k := 5) rfl (fun hd1 he1 => ?_)
  subst he1
  refine zd5 0 rfl rfl ?_
  show TO _ _ _ _ _ _ _ _ _ _ [zbx zae zag 48 1 hd1.v r1, emp, emp, emp, emp]
  exact zaR (hd1, hd2, ⟨zs1, hz1⟩, ⟨zs2, hz2⟩, hd3, v4) 12 (by rfl) (by rfl) rfl (zao (fun _ => rfl) (zao (fun _ => rfl) (zao (fun _ => rfl) (zao (fun _ => rfl) (zao (fun _ => rfl) (zao (fun _ => rfl) (zao (fun _ => rfl) (zao (fun _ => rfl) (zao (fun _ => rfl) (zao (fun _ => rfl) (zao (fun _ => rfl) (zao (fun _ => rfl) (zao (fun hD => absurd hD hn) (congrArg (dl D) rfl)))))))))))))) (zaa (zaq (fun h => h.elim (fun hD => hn (hcl 21 _ rfl hD 12 dc)) (fun h => absurd h dc)) (zbb (Or.inr rfl) rfl)) (zaa ((zax (by rfl)).trans (zaq (fun hD => hn (hcl 21 _ rfl hD 12 dc)) (zaq (fun hD => hn (hcl 20 _ rfl hD 12 dc)) zaw))) (zaa ((zax (by rfl)).trans (zaq (fun hD => hn (hcl 21 _ rfl hD 12 dc)) zaw)) (zaa ((zax (by rfl)).trans (zaq (fun hD => hn (hcl 21 _ rfl hD 12 dc)) zaw)) (zaa ((zax (by rfl)).trans (zaq (fun hD => hn (hcl 21 _ rfl (hcl 22 _ rfl hD 21 dc) 12 dc)) zaw)) rfl)))))
 ·
  intro D b hn hd hcl
  obtain ⟨hd1, hd2, ⟨zs1, hz1⟩, ⟨zs2, hz2⟩, hd3, v4⟩ := b
  refine zaQ (zaa (zaq (fun hD => hn (hcl 20 _ rfl (hcl 21 _ rfl hD 20 dc) 13 dc)) rfl) (zaa (zaq (fun hD => hn (hcl 20 _ rfl (hcl 21 _ rfl hD 20 dc) 13 dc)) (zaq (fun hD => hn (hcl 20 _ rfl hD 13 dc)) zaw)) (zaa (zaq (fun hD => hn (hcl 20 _ rfl (hcl 21 _ rfl hD 20 dc) 13 dc)) zaw) (zaa (zaq (fun hD => hn (hcl 20 _ rfl (hcl 21 _ rfl hD 20 dc) 13 dc)) zaw) (zaa (zaq (fun hD => hn (hcl 20 _ rfl (hcl 21 _ rfl (hcl 22 _ rfl hD 21 dc) 20 dc) 13 dc)) zaw) rfl))))) ?_
  refine zah rfl dc (zaE (by rfl) rfl) ?_
  exact zaR (hd1, hd2, ⟨zs1, hz1⟩, ⟨zs2, hz2⟩, hd3, v4) 13 (by rfl) (by rfl) rfl (congrArg (dl D) rfl) (zaa ((zax (by rfl)).trans (zaq (fun hD => hn (hcl 20 _ rfl (hcl 21 _ rfl hD 20 dc) 13 dc)) rfl)) (zaa ((zax (by rfl)).trans (zaq (fun hD => hn (hcl 20 _ rfl (hcl 21 _ rfl hD 20 dc) 13 dc)) (zaq (fun hD => hn (hcl 20 _ rfl hD 13 dc)) zaw))) (zaa ((zax (by rfl)).trans (zaq (fun hD => hn (hcl 20 _ rfl (hcl 21 _ rfl hD 20 dc) 13 dc)) zaw)) (zaa ((zax (by rfl)).trans (zaq (fun hD => hn (hcl 20 _ rfl (hcl 21 _ rfl hD 20 dc) 13 dc)) zaw)) (zaa ((zax (by rfl)).trans (zaq (fun hD => hn (hcl 20 _ rfl (hcl 21 _ rfl (hcl 22 _ rfl hD 21 dc) 20 dc) 13 dc)) zaw)) rfl)))))
 ·
  intro D b hn hd hcl
  obtain ⟨hd1, hd2, ⟨zs1, hz1⟩, ⟨zs2, hz2⟩, hd3, v4⟩ := b
  refine zaQ (zaa (zaq (fun hD => hn (hcl 15 _ rfl (hcl 16 _ rfl (hcl 17 _ rfl (hcl 18 _ rfl (hcl 19 _ rfl (hcl 20 _ rfl (hcl 21 _ rfl hD 20 dc) 19 dc) 18 dc) 17 dc) 16 dc) 15 dc) 14 dc)) rfl) (zaa (zaq (fun hD => hn (hcl 15 _ rfl (hcl 16 _ rfl (hcl 17 _ rfl (hcl 18 _ rfl (hcl 19 _ rfl (hcl 20 _ rfl (hcl 21 _ rfl hD 20 dc) 19 dc) 18 dc) 17 dc) 16 dc) 15 dc) 14 dc)) (zaq (fun hD => hn (hcl 15 _ rfl (hcl 16 _ rfl (hcl 17 _ rfl (hcl 18 _ rfl (hcl 19 _ rfl (hcl 20 _ rfl hD 19 dc) 18 dc) 17 dc) 16 dc) 15 dc) 14 dc)) zaw)) (zaa (zaq (fun hD => hn (hcl 15 _ rfl (hcl 16 _ rfl (hcl 17 _ rfl (hcl 18 _ rfl (hcl 19 _ rfl (hcl 20 _ rfl (hcl 21 _ rfl hD 20 dc) 19 dc) 18 dc) 17 dc) 16 dc) 15 dc) 14 dc)) zaw) (zaa (zaq (fun hD => hn (hcl 15 _ rfl (hcl 16 _ rfl (hcl 17 _ rfl (hcl 18 _ rfl (hcl 19 _ rfl (hcl 20 _ rfl (hcl 21 _ rfl hD 20 dc) 19 dc) 18 dc) 17 dc) 16 dc) 15 dc) 14 dc)) zaw) (zaa (zaq (fun hD => hn (hcl 15 _ rfl (hcl 16 _ rfl (hcl 17 _ rfl (hcl 18 _ rfl (hcl 19 _ rfl (hcl 20 _ rfl (hcl 21 _ rfl (hcl 22 _ rfl hD 21 dc) 20 dc) 19 dc) 18 dc) 17 dc) 16 dc) 15 dc) 14 dc)) zaw) rfl))))) ?_
  refine zah rfl dc (zaE (by rfl) rfl) ?_
  exact zaR (hd1, hd2, ⟨zs1, hz1⟩, ⟨zs2, hz2⟩, hd3, v4) 14 (by rfl) (by rfl) rfl (congrArg (dl D) rfl) (zaa ((zax (by rfl)).trans (zaq (fun hD => hn (hcl 15 _ rfl (hcl 16 _ rfl (hcl 17 _ rfl (hcl 18 _ rfl (hcl 19 _ rfl (hcl 20 _ rfl (hcl 21 _ rfl hD 20 dc) 19 dc) 18 dc) 17 dc) 16 dc) 15 dc) 14 dc)) rfl)) (zaa ((zax (by rfl)).trans (zaq (fun hD => hn (hcl 15 _ rfl (hcl 16 _ rfl (hcl 17 _ rfl (hcl 18 _ rfl (hcl 19 _ rfl (hcl 20 _ rfl (hcl 21 _ rfl hD 20 dc) 19 dc) 18 dc) 17 dc) 16 dc) 15 dc) 14 dc)) (zaq (fun hD => hn (hcl 15 _ rfl (hcl 16 _ rfl (hcl 17 _ rfl (hcl 18 _ rfl (hcl 19 _ rfl (hcl 20 _ rfl hD 19 dc) 18 dc) 17 dc) 16 dc) 15 dc) 14 dc)) zaw))) (zaa ((zax (by rfl)).trans (zaq (fun hD => hn (hcl 15 _ rfl (hcl 16 _ rfl (hcl 17 _ rfl (hcl 18 _ rfl (hcl 19 _ rfl (hcl 20 _ rfl (hcl 21 _ rfl hD 20 dc) 19 dc) 18 dc) 17 dc) 16 dc) 15 dc) 14 dc)) zaw)) (zaa ((zax (by rfl)).trans (zaq (fun hD => hn (hcl 15 _ rfl (hcl 16 _ rfl (hcl 17 _ rfl (hcl 18 _ rfl (hcl 19 _ rfl (hcl 20 _ rfl (hcl 21 _ rfl hD 20 dc) 19 dc) 18 dc) 17 dc) 16 dc) 15 dc) 14 dc)) zaw)) (zaa ((zax (by rfl)).trans (zaq (fun hD => hn (hcl 15 _ rfl (hcl 16 _ rfl (hcl 17 _ rfl (hcl 18 _ rfl (hcl 19 _ rfl (hcl 20 _ rfl (hcl 21 _ rfl (hcl 22 _ rfl hD 21 dc) 20 dc) 19 dc) 18 dc) 17 dc) 16 dc) 15 dc) 14 dc)) zaw)) rfl)))))
 ·
  intro D b hn hd hcl
  obtain ⟨hd1, hd2, ⟨zs1, hz1⟩, ⟨zs2, hz2⟩, hd3, v4⟩ := b
  refine zaQ (zaa (zaq (fun hD => hn (hcl 16 _ rfl (hcl 17 _ rfl (hcl 18 _ rfl (hcl 19 _ rfl (hcl 20 _ rfl (hcl 21 _ rfl hD 20 dc) 19 dc) 18 dc) 17 dc) 16 dc) 15 dc)) rfl) (zaa (zaq (fun hD => hn (hcl 16 _ rfl (hcl 17 _ rfl (hcl 18 _ rfl (hcl 19 _ rfl (hcl 20 _ rfl (hcl 21 _ rfl hD 20 dc) 19 dc) 18 dc) 17 dc) 16 dc) 15 dc)) (zaq (fun hD => hn (hcl 16 _ rfl (hcl 17 _ rfl (hcl 18 _ rfl (hcl 19 _ rfl (hcl 20 _ rfl hD 19 dc) 18 dc) 17 dc) 16 dc) 15 dc)) zaw)) (zaa (zaq (fun hD => hn (hcl 16 _ rfl (hcl 17 _ rfl (hcl 18 _ rfl (hcl 19 _ rfl (hcl 20 _ rfl (hcl 21 _ rfl hD 20 dc) 19 dc) 18 dc) 17 dc) 16 dc) 15 dc)) zaw) (zaa (zaq (fun hD => hn (hcl 16 _ rfl (hcl 17 _ rfl (hcl 18 _ rfl (hcl 19 _ rfl (hcl 20 _ rfl (hcl 21 _ rfl hD 20 dc) 19 dc) 18 dc) 17 dc) 16 dc) 15 dc)) zaw) (zaa (zaq (fun hD => hn (hcl 16 _ rfl (hcl 17 _ rfl (hcl 18 _ rfl (hcl 19 _ rfl (hcl 20 _ rfl (hcl 21 _ rfl (hcl 22 _ rfl hD 21 dc) 20 dc) 19 dc) 18 dc) 17 dc) 16 dc) 15 dc)) zaw) rfl))))) ?_
  refine zaW rfl dc (zab (m := 14) rfl rfl (hd 14 dc)) ?_
  exact zaR (hd1, hd2, ⟨zs1, hz1⟩, ⟨zs2, hz2⟩, hd3, v4) 15 (by rfl) (by rfl) rfl (congrArg (dl D) rfl) (zaa ((zax (by rfl)).trans (zaq (fun hD => hn (hcl 16 _ rfl (hcl 17 _ rfl (hcl 18 _ rfl (hcl 19 _ rfl (hcl 20 _ rfl (hcl 21 _ rfl hD 20 dc) 19 dc) 18 dc) 17 dc) 16 dc) 15 dc)) rfl)) (zaa ((zax (by rfl)).trans (zaq (fun hD => hn (hcl 16 _ rfl (hcl 17 _ rfl (hcl 18 _ rfl (hcl 19 _ rfl (hcl 20 _ rfl (hcl 21 _ rfl hD 20 dc) 19 dc) 18 dc) 17 dc) 16 dc) 15 dc)) (zaq (fun hD => hn (hcl 16 _ rfl (hcl 17 _ rfl (hcl 18 _ rfl (hcl 19 _ rfl (hcl 20 _ rfl hD 19 dc) 18 dc) 17 dc) 16 dc) 15 dc)) zaw))) (zaa ((zax (by rfl)).trans (zaq (fun hD => hn (hcl 16 _ rfl (hcl 17 _ rfl (hcl 18 _ rfl (hcl 19 _ rfl (hcl 20 _ rfl (hcl 21 _ rfl hD 20 dc) 19 dc) 18 dc) 17 dc) 16 dc) 15 dc)) zaw)) (zaa ((zax (by rfl)).trans (zaq (fun hD => hn (hcl 16 _ rfl (hcl 17 _ rfl (hcl 18 _ rfl (hcl 19 _ rfl (hcl 20 _ rfl (hcl 21 _ rfl hD 20 dc) 19 dc) 18 dc) 17 dc) 16 dc) 15 dc)) zaw)) (zaa ((zax (by rfl)).trans (zaq (fun hD => hn (hcl 16 _ rfl (hcl 17 _ rfl (hcl 18 _ rfl (hcl 19 _ rfl (hcl 20 _ rfl (hcl 21 _ rfl (hcl 22 _ rfl hD 21 dc) 20 dc) 19 dc) 18 dc) 17 dc) 16 dc) 15 dc)) zaw)) rfl)))))
 ·
  intro D b hn hd hcl
  obtain ⟨hd1, hd2, ⟨zs1, hz1⟩, ⟨zs2, hz2⟩, hd3, v4⟩ := b
  refine zaQ (zaa (zaq (fun hD => hn (hcl 17 _ rfl (hcl 18 _ rfl (hcl 19 _ rfl (hcl 20 _ rfl (hcl 21 _ rfl hD 20 dc) 19 dc) 18 dc) 17 dc) 16 dc)) rfl) (zaa (zaq (fun hD => hn (hcl 17 _ rfl (hcl 18 _ rfl (hcl 19 _ rfl (hcl 20 _ rfl (hcl 21 _ rfl hD 20 dc) 19 dc) 18 dc) 17 dc) 16 dc)) (zaq (fun hD => hn (hcl 17 _ rfl (hcl 18 _ rfl (hcl 19 _ rfl (hcl 20 _ rfl hD 19 dc) 18 dc) 17 dc) 16 dc)) zaw)) (zaa (zaq (fun hD => hn (hcl 17 _ rfl (hcl 18 _ rfl (hcl 19 _ rfl (hcl 20 _ rfl (hcl 21 _ rfl hD 20 dc) 19 dc) 18 dc) 17 dc) 16 dc)) zaw) (zaa (zaq (fun hD => hn (hcl 17 _ rfl (hcl 18 _ rfl (hcl 19 _ rfl (hcl 20 _ rfl (hcl 21 _ rfl hD 20 dc) 19 dc) 18 dc) 17 dc) 16 dc)) zaw) (zaa (zaq (fun hD => hn (hcl 17 _ rfl (hcl 18 _ rfl (hcl 19 _ rfl (hcl 20 _ rfl (hcl 21 _ rfl (hcl 22 _ rfl hD 21 dc) 20 dc) 19 dc) 18 dc) 17 dc) 16 dc)) zaw) rfl))))) ?_
  refine zar zbS rfl dc (zab (m := 15) rfl rfl (hd 15 dc)) (show _ = 0 from rfl) ?_
  exact zaR (hd1, hd2, ⟨zs1, hz1⟩, ⟨zs2, hz2⟩, hd3, v4) 16 (by rfl) (by rfl) rfl (congrArg (dl D) rfl) (zaa ((zax (by rfl)).trans (zaq (fun hD => hn (hcl 17 _ rfl (hcl 18 _ rfl (hcl 19 _ rfl (hcl 20 _ rfl (hcl 21 _ rfl hD 20 dc) 19 dc) 18 dc) 17 dc) 16 dc)) rfl)) (zaa ((zax (by rfl)).trans (zaq (fun hD => hn (hcl 17 _ rfl (hcl 18 _ rfl (hcl 19 _ rfl (hcl 20 _ rfl (hcl 21 _ rfl hD 20 dc) 19 dc) 18 dc) 17 dc) 16 dc)) (zaq (fun hD => hn (hcl 17 _ rfl (hcl 18 _ rfl (hcl 19 _ rfl (hcl 20 _ rfl hD 19 dc) 18 dc) 17 dc) 16 dc)) zaw))) (zaa ((zax (by rfl)).trans (zaq (fun hD => hn (hcl 17 _ rfl (hcl 18 _ rfl (hcl 19 _ rfl (hcl 20 _ rfl (hcl 21 _ rfl hD 20 dc) 19 dc) 18 dc) 17 dc) 16 dc)) zaw)) (zaa ((zax (by rfl)).trans (zaq (fun hD => hn (hcl 17 _ rfl (hcl 18 _ rfl (hcl 19 _ rfl (hcl 20 _ rfl (hcl 21 _ rfl hD 20 dc) 19 dc) 18 dc) 17 dc) 16 dc)) zaw)) (zaa ((zax (by rfl)).trans (zaq (fun hD => hn (hcl 17 _ rfl (hcl 18 _ rfl (hcl 19 _ rfl (hcl 20 _ rfl (hcl 21 _ rfl (hcl 22 _ rfl hD 21 dc) 20 dc) 19 dc) 18 dc) 17 dc) 16 dc)) zaw)) rfl)))))
 ·
  intro D b hn hd hcl
  obtain ⟨hd1, hd2, ⟨zs1, hz1⟩, ⟨zs2, hz2⟩, hd3, v4⟩ := b
  refine zaQ (zaa (zaq (fun hD => hn (hcl 18 _ rfl (hcl 19 _ rfl (hcl 20 _ rfl (hcl 21 _ rfl hD 20 dc) 19 dc) 18 dc) 17 dc)) rfl) (zaa (zaq (fun hD => hn (hcl 18 _ rfl (hcl 19 _ rfl (hcl 20 _ rfl (hcl 21 _ rfl hD 20 dc) 19 dc) 18 dc) 17 dc)) (zaq (fun hD => hn (hcl 18 _ rfl (hcl 19 _ rfl (hcl 20 _ rfl hD 19 dc) 18 dc) 17 dc)) zaw)) (zaa (zaq (fun hD => hn (hcl 18 _ rfl (hcl 19 _ rfl (hcl 20 _ rfl (hcl 21 _ rfl hD 20 dc) 19 dc) 18 dc) 17 dc)) zaw) (zaa (zaq (fun hD => hn (hcl 18 _ rfl (hcl 19 _ rfl (hcl 20 _ rfl (hcl 21 _ rfl hD 20 dc) 19 dc) 18 dc) 17 dc)) zaw) (zaa (zaq (fun hD => hn (hcl 18 _ rfl (hcl 19 _ rfl (hcl 20 _ rfl (hcl 21 _ rfl (hcl 22 _ rfl hD 21 dc) 20 dc) 19 dc) 18 dc) 17 dc)) zaw) rfl))))) ?_
  refine zar zdB rfl dc (zab (m := 16) rfl rfl (hd 16 dc)) (show _ = 1 from rfl) ?_
  exact zaR (hd1, hd2, ⟨zs1, hz1⟩, ⟨zs2, hz2⟩, hd3, v4) 17 (by rfl) (by rfl) rfl (congrArg (dl D) rfl) (zaa ((zax (by rfl)).trans (zaq (fun hD => hn (hcl 18 _ rfl (hcl 19 _ rfl (hcl 20 _ rfl (hcl 21 _ rfl hD 20 dc) 19 dc) 18 dc) 17 dc)) rfl)) (zaa ((zax (by rfl)).trans (zaq (fun hD => hn (hcl 18 _ rfl (hcl 19 _ rfl (hcl 20 _ rfl (hcl 21 _ rfl hD 20 dc) 19 dc) 18 dc) 17 dc)) (zaq (fun hD => hn (hcl 18 _ rfl (hcl 19 _ rfl (hcl 20 _ rfl hD 19 dc) 18 dc) 17 dc)) zaw))) (zaa ((zax (by rfl)).trans (zaq (fun hD => hn (hcl 18 _ rfl (hcl 19 _ rfl (hcl 20 _ rfl (hcl 21 _ rfl hD 20 dc) 19 dc) 18 dc) 17 dc)) zaw)) (zaa ((zax (by rfl)).trans (zaq (fun hD => hn (hcl 18 _ rfl (hcl 19 _ rfl (hcl 20 _ rfl (hcl 21 _ rfl hD 20 dc) 19 dc) 18 dc) 17 dc)) zaw)) (zaa ((zax (by rfl)).trans (zaq (fun hD => hn (hcl 18 _ rfl (hcl 19 _ rfl (hcl 20 _ rfl (hcl 21 _ rfl (hcl 22 _ rfl hD 21 dc) 20 dc) 19 dc) 18 dc) 17 dc)) zaw)) rfl)))))
 ·
  intro D b hn hd hcl
  obtain ⟨hd1, hd2, ⟨zs1, hz1⟩, ⟨zs2, hz2⟩, hd3, v4⟩ := b
  refine zaQ (zaa (zaq (fun hD => hn (hcl 19 _ rfl (hcl 20 _ rfl (hcl 21 _ rfl hD 20 dc) 19 dc) 18 dc)) rfl) (zaa (zaq (fun hD => hn (hcl 19 _ rfl (hcl 20 _ rfl (hcl 21 _ rfl hD 20 dc) 19 dc) 18 dc)) (zaq (fun hD => hn (hcl 19 _ rfl (hcl 20 _ rfl hD 19 dc) 18 dc)) zaw)) (zaa (zaq (fun hD => hn (hcl 19 _ rfl (hcl 20 _ rfl (hcl 21 _ rfl hD 20 dc) 19 dc) 18 dc)) zaw) (zaa (zaq (fun hD => hn (hcl 19 _ rfl (hcl 20 _ rfl (hcl 21 _ rfl hD 20 dc) 19 dc) 18 dc)) zaw) (zaa (zaq (fun hD => hn (hcl 19 _ rfl (hcl 20 _ rfl (hcl 21 _ rfl (hcl 22 _ rfl hD 21 dc) 20 dc) 19 dc) 18 dc)) zaw) rfl))))) ?_
  refine zbq (i := 3) hrd rfl zew rfl dc (zab (m := 17) rfl rfl (hd 17 dc)) rfl ?_
  exact zaR (hd1, hd2, ⟨zs1, hz1⟩, ⟨zs2, hz2⟩, hd3, v4) 18 (by rfl) (by rfl) rfl (congrArg (dl D) rfl) (zaa ((zax (by rfl)).trans (zaq (fun hD => hn (hcl 19 _ rfl (hcl 20 _ rfl (hcl 21 _ rfl hD 20 dc) 19 dc) 18 dc)) rfl)) (zaa ((zax (by rfl)).trans (zaq (fun hD => hn (hcl 19 _ rfl (hcl 20 _ rfl (hcl 21 _ rfl hD 20 dc) 19 dc) 18 dc)) (zaq (fun hD => hn (hcl 19 _ rfl (hcl 20 _ rfl hD 19 dc) 18 dc)) zaw))) (zaa ((zax (by rfl)).trans (zaq (fun hD => hn (hcl 19 _ rfl (hcl 20 _ rfl (hcl 21 _ rfl hD 20 dc) 19 dc) 18 dc)) zaw)) (zaa ((zax (by rfl)).trans (zaq (fun hD => hn (hcl 19 _ rfl (hcl 20 _ rfl (hcl 21 _ rfl hD 20 dc) 19 dc) 18 dc)) zaw)) (zaa ((zax (by rfl)).trans (zaq (fun hD => hn (hcl 19 _ rfl (hcl 20 _ rfl (hcl 21 _ rfl (hcl 22 _ rfl hD 21 dc) 20 dc) 19 dc) 18 dc)) zaw)) rfl)))))
 ·
  intro D b hn hd hcl
  obtain ⟨hd1, hd2, ⟨zs1, hz1⟩, ⟨zs2, hz2⟩, hd3, v4⟩ := b
  refine zaQ (zaa (zaq (fun hD => hn (hcl 20 _ rfl (hcl 21 _ rfl hD 20 dc) 19 dc)) rfl) (zaa (zaq (fun hD => hn (hcl 20 _ rfl (hcl 21 _ rfl hD 20 dc) 19 dc)) (zaq (fun hD => hn (hcl 20 _ rfl hD 19 dc)) zaw)) (zaa (zaq (fun hD => hn (hcl 20 _ rfl (hcl 21 _ rfl hD 20 dc) 19 dc)) zaw) (zaa (zaq (fun hD => hn (hcl 20 _ rfl (hcl 21 _ rfl hD 20 dc) 19 dc)) zaw) (zaa (zaq (fun hD => hn (hcl 20 _ rfl (hcl 21 _ rfl (hcl 22 _ rfl hD 21 dc) 20 dc) 19 dc)) zaw) rfl))))) ?_
  refine zbG (hrd.vw (i := 4) rfl) rfl dc (zab (m := 18) rfl rfl (hd 18 dc)) Tryd.underlying57 ?_
  exact zaR (hd1, hd2, ⟨zs1, hz1⟩, ⟨zs2, hz2⟩, hd3, v4) 19 (by rfl) (by rfl) rfl (congrArg (dl D) rfl) (zaa ((zax (by rfl)).trans (zaq (fun hD => hn (hcl 20 _ rfl (hcl 21 _ rfl hD 20 dc) 19 dc)) rfl)) (zaa ((zax (by rfl)).trans (zaq (fun hD => hn (hcl 20 _ rfl (hcl 21 _ rfl hD 20 dc) 19 dc)) (zaq (fun hD => hn (hcl 20 _ rfl hD 19 dc)) zaw))) (zaa ((zax (by rfl)).trans (zaq (fun hD => hn (hcl 20 _ rfl (hcl 21 _ rfl hD 20 dc) 19 dc)) zaw)) (zaa ((zax (by rfl)).trans (zaq (fun hD => hn (hcl 20 _ rfl (hcl 21 _ rfl hD 20 dc) 19 dc)) zaw)) (zaa ((zax (by rfl)).trans (zaq (fun hD => hn (hcl 20 _ rfl (hcl 21 _ rfl (hcl 22 _ rfl hD 21 dc) 20 dc) 19 dc)) zaw)) rfl)))))
 ·
  intro D b hn hd hcl
  obtain ⟨hd1, _, ⟨zs1, hz1⟩, ⟨zs2, hz2⟩, hd3, v4⟩ := b
  refine zaQ (zaa (zaq (fun hD => hn (hcl 21 _ rfl hD 20 dc)) (zbb (hd 12 dc) rfl)) (zaa (zaq (fun hD => hn (hcl 21 _ rfl hD 20 dc)) (zaq hn zaw)) (zaa (zaq (fun hD => hn (hcl 21 _ rfl hD 20 dc)) zaw) (zaa (zaq (fun hD => hn (hcl 21 _ rfl hD 20 dc)) zaw) (zaa (zaq (fun hD => hn (hcl 21 _ rfl (hcl 22 _ rfl hD 21 dc) 20 dc)) zaw) rfl))))) ?_
  refine zdw (vs := [zP bq1, zI 0, zI (q1.told_lines.length : Int)]) hrd rfl dc rfl (evL.cons (zab (m := 13) rfl rfl (hd 13 dc)) (evL.cons rfl (evL.cons (zab (m := 19) rfl rfl (hd 19 dc)) evL.nil))) rfl zmI (zdG (bp1 := bq1) (p1 := q1) (p1_h0 := q1_h0) (p1_h1 := q1_h1) hq2) Splits.nil (.ro 3 rfl (.ro 4 rfl (.ro 5 rfl .nil))) ?_
  rintro v2
  show TO _ _ _ _ _ _ _ _ _ _ [zbx zae zag 48 1 hd1.v r1, emp, emp, emp, emp, zbx zae zag 48 1 v2 r2]
  refine zbw (L' := [zbx zae zag 48 1 hd1.v r1, emp, emp, emp, emp, zbx zae zag 48 1 v2 r2]) (zal [0, 1, 2, 3, 4, 5] kr rfl) ?_
  refine zfN (k := 5) rfl (fun hd2 he2 => ?_)
  subst he2
  refine zd5 1 rfl rfl ?_
  show TO _ _ _ _ _ _ _ _ _ _ [zbx zae zag 48 1 hd1.v r1, zbx zae zag 48 1 hd2.v r2, emp, emp, emp]
  exact zaR (hd1, hd2, ⟨zs1, hz1⟩, ⟨zs2, hz2⟩, hd3, v4) 20 (by rfl) (by rfl) rfl (zao (fun _ => rfl) (zao (fun _ => rfl) (zao (fun _ => rfl) (zao (fun _ => rfl) (zao (fun _ => rfl) (zao (fun _ => rfl) (zao (fun _ => rfl) (zao (fun _ => rfl) (zao (fun _ => rfl) (zao (fun _ => rfl) (zao (fun _ => rfl) (zao (fun _ => rfl) (zao (fun _ => rfl) (zao (fun _ => rfl) (zao (fun _ => rfl) (zao (fun _ => rfl) (zao (fun _ => rfl) (zao (fun _ => rfl) (zao (fun _ => rfl) (zao (fun _ => rfl) (zao (fun hD => absurd hD hn) (congrArg (dl D) rfl)))))))))))))))))))))) (zaa ((zax (by rfl)).trans (zaq (fun hD => hn (hcl 21 _ rfl hD 20 dc)) (zbb (hd 12 dc) rfl))) (zaa (zaq (fun h => h.elim (fun hD => hn (hcl 21 _ rfl hD 20 dc)) (fun h => absurd h dc)) (zbb (Or.inr rfl) rfl)) (zaa ((zax (by rfl)).trans (zaq (fun hD => hn (hcl 21 _ rfl hD 20 dc)) zaw)) (zaa ((zax (by rfl)).trans (zaq (fun hD => hn (hcl 21 _ rfl hD 20 dc)) zaw)) (zaa ((zax (by rfl)).trans (zaq (fun hD => hn (hcl 21 _ rfl (hcl 22 _ rfl hD 21 dc) 20 dc)) zaw)) rfl)))))
 ·
  intro D b hn hd hcl
  obtain ⟨hd1, hd2, _, _, _, v4⟩ := b
  refine zaQ (zaa (zaq hn (zbb (hd 12 dc) rfl)) (zaa (zaq hn (zbb (hd 20 dc) rfl)) (zaa (zaq hn zaw) (zaa (zaq hn zaw) (zaa (zaq (fun hD => hn (hcl 22 _ rfl hD 21 dc)) zaw) rfl))))) ?_
  refine zes (k := 0) rfl zhC (fun zs1 hz1 => ?_)
  show TO _ _ _ _ _ _ _ _ _ _ [vec zae 48 1 hd1.v zs1, zbx zae zag 48 1 hd2.v r2, emp, emp, emp, own zag zs1]
  refine zes (k := 1) rfl zhC (fun zs2 hz2 => ?_)
  show TO _ _ _ _ _ _ _ _ _ _ [vec zae 48 1 hd1.v zs1, vec zae 48 1 hd2.v zs2, emp, emp, emp, own zag zs1, own zag zs2]
  refine zcA (k := 1) rfl (fun hw1 => ?_)
  refine zkZ (k := 0) (k2 := 1) Tryd.underlying54 zkS zaL zcI hw1 rfl dc (zab (m := 12) rfl rfl (hd 12 dc)) (zab (m := 20) rfl rfl (hd 20 dc)) rfl rfl (by rw [zm3 hz1, zm3 hz2]; exact hg1) (fun v3 => ?_)
  show TO _ _ _ _ _ _ _ _ _ _ [vec zae 48 1 v3 (zs1 ++ zs2), vec zae 48 1 hd2.v zs2, emp, emp, emp, own zag zs1, own zag zs2]
  refine zb7 (k := 0) rfl (fun hd3 he3 => ?_)
  subst he3
  refine zei (k := 5) rfl (zal [6] kr rfl) rfl (zoP (nest := zag) (zs := zs1) (ys := zs2)) ?_
  show TO _ _ _ _ _ _ _ _ _ _ [vec zae 48 1 hd3.v (zs1 ++ zs2), vec zae 48 1 hd2.v zs2, emp, emp, emp, own zag (zs1 ++ zs2), emp]
  refine zei (k := 0) rfl (zal [5] kr rfl) rfl (zit (enc := zae) (nest := zag) (zqj hz1 hz2)) ?_
  show TO _ _ _ _ _ _ _ _ _ _ [zbx zae zag 48 1 hd3.v (r1 ++ r2), vec zae 48 1 hd2.v zs2, emp, emp, emp, emp, emp]
  refine zd5 3 rfl rfl ?_
  show TO _ _ _ _ _ _ _ _ _ _ [zbx zae zag 48 1 hd3.v (r1 ++ r2), vec zae 48 1 hd2.v zs2, emp, emp, emp, emp]
  refine zd5 2 rfl rfl ?_
  show TO _ _ _ _ _ _ _ _ _ _ [zbx zae zag 48 1 hd3.v (r1 ++ r2), vec zae 48 1 hd2.v zs2, emp, emp, emp]
  exact zaR (hd1, hd2, ⟨zs1, hz1⟩, ⟨zs2, hz2⟩, hd3, v4) 21 (by rfl) (by rfl) rfl (zao (fun _ => rfl) (zao (fun _ => rfl) (zao (fun _ => rfl) (zao (fun _ => rfl) (zao (fun _ => rfl) (zao (fun _ => rfl) (zao (fun _ => rfl) (zao (fun _ => rfl) (zao (fun _ => rfl) (zao (fun _ => rfl) (zao (fun _ => rfl) (zao (fun _ => rfl) (zao (fun _ => rfl) (zao (fun _ => rfl) (zao (fun _ => rfl) (zao (fun _ => rfl) (zao (fun _ => rfl) (zao (fun _ => rfl) (zao (fun _ => rfl) (zao (fun _ => rfl) (zao (fun _ => rfl) (zao (fun hD => absurd hD hn) (congrArg (dl D) rfl))))))))))))))))))))))) (zaa (zbb (Or.inr rfl) rfl) (zaa (zbb (Or.inr rfl) rfl) (zaa (zbb (Or.inr rfl) rfl) (zaa (zbb (Or.inr rfl) rfl) (zaa ((zax (by rfl)).trans (zaq (fun hD => hn (hcl 22 _ rfl hD 21 dc)) zaw)) rfl)))))
 ·
  intro D b hn hd hcl
  obtain ⟨hd1, hd2, ⟨zs1, hz1⟩, ⟨zs2, hz2⟩, hd3, _⟩ := b
  refine zaQ (zaa (zbb (hd 21 dc) rfl) (zaa (zbb (hd 21 dc) rfl) (zaa (zbb (hd 21 dc) rfl) (zaa (zbb (hd 21 dc) rfl) (zaa (zaq hn zaw) rfl))))) ?_
  refine zdw (vs := [.string p1.told_title, hd3.v]) hrd rfl dc rfl (evL.cons (zab (m := 4) rfl rfl (hd 4 dc)) (evL.cons (zab (m := 21) rfl rfl (hd 21 dc)) evL.nil)) rfl zok (zch (nest := zag) (e := 48) (v := hd3.v) (xs := r1 ++ r2) (RD1 := []) (RD2 := []) zaL za5 (fun zs_c0 hz_c0 hV_c0 => (zge (vstanzas1 := hd3) hV_c0 hz_c0 hq3))) Splits.nil (.own (zal [0] (by kernel_rfl) rfl) (fun _ _ h => sepL.one1.1 h) .nil) ?_
  rintro v4
  show TO _ _ _ _ _ _ _ _ _ _ [zbx zae zag 48 1 hd3.v (r1 ++ r2), vec zae 48 1 hd2.v zs2, emp, emp, emp, zco zau zat 93 v4 r3.1]
  refine zbw (L' := [zbx zae zag 48 1 hd3.v (r1 ++ r2), vec zae 48 1 hd2.v zs2, emp, emp, emp, zco zau zat 93 v4 r3.1]) (zal [0, 1, 2, 3, 4, 5] kr rfl) (zd5 4 rfl rfl ?_)
  show TO _ _ _ _ _ _ _ _ _ _ [zbx zae zag 48 1 hd3.v (r1 ++ r2), vec zae 48 1 hd2.v zs2, emp, emp, zco zau zat 93 v4 r3.1]
  exact zaR (hd1, hd2, ⟨zs1, hz1⟩, ⟨zs2, hz2⟩, hd3, v4) 22 (by rfl) (by rfl) rfl (zao (fun _ => rfl) (zao (fun _ => rfl) (zao (fun _ => rfl) (zao (fun _ => rfl) (zao (fun _ => rfl) (zao (fun _ => rfl) (zao (fun _ => rfl) (zao (fun _ => rfl) (zao (fun _ => rfl) (zao (fun _ => rfl) (zao (fun _ => rfl) (zao (fun _ => rfl) (zao (fun _ => rfl) (zao (fun _ => rfl) (zao (fun _ => rfl) (zao (fun _ => rfl) (zao (fun _ => rfl) (zao (fun _ => rfl) (zao (fun _ => rfl) (zao (fun _ => rfl) (zao (fun _ => rfl) (zao (fun _ => rfl) (zao (fun hD => absurd hD hn) (zao (fun hD => absurd (hcl 23 _ rfl hD 22 dc) hn) (zao (fun _ => rfl) rfl))))))))))))))))))))))))) (zaa ((zax (by rfl)).trans (zbb (hd 21 dc) rfl)) (zaa ((zax (by rfl)).trans (zbb (hd 21 dc) rfl)) (zaa ((zax (by rfl)).trans (zbb (hd 21 dc) rfl)) (zaa ((zax (by rfl)).trans (zbb (hd 21 dc) rfl)) (zaa (zbb (Or.inr rfl) rfl) rfl)))))
 ·
  intro D b hn hd hcl
  obtain ⟨hd1, hd2, ⟨zs1, hz1⟩, ⟨zs2, hz2⟩, hd3, v4⟩ := b
  refine zaQ (zaa (zbb (hcl 22 _ rfl (hd 22 dc) 21 dc) rfl) (zaa (zbb (hcl 22 _ rfl (hd 22 dc) 21 dc) rfl) (zaa (zbb (hcl 22 _ rfl (hd 22 dc) 21 dc) rfl) (zaa (zbb (hcl 22 _ rfl (hd 22 dc) 21 dc) rfl) (zaa (zbb (hd 22 dc) rfl) rfl))))) (zaS rfl dc (zab (m := 22) rfl rfl (hd 22 dc)) rfl ?_)
  exact zaR (hd1, hd2, ⟨zs1, hz1⟩, ⟨zs2, hz2⟩, hd3, v4) 23 (by rfl) (by rfl) rfl (congrArg (dl D) rfl) (zaa ((zax (by rfl)).trans (zbb (hcl 22 _ rfl (hd 22 dc) 21 dc) rfl)) (zaa ((zax (by rfl)).trans (zbb (hcl 22 _ rfl (hd 22 dc) 21 dc) rfl)) (zaa ((zax (by rfl)).trans (zbb (hcl 22 _ rfl (hd 22 dc) 21 dc) rfl)) (zaa ((zax (by rfl)).trans (zbb (hcl 22 _ rfl (hd 22 dc) 21 dc) rfl)) (zaa ((zax (by rfl)).trans (zbb (hd 22 dc) rfl)) rfl)))))
 ·
  intro D b hn hd hcl
  obtain ⟨hd1, hd2, ⟨zs1, hz1⟩, ⟨zs2, hz2⟩, hd3, v4⟩ := b
  refine zaQ (zaa (zbb (hcl 22 _ rfl (hd 22 dc) 21 dc) rfl) (zaa (zbb (hcl 22 _ rfl (hd 22 dc) 21 dc) rfl) (zaa (zbb (hcl 22 _ rfl (hd 22 dc) 21 dc) rfl) (zaa (zbb (hcl 22 _ rfl (hd 22 dc) 21 dc) rfl) (zaa (zbb (hd 22 dc) rfl) rfl))))) (zaS rfl dc (zab (m := 22) rfl rfl (hd 22 dc)) rfl ?_)
  exact zaR (hd1, hd2, ⟨zs1, hz1⟩, ⟨zs2, hz2⟩, hd3, v4) 24 (by rfl) (by rfl) rfl (congrArg (dl D) rfl) (zaa ((zax (by rfl)).trans (zbb (hcl 22 _ rfl (hd 22 dc) 21 dc) rfl)) (zaa ((zax (by rfl)).trans (zbb (hcl 22 _ rfl (hd 22 dc) 21 dc) rfl)) (zaa ((zax (by rfl)).trans (zbb (hcl 22 _ rfl (hd 22 dc) 21 dc) rfl)) (zaa ((zax (by rfl)).trans (zbb (hcl 22 _ rfl (hd 22 dc) 21 dc) rfl)) (zaa ((zax (by rfl)).trans (zbb (hd 22 dc) rfl)) rfl)))))
 intro D b hall
 obtain ⟨hd1, hd2, ⟨zs1, hz1⟩, ⟨zs2, hz2⟩, hd3, v4⟩ := b
 refine zaQ (zaa (zbb (hall 21 dc) rfl) (zaa (zbb (hall 21 dc) rfl) (zaa (zbb (hall 21 dc) rfl) (zaa (zbb (hall 21 dc) rfl) (zaa (zbb (hall 22 dc) rfl) rfl))))) (zak rfl dc rfl (zak rfl dc rfl (zap (zaj (zaX ?_)))))
 cases h
 exact za3 (rs := [.tmp 4, .tmp 5]) v4 (.inl rfl) Tryd.results22 (.cons (.tmp rfl) (.cons (.tmp rfl) .nil)) rfl (zal [4] kr rfl)
end Go.Proofs.YtgfkogafkhbgnaaDoor
namespace Go.Proofs.YtgfkogafkhbgnaaDoor
open Go.RowKit Go.Lib
set_option linter.unusedVariables false
set_option linter.unusedSimpArgs false
theorem zeZ (a b : List UInt8) : mkB a ++ mkB b = mkB (a ++ b) := by
  have h : ∀ a b : ByteArray, a.data.toList = b.data.toList → a = b := fun a b h => by
    have : mkB a.data.toList = mkB b.data.toList := by rw [h]
    exact this
  apply h
  rw [ByteArray.data_append, Array.toList_append]
  rfl
abbrev Row := List (List UInt8)
def lnT (r : Row) : List UInt8 := r.flatMap (· ++ [10])
def zla (a : List UInt8) : List UInt8 := if a = [] then a else a ++ [10]
def zgI (t : List UInt8) : List Row → Bool
  | (x :: _) :: _ => decide (t ≠ []) || ziE x
  | _ => decide (t ≠ [])
def zhD (t : List UInt8) (z : List Row) : List UInt8 := if zgI t z then 35 :: 32 :: t ++ [10] else []
def prF (a : List UInt8) (z : List Row) : List UInt8 := z.foldl (fun a r => zla a ++ lnT r) a
/-- The one form. -/
def prT (t : List UInt8) (z : List Row) : List UInt8 := prF (zhD t z) z
def wtR (r : Row) : Nat := (r.map fun x => x.length + 1).sum
def wtZ (z : List Row) : Nat := (z.map fun r => 1 + wtR r).sum
theorem zfP (x : List UInt8) (r : Row) : wtR (x :: r) = x.length + 1 + wtR r := by unfold wtR; rw [List.map_cons, List.sum_cons]
theorem zgP (r : Row) (z : List Row) : wtZ (r :: z) = 1 + wtR r + wtZ z := by unfold wtZ; rw [List.map_cons, List.sum_cons]
theorem zfT (x : List UInt8) (r : Row) : lnT (x :: r) = x ++ [10] ++ lnT r := List.flatMap_cons
theorem zmu (r : Row) : (lnT r).length = wtR r := by
  induction r with
  | nil => rfl
  | cons x r ih => rw [zfT, zfP, List.length_append, List.length_append, ih]; rfl
theorem zjc (r : Row) : r.length ≤ wtR r := by
  induction r with
  | nil => exact Nat.le_refl _
  | cons x r ih => rw [zfP, List.length_cons]; omega
theorem zhW (z : List Row) : z.length ≤ wtZ z := by
  induction z with
  | nil => exact Nat.le_refl _
  | cons r z ih => rw [zgP, List.length_cons]; omega
theorem zk9 (a : List UInt8) : (zla a).length ≤ a.length + 1 := by
  unfold zla; split
  · omega
  · rw [List.length_append]; simp
theorem zkd (t : List UInt8) (z : List Row) : (zhD t z).length ≤ t.length + 3 := by
  unfold zhD; split
  · simp
  · simp
theorem zlD (r : Row) (J : ByteArray → Option ByteArray) (a0 : List UInt8) (hb : a0.length + wtR r ≤ 70368744177664) : ∀ (n i : Nat) (a : List UInt8), i ≤ r.length → r.length - i < n → a.length + wtR (r.drop i) ≤ 70368744177664 →
    za8 (fun _ _ => none) (zcQ J (r.map mkB)) n (mkB a) (i : Int) = J (mkB (a ++ lnT (r.drop i))) := by
  intro n
  induction n with
  | zero => intro i a h1 h2; omega
  | succ n ih =>
    intro i a hi hn ha
    rw [zbt]
    obtain ⟨ag, hag⟩ : ∃ ag, ag = za8 (fun _ _ => none) (zcQ J (r.map mkB)) n := ⟨_, rfl⟩
    rw [← hag] at ih ⊢
    unfold zcQ
    have hrl := zjc r
    rcases Nat.lt_or_ge i r.length with h | h
    · have hd : r.drop i = r[i] :: r.drop (i + 1) := List.drop_eq_getElem_cons h
      rw [hd, zfP] at ha
      have hg : zdh (r.map mkB) (i : Int) = some (mkB r[i]) := zbV (by rw [List.getElem?_map, List.getElem?_eq_getElem h]; rfl)
      refine zaY (decide_eq_true (by rw [List.length_map]; omega)) (za9 hg ?_)
      rw [show (⟨#[10]⟩ : ByteArray) = mkB [10] from rfl, zeZ, zeZ]
      refine zcD (by rw [za7, za7]; simp only [List.length_singleton]; omega) (zcD (by rw [za7, za7, List.length_append]; simp only [List.length_singleton]; omega) (zcD ⟨by omega, by omega⟩ ?_))
      rw [show (i : Int) + 1 = ((i + 1 : Nat) : Int) by omega, ih (i + 1) _ (by omega) (by omega) (by rw [List.length_append, List.length_append]; simp only [List.length_singleton]; omega), hd, zfT]
      simp only [List.append_assoc]
    · rw [List.drop_eq_nil_of_le h]
      refine zaT (decide_eq_false (by rw [List.length_map]; omega)) ?_
      show J (mkB a) = J (mkB (a ++ []))
      rw [List.append_nil]
theorem zkG (z : List Row) (hz : z.length ≤ 70368744177664) (J : ByteArray → Option ByteArray) : ∀ (n i : Nat) (a : List UInt8), i ≤ z.length → z.length - i < n → a.length + wtZ (z.drop i) ≤ 70368744177664 →
    za8 (fun _ _ => none) (zb4 (mkZ z) J) n (mkB a) (i : Int) = J (mkB (prF a (z.drop i))) := by
  intro n
  induction n with
  | zero => intro i a h1 h2; omega
  | succ n ih =>
    intro i a hi hn ha
    rw [zbt]
    obtain ⟨ag, hag⟩ : ∃ ag, ag = za8 (fun _ _ => none) (zb4 (mkZ z) J) n := ⟨_, rfl⟩
    rw [← hag] at ih ⊢
    unfold zb4
    rcases Nat.lt_or_ge i z.length with h | h
    · have hd : z.drop i = z[i] :: z.drop (i + 1) := List.drop_eq_getElem_cons h
      have hdl := zhW (z.drop i)
      rw [List.length_drop] at hdl
      rw [hd, zgP] at ha
      have hg : zdh (mkZ z) (i : Int) = some (z[i].map mkB) := zbV (by unfold mkZ; rw [List.getElem?_map, List.getElem?_eq_getElem h]; rfl)
      have hsl := zk9 a
      refine zaY (decide_eq_true (by rw [zbL]; omega)) (zcC (za9 hg (zcC ?_)))
      have hin := zlD z[i] (fun (b8 : ByteArray) => grd (I64 ((i : Int) + 1)) <| ag b8 ((i : Int) + 1)) (zla a) (by omega) zb0 0 (zla a) (Nat.zero_le _) (by have := zjc z[i]; unfold zb0; omega) (by rw [List.drop_zero]; omega)
      have fin : (grd (I64 ((i : Int) + 1)) <| ag (mkB (zla a ++ lnT z[i])) ((i : Int) + 1)) = J (mkB (prF a (z.drop i))) := by
        rw [hd]
        refine zcD ⟨by omega, by omega⟩ ?_
        rw [show (i : Int) + 1 = ((i + 1 : Nat) : Int) by omega, ih (i + 1) _ (by omega) (by omega) (by rw [List.length_append, zmu]; omega)]
        rfl
      by_cases ha0 : a = []
      · subst ha0
        refine zaT (decide_eq_false (by rw [za7]; simp)) ?_
        refine hin.trans ?_
        rw [List.drop_zero]; exact fin
      · have hpos : 0 < a.length := List.length_pos_iff.2 ha0
        refine zaY (decide_eq_true (by rw [za7]; omega)) (zcD (by rw [za7]; show a.length + 1 ≤ _; omega) ?_)
        have e : zla a = a ++ [10] := if_neg ha0
        rw [show (⟨#[10]⟩ : ByteArray) = mkB [10] from rfl, zeZ, ← e]
        refine hin.trans ?_
        rw [List.drop_zero]; exact fin
    · rw [List.drop_eq_nil_of_le h]
      exact zaT (decide_eq_false (by rw [zbL]; omega)) rfl
/-- What printed answers. -/
theorem zj4 (t : List UInt8) (z : List Row) (hne : ∀ r ∈ z, r ≠ []) (hw : t.length + 3 + wtZ z ≤ 70368744177664) : zc1 (mkB t) (mkZ z) = some (mkB (prT t z)) := by
  have hzl := zhW z
  unfold zc1
  refine zcC ?_
  have tail : ∀ b : List UInt8, b = zhD t z → (zbO (fun (j2 : ByteArray → Option ByteArray) => za8 (fun _ _ => none) (zb4 (mkZ z) j2) zb0 (mkB b) 0) (fun (b4 : ByteArray) => some b4)) = some (mkB (prT t z)) := fun b hb => by
    have hl := zkd t z
    have := zkG z (by omega) (fun (b4 : ByteArray) => some b4) zb0 0 b (Nat.zero_le _) (by unfold zb0; omega) (by rw [List.drop_zero, hb]; omega)
    rw [List.drop_zero] at this
    refine zcC (this.trans ?_)
    rw [hb]; rfl
  have hd : (grd ((⟨#[35, 32]⟩ : ByteArray).size + (mkB t).size ≤ 9223372036854775807) <| grd (((⟨#[35, 32]⟩ : ByteArray) ++ mkB t).size + (⟨#[10]⟩ : ByteArray).size ≤ 9223372036854775807) <|
      grd ((⟨#[]⟩ : ByteArray).size + (((⟨#[35, 32]⟩ : ByteArray) ++ mkB t) ++ (⟨#[10]⟩ : ByteArray)).size ≤ 140737488355328) <|
      (zbO (fun (j2 : ByteArray → Option ByteArray) => za8 (fun _ _ => none) (zb4 (mkZ z) j2) zb0 ((⟨#[]⟩ : ByteArray) ++ (((⟨#[35, 32]⟩ : ByteArray) ++ mkB t) ++ (⟨#[10]⟩ : ByteArray))) 0) (fun (b4 : ByteArray) => some b4))) =
        (zbO (fun (j2 : ByteArray → Option ByteArray) => za8 (fun _ _ => none) (zb4 (mkZ z) j2) zb0 (mkB (35 :: 32 :: t ++ [10])) 0) (fun (b4 : ByteArray) => some b4)) := by
    rw [show (⟨#[35, 32]⟩ : ByteArray) = mkB [35, 32] from rfl, show (⟨#[10]⟩ : ByteArray) = mkB [10] from rfl, show (⟨#[]⟩ : ByteArray) = mkB [] from rfl, zeZ, zeZ, zeZ]
    refine zcD ?_ (zcD ?_ (zcD ?_ rfl))
    · rw [za7, za7]; simp only [List.length_cons, List.length_nil]; omega
    · rw [za7, za7, List.length_append]; simp only [List.length_cons, List.length_nil]; omega
    · rw [za7, za7, List.length_append, List.length_append]; simp only [List.length_cons, List.length_nil]; omega
  by_cases ht : t = []
  · subst ht
    refine zaT (by rw [show (⟨#[]⟩ : ByteArray) = mkB [] from rfl]; simp) ?_
    cases z with
    | nil => exact zaT (decide_eq_false (by simp [mkZ])) (tail [] rfl)
    | cons r z =>
      have hr := hne r (by simp)
      obtain ⟨x, r', rfl⟩ := List.exists_cons_of_ne_nil hr
      refine zaY (decide_eq_true (by rw [zbL, List.length_cons]; omega)) (za9 (a := (x :: r').map mkB) rfl (za9 (a := mkB x) rfl (za9 (zk6 x) ?_)))
      cases hti : ziE x with
      | true =>
        refine zaY rfl (hd.trans (tail _ ?_))
        have : zgI [] ((x :: r') :: z) = true := by show (decide (([] : List UInt8) ≠ []) || ziE x) = true; rw [hti]; rfl
        unfold zhD; rw [this]; rfl
      | false =>
        refine zaT rfl (tail [] ?_)
        have : zgI [] ((x :: r') :: z) = false := by show (decide (([] : List UInt8) ≠ []) || ziE x) = false; rw [hti]; rfl
        unfold zhD; rw [this]; rfl
  · refine zaY (by rw [show (⟨#[]⟩ : ByteArray) = mkB [] from rfl, decide_eq_false (fun e => ht (zfm e))]; rfl) (hd.trans (tail _ ?_))
    unfold zhD
    have : zgI t z = true := by
      unfold zgI
      split <;> simp [ht]
    rw [this]; rfl
end Go.Proofs.YtgfkogafkhbgnaaDoor
namespace Go.Proofs.YtgfkogafkhbgnaaDoor
open Go.RowKit Go.Lib
set_option linter.unusedVariables false
set_option linter.unusedSimpArgs false
theorem zmc (t : List UInt8) (z : List Row) (k : Nat) (r : Row) (hk : z[k]? = some r) (J : ByteArray → Option ByteArray) : ∀ (n i : Nat) (a : List UInt8), i ≤ r.length → r.length - i < n → a.length + wtR (r.drop i) ≤ 70368744177664 → r.length ≤ 70368744177664 →
    za8 (fun _ _ => none) (zc0 (⟨mkB t, mkZ z⟩ : Gref17_Poem) (k : Int) J) n (mkB a) (i : Int) = J (mkB (a ++ lnT (r.drop i))) := by
  intro n
  induction n with
  | zero => intro i a h1 h2; omega
  | succ n ih =>
    intro i a hi hn ha hr
    rw [zbt]
    obtain ⟨ag, hag⟩ : ∃ ag, ag = za8 (fun _ _ => none) (zc0 (⟨mkB t, mkZ z⟩ : Gref17_Poem) (k : Int) J) n := ⟨_, rfl⟩
    rw [← hag] at ih ⊢
    unfold zc0
    have hgz : zdh (mkZ z) (k : Int) = some (r.map mkB) := zbV (by unfold mkZ; rw [List.getElem?_map, hk]; rfl)
    refine za9 hgz ?_
    rcases Nat.lt_or_ge i r.length with h | h
    · have hd : r.drop i = r[i] :: r.drop (i + 1) := List.drop_eq_getElem_cons h
      rw [hd, zfP] at ha
      have hg : zdh (r.map mkB) (i : Int) = some (mkB r[i]) := zbV (by rw [List.getElem?_map, List.getElem?_eq_getElem h]; rfl)
      refine zaY (decide_eq_true (by rw [List.length_map]; omega)) (za9 hgz (za9 hg ?_))
      rw [show (⟨#[10]⟩ : ByteArray) = mkB [10] from rfl, zeZ, zeZ]
      refine zcD (by rw [za7, za7]; simp only [List.length_singleton]; omega) (zcD (by rw [za7, za7, List.length_append]; simp only [List.length_singleton]; omega) (zcD ⟨by omega, by omega⟩ ?_))
      rw [show (i : Int) + 1 = ((i + 1 : Nat) : Int) by omega, ih (i + 1) _ (by omega) (by omega) (by rw [List.length_append, List.length_append]; simp only [List.length_singleton]; omega) hr, hd, zfT]
      simp only [List.append_assoc]
    · rw [List.drop_eq_nil_of_le h]
      refine zaT (decide_eq_false (by rw [List.length_map]; omega)) ?_
      show J (mkB a) = J (mkB (a ++ []))
      rw [List.append_nil]
theorem zlz (t : List UInt8) (z : List Row) (hz : z.length ≤ 70368744177664) (J : ByteArray → Option ByteArray) : ∀ (n i : Nat) (a : List UInt8), i ≤ z.length → z.length - i < n → a.length + wtZ (z.drop i) ≤ 70368744177664 →
    za8 (fun _ _ => none) (zcm (⟨mkB t, mkZ z⟩ : Gref17_Poem) J) n (mkB a) (i : Int) = J (mkB (prF a (z.drop i))) := by
  intro n
  induction n with
  | zero => intro i a h1 h2; omega
  | succ n ih =>
    intro i a hi hn ha
    rw [zbt]
    obtain ⟨ag, hag⟩ : ∃ ag, ag = za8 (fun _ _ => none) (zcm (⟨mkB t, mkZ z⟩ : Gref17_Poem) J) n := ⟨_, rfl⟩
    rw [← hag] at ih ⊢
    unfold zcm
    rcases Nat.lt_or_ge i z.length with h | h
    · have hd : z.drop i = z[i] :: z.drop (i + 1) := List.drop_eq_getElem_cons h
      have hdl := zhW (z.drop i)
      rw [List.length_drop] at hdl
      rw [hd, zgP] at ha
      have hsl := zk9 a
      have hwr := zjc z[i]
      refine zaY (decide_eq_true (by show (i : Int) < ((mkZ z).length : Int); rw [zbL]; omega)) (zcC (zcC ?_))
      have hin := zmc t z i z[i] (List.getElem?_eq_getElem h) (fun (s6 : ByteArray) => grd (I64 ((i : Int) + 1)) <| ag s6 ((i : Int) + 1)) zb0 0 (zla a) (Nat.zero_le _) (by unfold zb0; omega) (by rw [List.drop_zero]; omega) (by omega)
      have fin : (grd (I64 ((i : Int) + 1)) <| ag (mkB (zla a ++ lnT z[i])) ((i : Int) + 1)) = J (mkB (prF a (z.drop i))) := by
        rw [hd]
        refine zcD ⟨by omega, by omega⟩ ?_
        rw [show (i : Int) + 1 = ((i + 1 : Nat) : Int) by omega, ih (i + 1) _ (by omega) (by omega) (by rw [List.length_append, zmu]; omega)]
        rfl
      by_cases ha0 : a = []
      · subst ha0
        refine zaT (by rw [show (⟨#[]⟩ : ByteArray) = mkB [] from rfl]; simp) ?_
        refine hin.trans ?_
        rw [List.drop_zero]; exact fin
      · refine zaY (by rw [show (⟨#[]⟩ : ByteArray) = mkB [] from rfl, decide_eq_false (fun e => ha0 (zfm e))]; rfl) (zcD (by rw [za7]; show a.length + 1 ≤ _; omega) ?_)
        have e : zla a = a ++ [10] := if_neg ha0
        rw [show (⟨#[10]⟩ : ByteArray) = mkB [10] from rfl, zeZ, ← e]
        refine hin.trans ?_
        rw [List.drop_zero]; exact fin
    · rw [List.drop_eq_nil_of_le h]
      exact zaT (decide_eq_false (by show ¬ (i : Int) < ((mkZ z).length : Int); rw [zbL]; omega)) rfl
/-- What reference 17's Print answers. -/
theorem zfF (t : List UInt8) (z : List Row) (hne : ∀ r ∈ z, r ≠ []) (hw : t.length + 3 + wtZ z ≤ 70368744177664) : zbU (⟨mkB t, mkZ z⟩ : Gref17_Poem) = some (mkB (prT t z)) := by
  have hzl := zhW z
  unfold zbU
  refine zcC ?_
  have tail : ∀ b : List UInt8, b = zhD t z → (zbO (fun (j2 : ByteArray → Option ByteArray) => za8 (fun _ _ => none) (zcm (⟨mkB t, mkZ z⟩ : Gref17_Poem) j2) zb0 (mkB b) 0) (fun (b4 : ByteArray) => some b4)) = some (mkB (prT t z)) := fun b hb => by
    have hl := zkd t z
    have := zlz t z (by omega) (fun (b4 : ByteArray) => some b4) zb0 0 b (Nat.zero_le _) (by unfold zb0; omega) (by rw [List.drop_zero, hb]; omega)
    rw [List.drop_zero] at this
    refine zcC (this.trans ?_)
    rw [hb]; rfl
  have hd : (grd ((⟨#[35, 32]⟩ : ByteArray).size + (mkB t).size ≤ 9223372036854775807) <| grd (((⟨#[35, 32]⟩ : ByteArray) ++ mkB t).size + (⟨#[10]⟩ : ByteArray).size ≤ 9223372036854775807) <|
      (zbO (fun (j2 : ByteArray → Option ByteArray) => za8 (fun _ _ => none) (zcm (⟨mkB t, mkZ z⟩ : Gref17_Poem) j2) zb0 (((⟨#[35, 32]⟩ : ByteArray) ++ mkB t) ++ (⟨#[10]⟩ : ByteArray)) 0) (fun (b4 : ByteArray) => some b4))) =
        (zbO (fun (j2 : ByteArray → Option ByteArray) => za8 (fun _ _ => none) (zcm (⟨mkB t, mkZ z⟩ : Gref17_Poem) j2) zb0 (mkB (35 :: 32 :: t ++ [10])) 0) (fun (b4 : ByteArray) => some b4)) := by
    rw [show (⟨#[35, 32]⟩ : ByteArray) = mkB [35, 32] from rfl, show (⟨#[10]⟩ : ByteArray) = mkB [10] from rfl, zeZ, zeZ]
    refine zcD ?_ (zcD ?_ rfl)
    · rw [za7, za7]; simp only [List.length_cons, List.length_nil]; omega
    · rw [za7, za7, List.length_append]; simp only [List.length_cons, List.length_nil]; omega
  by_cases ht : t = []
  · subst ht
    refine zaT (by show (!decide (mkB [] = (⟨#[]⟩ : ByteArray))) = false; rw [show (⟨#[]⟩ : ByteArray) = mkB [] from rfl]; simp) ?_
    cases z with
    | nil => exact zaT (decide_eq_false (by simp [mkZ])) (tail [] rfl)
    | cons r z =>
      have hr := hne r (by simp)
      obtain ⟨x, r', rfl⟩ := List.exists_cons_of_ne_nil hr
      refine zaY (decide_eq_true (by show (0 : Int) < ((mkZ ((x :: r') :: z)).length : Int); rw [zbL, List.length_cons]; omega)) (za9 (a := (x :: r').map mkB) rfl (za9 (a := mkB x) rfl (za9 (zh9 x) ?_)))
      cases hti : ziE x with
      | true =>
        refine zaY rfl (hd.trans (tail _ ?_))
        have : zgI [] ((x :: r') :: z) = true := by show (decide (([] : List UInt8) ≠ []) || ziE x) = true; rw [hti]; rfl
        unfold zhD; rw [this]; rfl
      | false =>
        refine zaT rfl (tail [] ?_)
        have : zgI [] ((x :: r') :: z) = false := by show (decide (([] : List UInt8) ≠ []) || ziE x) = false; rw [hti]; rfl
        unfold zhD; rw [this]; rfl
  · refine zaY (by show (!decide (mkB t = (⟨#[]⟩ : ByteArray))) = true; rw [show (⟨#[]⟩ : ByteArray) = mkB [] from rfl, decide_eq_false (fun e => ht (zfm e))]; rfl) (hd.trans (tail _ ?_))
    unfold zhD
    have : zgI t z = true := by
      unfold zgI
      split <;> simp [ht]
    rw [this]; rfl
/-! ### Counting -/
theorem zcK (r : Row) (z : List Row) : tot (r :: z) = r.length + tot z := by unfold tot; rw [List.map_cons, List.sum_cons]
theorem znI : ∀ (z : List Row), tot z ≤ wtZ z
  | [] => Nat.le_refl _
  | r :: z => by have := znI z; have := zjc r; rw [zcK, zgP]; omega
theorem zjg : ∀ (z : List Row) (i : Nat) (r : Row), z[i]? = some r → tot (z.take (i + 1)) = tot (z.take i) + r.length
  | [], i, r, h => by simp at h
  | y :: z, 0, r, h => by
    have : y = r := by simpa using h
    subst this
    rw [List.take_succ_cons, List.take_zero, List.take_zero, zcK]; show y.length + 0 = 0 + y.length; omega
  | y :: z, i + 1, r, h => by
    rw [List.take_succ_cons, List.take_succ_cons, zcK, zcK, zjg z i r (by simpa using h)]; omega
theorem zgD : ∀ (z : List Row) (i : Nat), tot (z.take i) ≤ tot z
  | [], i => by simp
  | y :: z, 0 => by simp [tot]
  | y :: z, i + 1 => by rw [List.take_succ_cons, zcK, zcK]; have := zgD z i; omega
theorem zi4 {R : Type} {F : (Int → Int → Option R) → Int → Int → Option R} (z : List Row) (hz : tot z ≤ 70368744177664) (hzl : z.length ≤ 70368744177664) (J : Int → Option R)
    (hs : ∀ ag (n i : Int) r, zdh (mkZ z) i = some r → (i : Int) < (z.length : Int) → I64 (n + (r.length : Int)) → I64 (i + 1) → F ag n i = ag (n + (r.length : Int)) (i + 1)) (he : ∀ ag n, F ag n (z.length : Int) = J n) :
    ∀ (n i : Nat), i ≤ z.length → z.length - i < n → za8 (fun _ _ => none) F n (tot (z.take i) : Int) (i : Int) = J (tot z : Int) := by
  intro n
  induction n with
  | zero => intro i h1 h2; omega
  | succ n ih =>
    intro i hi hn
    rw [zbt]
    rcases Nat.lt_or_ge i z.length with h | h
    · have hg : zdh (mkZ z) (i : Int) = some (z[i].map mkB) := zbV (by unfold mkZ; rw [List.getElem?_map, List.getElem?_eq_getElem h]; rfl)
      have h1 := zjg z i z[i] (List.getElem?_eq_getElem h)
      have h2 := zgD z (i + 1)
      rw [hs _ _ _ _ hg (by omega) (by rw [List.length_map]; exact ⟨by omega, by omega⟩) ⟨by omega, by omega⟩, List.length_map]
      rw [show (tot (z.take i) : Int) + (z[i].length : Int) = (tot (z.take (i + 1)) : Int) by omega, show (i : Int) + 1 = ((i + 1 : Nat) : Int) by omega]
      exact ih (i + 1) (by omega) (by omega)
    · obtain rfl : i = z.length := by omega
      rw [he, List.take_length]
theorem zi0 (t : List UInt8) (z : List Row) (hz : tot z ≤ 70368744177664) (hzl : z.length ≤ 70368744177664) : zdp (⟨mkB t, mkZ z⟩ : Gref17_Poem) = some (tot z : Int) := by
  unfold zdp
  refine zcC ?_
  refine zi4 z hz hzl (fun n1 => some n1) (fun ag n i r hg hi h1 h2 => ?_) (fun ag n => ?_) zb0 0 (Nat.zero_le _) (by unfold zb0; omega)
  · unfold zdy
    exact zaY (decide_eq_true (by show (i : Int) < ((mkZ z).length : Int); rw [zbL]; exact hi)) (za9 hg (zcD h1 (zcD h2 rfl)))
  · unfold zdy
    exact zaT (decide_eq_false (by show ¬ ((z.length : Int)) < ((mkZ z).length : Int); rw [zbL]; omega)) rfl
/-- What made answers. -/
theorem zmr (t : List UInt8) (z : List Row) (hne : ∀ r ∈ z, r ≠ []) (hw : t.length + 3 + wtZ z ≤ 70368744177664) : zcx (mkB t) (mkZ z) =
    if 512 < tot z ∨ 65536 < (prT t z).length then some (none, 3) else (zcU (mkB (prT t z))).bind fun r => some (r.1, 0) := by
  unfold zcx
  have h1 := znI z
  have h2 := zhW z
  have key := zi4 (F := zdP (mkZ z) (fun (n1 : Int) => zaG (zc1 (mkB t) (mkZ z)) fun (r1 : ByteArray) => zaU (decide ((512 : Int) < n1)) (some (none, 3)) (zaU (decide ((65536 : Int) < (r1.size : Int))) (some (none, 3)) (zaG (zcU r1) fun (r2 : ((Option Gpoem_Poem) × Gapi_Spot)) => some (r2.1, 0))))) z (by omega) (by omega)
    (fun (n1 : Int) => zaG (zc1 (mkB t) (mkZ z)) fun (r1 : ByteArray) => zaU (decide ((512 : Int) < n1)) (some (none, 3)) (zaU (decide ((65536 : Int) < (r1.size : Int))) (some (none, 3)) (zaG (zcU r1) fun (r2 : ((Option Gpoem_Poem) × Gapi_Spot)) => some (r2.1, 0))))
    (fun ag n i r hg hi h1 h2 => by
      unfold zdP
      exact zaY (decide_eq_true (by rw [zbL]; exact hi)) (za9 hg (zcD h1 (zcD h2 rfl))))
    (fun ag n => by
      unfold zdP
      exact zaT (decide_eq_false (by rw [zbL]; omega)) rfl) zb0 0 (Nat.zero_le _) (by unfold zb0; omega)
  refine zcC (key.trans ?_)
  refine za9 (zj4 t z hne hw) ?_
  by_cases h512 : 512 < tot z
  · rw [if_pos (.inl h512)]; exact zaY (decide_eq_true (by omega)) rfl
  · refine zaT (decide_eq_false (by omega)) ?_
    by_cases hl : 65536 < (prT t z).length
    · rw [if_pos (.inr hl)]; exact zaY (decide_eq_true (by rw [za7]; omega)) rfl
    · rw [if_neg (by omega)]
      exact zaT (decide_eq_false (by rw [za7]; omega)) rfl
end Go.Proofs.YtgfkogafkhbgnaaDoor
namespace Go.Proofs.YtgfkogafkhbgnaaDoor
open Go.RowKit Go.Lib
set_option linter.unusedVariables false
set_option linter.unusedSimpArgs false
def noE (x : List UInt8) : Prop := ∀ b ∈ x, isE b = false
structure GLn (x : List UInt8) : Prop where
  bl : zg9 x = false
  le : x.length ≤ 1024
  ne : noE x
/-! ### What a poem that was read is like -/
def zft : Nat → Row → List (Nat × List UInt8)
  | _, [] => []
  | i, x :: r => (i, x) :: zft (i + 1) r
def ze2 : Nat → List Row → List (Nat × Nat × List UInt8)
  | _, [] => []
  | k, r :: z => (zft 0 r).map (fun p => (k, p)) ++ ze2 (k + 1) z
def zob (v : Gapi_Verse) : ByteArray × Int × Int × Int := (v.Text, v.Indent, v.Stanza, v.In)
def zlJ (p : Nat × Nat × List UInt8) : ByteArray × Int × Int × Int := (mkB (p.2.2.drop (ind p.2.2)), (ind p.2.2 : Int), (p.1 : Int), (p.2.1 : Int))
def VOk (vs : List Gapi_Verse) (z : List Row) : Prop := vs.map zob = (ze2 0 z).map zlJ
theorem zkh (x : List UInt8) : ∀ (r : Row) (i : Nat), zft i (r ++ [x]) = zft i r ++ [(i + r.length, x)]
  | [], i => rfl
  | y :: r, i => by
    show (i, y) :: zft (i + 1) (r ++ [x]) = _
    rw [zkh x r (i + 1), List.length_cons, show i + 1 + r.length = i + (r.length + 1) by omega]; rfl
theorem zg1 : ∀ (a b : List Row) (k : Nat), ze2 k (a ++ b) = ze2 k a ++ ze2 (k + a.length) b
  | [], b, k => rfl
  | r :: a, b, k => by
    show _ ++ ze2 (k + 1) (a ++ b) = _
    rw [zg1 a b (k + 1), List.length_cons, show k + 1 + a.length = k + (a.length + 1) by omega, ← List.append_assoc]; rfl
theorem zim (r : Row) (k : Nat) : ze2 k [r] = (zft 0 r).map (fun p => (k, p)) := List.append_nil _
structure PInv (st : RS) : Prop extends RInv st where
  vok : VOk st.vs st.stz
  tE : noE st.t
  tL : st.t.length ≤ 1022
  ln : ∀ r ∈ st.stz, ∀ x ∈ r, GLn x
  fr : ∀ v ∈ st.vs, 0 ≤ v.Span_From
theorem zlP (st : RS) : ze2 0 (zcG st) = ze2 0 st.stz := by
  unfold zcG
  split
  · rfl
  · rw [zg1, zim]; exact List.append_nil _
theorem PInv.step {st st' : RS} {x : Nat × List UInt8} (h : PInv st) (hx : noE x.2) (hs : zfs st x = .ok st') : PInv st' := by
  refine ⟨h.toRInv.step hs, ?_, ?_, ?_, ?_, ?_⟩ <;> unfold zfs at hs
  all_goals
    split at hs
    · cases hs; first | exact h.vok | exact h.tE | exact h.tL | exact h.ln | exact h.fr
    split at hs
    · cases hs
    split at hs
  · cases hs; exact h.vok
  · split at hs
    · cases hs
    · cases hs
      obtain ⟨init, r, he, hl, hdl, htot, hsp⟩ := zjp h.toRInv
      show (st.vs ++ [zf6 x.1 x.2 (zcG st)]).map zob = (ze2 0 ((zcG st).dropLast ++ [ze0 (zcG st) ++ [x.2]])).map zlJ
      rw [hdl, hl, zg1, zim, zkh, List.map_append, List.map_append, List.map_append, List.map_append, ← List.append_assoc]
      have h2 : ze2 0 st.stz = ze2 0 init ++ (zft 0 r).map (fun p => (init.length, p)) := by
        rw [← zlP, he, zg1, zim, Nat.zero_add]
      have h3 := h.vok
      unfold VOk at h3
      rw [h3, h2, List.map_append, Nat.zero_add]
      congr 1
      unfold zf6 zob
      rw [hl, he]
      simp [zlJ]
  · rename_i ht
    cases hs
    intro b hb
    exact hx b (List.mem_of_mem_drop hb)
  · split at hs
    · cases hs
    · cases hs; exact h.tE
  · rename_i hl ht
    cases hs
    show (x.2.drop 2).length ≤ 1022
    rw [List.length_drop]; omega
  · split at hs
    · cases hs
    · cases hs; exact h.tL
  · cases hs; exact h.ln
  · rename_i hb hl ht
    split at hs
    · cases hs
    · cases hs
      obtain ⟨init, r, he, hl2, hdl, htot, hsp⟩ := zjp h.toRInv
      intro r' hr' y hy
      have hold : ∀ r ∈ zcG st, ∀ x ∈ r, GLn x := fun r hr x hx => by
        unfold zcG at hr
        split at hr
        · exact h.ln r hr x hx
        · rcases List.mem_append.1 hr with hr | hr
          · exact h.ln r hr x hx
          · rw [List.mem_singleton] at hr; subst hr; cases hx
      have hr2 : r' ∈ (zcG st).dropLast ++ [ze0 (zcG st) ++ [x.2]] := hr'
      rw [hdl, hl2] at hr2
      rcases List.mem_append.1 hr2 with hr2 | hr2
      · exact hold r' (by rw [he]; exact List.mem_append_left _ hr2) y hy
      · rw [List.mem_singleton] at hr2
        subst hr2
        rcases List.mem_append.1 hy with hy | hy
        · exact hold r (by rw [he]; simp) y hy
        · rw [List.mem_singleton] at hy
          subst hy
          exact ⟨by simpa using hb, by omega, hx⟩
  · cases hs; exact h.fr
  · split at hs
    · cases hs
    · cases hs
      intro v hv
      rcases List.mem_append.1 (show v ∈ st.vs ++ [zf6 x.1 x.2 (zcG st)] from hv) with hv | hv
      · exact h.fr v hv
      · rw [List.mem_singleton] at hv; subst hv
        show (0 : Int) ≤ (x.1 : Int) + (ind x.2 : Int)
        omega
theorem zpy : PInv rs0 := ⟨zkD, rfl, (fun b hb => by cases hb), Nat.zero_le _, (fun r hr => by cases hr), (fun v hv => by cases hv)⟩
theorem PInv.fold : ∀ {xs : List (Nat × List UInt8)} {st st' : RS}, PInv st → (∀ x ∈ xs, noE x.2) → zex st xs = .ok st' → PInv st'
  | [], st, st', h, hx, hs => by cases hs; exact h
  | x :: xs, st, st', h, hx, hs => by
    unfold zex at hs
    cases he : zfs st x with
    | ok s1 => rw [he] at hs; exact PInv.fold (h.step (hx x (by simp)) he) (fun y hy => hx y (by simp [hy])) hs
    | error e => rw [he] at hs; cases hs
theorem zmv (T : List UInt8) : ∀ x ∈ zfI T, noE x.2 := by
  intro x hx
  obtain ⟨y, hy, rfl⟩ := List.mem_map.1 hx
  exact (zjj T y hy).2.2
theorem zn5 {T : List UInt8} {st : RS} (h : rd T = .ok st) : PInv st ∧ T.length ≤ 65536 := by
  unfold rd at h
  split at h
  · cases h
  · exact ⟨PInv.fold zpy (zmv T) h, by omega⟩
/-! ### The lines of what is printed -/
def plL : Bool → List Row → Row
  | _, [] => []
  | a, r :: z => (if a then [[]] else []) ++ r ++ plL true z
def zlM (t : List UInt8) (z : List Row) : Row := if zgI t z then [35 :: 32 :: t] else []
theorem zkJ (a b : Row) : lnT (a ++ b) = lnT a ++ lnT b := List.flatMap_append
theorem zoQ {r : Row} (h : r ≠ []) : lnT r ≠ [] := by
  obtain ⟨x, r, rfl⟩ := List.exists_cons_of_ne_nil h
  rw [zfT]; simp
theorem znO : ∀ (z : List Row) (a : List UInt8), (∀ r ∈ z, r ≠ []) → prF a z = a ++ lnT (plL (decide (a ≠ [])) z)
  | [], a, h => (List.append_nil _).symm
  | r :: z, a, h => by
    show prF (zla a ++ lnT r) z = _
    have hne : zla a ++ lnT r ≠ [] := by
      intro e
      exact zoQ (h r (by simp)) (List.append_eq_nil_iff.1 e).2
    rw [znO z _ (fun y hy => h y (by simp [hy])), decide_eq_true hne]
    show _ = a ++ lnT ((if decide (a ≠ []) = true then [[]] else []) ++ r ++ plL true z)
    rw [zkJ, zkJ]
    by_cases ha : a = []
    · subst ha
      simp [zla, lnT]
    · have e : zla a = a ++ [10] := if_neg ha
      rw [decide_eq_true ha, if_pos rfl, e]
      show a ++ [10] ++ lnT r ++ _ = a ++ ([10] ++ lnT r ++ _)
      simp only [List.append_assoc]
def prL (t : List UInt8) (z : List Row) : Row := zlM t z ++ plL (zgI t z) z
theorem zmj (t : List UInt8) (z : List Row) (h : ∀ r ∈ z, r ≠ []) : prT t z = lnT (prL t z) := by
  unfold prT prL zlM zhD
  rw [znO z _ h, zkJ]
  cases zgI t z with
  | true =>
    have e1 : ((if true = true then (35 :: 32 :: t ++ [10]) else []) : List UInt8) = 35 :: 32 :: t ++ [10] := rfl
    have e2 : decide ((35 :: 32 :: t ++ [10] : List UInt8) ≠ []) = true := decide_eq_true (by simp)
    rw [e1, e2]
    show _ = lnT [35 :: 32 :: t] ++ _
    rw [zfT]
    show _ = 35 :: 32 :: t ++ [10] ++ [] ++ _
    rw [List.append_nil]
  | false => rfl
def itL : Nat → Row → List (Nat × List UInt8)
  | _, [] => []
  | f, x :: r => (f, x) :: itL (f + x.length + 1) r
theorem zjq : ∀ (a b : Row) (f : Nat), itL f (a ++ b) = itL f a ++ itL (f + wtR a) b
  | [], b, f => rfl
  | x :: a, b, f => by
    show _ :: itL (f + x.length + 1) (a ++ b) = _
    rw [zjq a b, zfP, show f + x.length + 1 + wtR a = f + (x.length + 1 + wtR a) by omega]; rfl
def zpw : Nat → Row → List (Nat × Nat)
  | f, [] => [(f, f)]
  | f, x :: r => (f, f + x.length) :: zpw (f + x.length + 1) r
theorem zl4 : ∀ (x t : List UInt8) (f a : Nat), noE x → spP false f a (x ++ t) = spP false f (a + x.length) t
  | [], t, f, a, h => rfl
  | b :: x, t, f, a, h => by
    have hb := h b (by simp)
    have h13 : b ≠ 13 := fun e => by rw [e] at hb; cases hb
    have h10 : b ≠ 10 := fun e => by rw [e] at hb; cases hb
    rw [List.cons_append, spP, if_neg h13, if_neg h10, zl4 x t f (a + 1) (fun y hy => h y (by simp [hy])), List.length_cons, show a + 1 + x.length = a + (x.length + 1) by omega]
theorem zjT : ∀ (r : Row) (f : Nat), (∀ x ∈ r, noE x) → spP false f f (lnT r) = zpw f r
  | [], f, h => rfl
  | x :: r, f, h => by
    rw [zfT, List.append_assoc, zl4 x _ f f (h x (by simp))]
    show spP false f (f + x.length) (10 :: lnT r) = _
    rw [spP, if_neg (by decide), if_pos rfl, zjT r _ (fun y hy => h y (by simp [hy]))]
    rfl
theorem zih : ∀ (r : Row) (pre : List UInt8) (f : Nat), pre.length = f → (zpw f r).map (fun x => (x.1, ((pre ++ lnT r).drop x.1).take (x.2 - x.1))) = itL f r ++ [(f + wtR r, [])]
  | [], pre, f, h => by
    show [(f, _)] = [(f + 0, [])]
    rw [Nat.sub_self, List.take_zero]; rfl
  | x :: r, pre, f, h => by
    show (f, _) :: _ = (f, x) :: _
    have h2 := zih r (pre ++ (x ++ [10])) (f + x.length + 1) (by rw [List.length_append, List.length_append]; simp; omega)
    rw [zfT]
    congr 1
    · congr 1
      rw [← h, List.drop_left, show pre.length + x.length - pre.length = x.length by omega, List.append_assoc, List.take_left]
    · rw [List.append_assoc] at h2
      rw [h2, zfP, show f + x.length + 1 + wtR r = f + (x.length + 1 + wtR r) by omega]
      rfl
theorem znh (r : Row) (h : ∀ x ∈ r, noE x) : zfI (lnT r) = itL 0 r ++ [(wtR r, [])] := by
  unfold zfI zcE
  rw [zjT r 0 h]
  have := zih r [] 0 rfl
  rw [Nat.zero_add] at this
  exact this
/-! ### Reading them -/
theorem zgb : ∀ (xs ys : List (Nat × List UInt8)) (st st' : RS), zex st xs = .ok st' → zex st (xs ++ ys) = zex st' ys
  | [], ys, st, st', h => by cases h; rfl
  | x :: xs, ys, st, st', h => by
    unfold zex at h
    rw [List.cons_append]
    conv => lhs; unfold zex
    cases he : zfs st x with
    | ok s1 => rw [he] at h; exact zgb xs ys s1 st' h
    | error e => rw [he] at h; cases h
theorem ziV {st : RS} {f : Nat} {x : List UInt8} (hx : GLn x) (ht : ¬ (st.first = true ∧ ziE x = true)) (hl : st.vs.length < 512) : zfs st (f, x) = .ok (ziw st f x) := by
  unfold zfs
  rw [if_neg (by rw [hx.bl]; decide), if_neg (by have := hx.le; show ¬ 1024 < x.length; omega), if_neg ht, if_neg (by omega)]
theorem zlf : ∀ (r : Row) (st : RS) (f : Nat) (init : List Row) (cur : Row), (∀ x ∈ r, GLn x) → st.row = true → st.first = false → st.stz = init ++ [cur] → st.vs.length + r.length ≤ 512 →
    ∃ st', zex st (itL f r) = .ok st' ∧ st'.t = st.t ∧ st'.stz = init ++ [cur ++ r] ∧ st'.row = true ∧ st'.first = false ∧ st'.vs.length = st.vs.length + r.length
  | [], st, f, init, cur, hg, hr, hf, hz, hl => ⟨st, rfl, rfl, by rw [hz, List.append_nil], hr, hf, rfl⟩
  | x :: r, st, f, init, cur, hg, hr, hf, hz, hl => by
    rw [List.length_cons] at hl
    have hs : zfs st (f, x) = .ok (ziw st f x) := ziV (hg x (by simp)) (by rw [hf]; simp) (by omega)
    have ho : zcG st = init ++ [cur] := by unfold zcG; rw [hr, if_pos rfl, hz]
    have hz' : (ziw st f x).stz = init ++ [cur ++ [x]] := by
      show (zcG st).dropLast ++ [ze0 (zcG st) ++ [x]] = _
      rw [ho, List.dropLast_concat]
      congr 2
      unfold ze0; rw [List.getLastD_concat]
    obtain ⟨st', h1, h2, h3, h4, h5, h6⟩ := zlf r (ziw st f x) (f + x.length + 1) init (cur ++ [x]) (fun y hy => hg y (by simp [hy])) rfl rfl hz' (by show (st.vs ++ [_]).length + r.length ≤ 512; rw [List.length_append, List.length_singleton]; omega)
    refine ⟨st', ?_, h2, by rw [h3, List.append_assoc]; rfl, h4, h5, ?_⟩
    · show zex st ((f, x) :: itL (f + x.length + 1) r) = _
      unfold zex
      rw [hs]; exact h1
    · rw [h6]
      show (st.vs ++ [_]).length + _ = _
      rw [List.length_append, List.length_singleton, List.length_cons]; omega
theorem zno (r : Row) (st : RS) (f : Nat) (hg : ∀ x ∈ r, GLn x) (hne : r ≠ []) (hr : st.row = false) (hf : st.first = true → ∀ x, r.head? = some x → ziE x = false) (hl : st.vs.length + r.length ≤ 512) :
    ∃ st', zex st (itL f r) = .ok st' ∧ st'.t = st.t ∧ st'.stz = st.stz ++ [r] ∧ st'.row = true ∧ st'.first = false ∧ st'.vs.length = st.vs.length + r.length := by
  obtain ⟨x, r, rfl⟩ := List.exists_cons_of_ne_nil hne
  rw [List.length_cons] at hl
  have hs : zfs st (f, x) = .ok (ziw st f x) := ziV (hg x (by simp)) (fun ⟨a, b⟩ => by rw [hf a x rfl] at b; cases b) (by omega)
  have ho : zcG st = st.stz ++ [[]] := by unfold zcG; rw [hr, if_neg (by decide)]
  have hz' : (ziw st f x).stz = st.stz ++ [[x]] := by
    show (zcG st).dropLast ++ [ze0 (zcG st) ++ [x]] = _
    rw [ho, List.dropLast_concat]
    congr 2
    unfold ze0; rw [List.getLastD_concat]; rfl
  obtain ⟨st', h1, h2, h3, h4, h5, h6⟩ := zlf r (ziw st f x) (f + x.length + 1) st.stz [x] (fun y hy => hg y (by simp [hy])) rfl rfl hz' (by show (st.vs ++ [_]).length + r.length ≤ 512; rw [List.length_append, List.length_singleton]; omega)
  refine ⟨st', ?_, h2, h3, h4, h5, ?_⟩
  · show zex st ((f, x) :: itL (f + x.length + 1) r) = _
    unfold zex
    rw [hs]; exact h1
  · rw [h6]
    show (st.vs ++ [_]).length + _ = _
    rw [List.length_append, List.length_singleton, List.length_cons]; omega
theorem zmC : ∀ (z : List Row) (a : Bool) (st : RS) (f : Nat), (∀ r ∈ z, r ≠ []) → (∀ r ∈ z, ∀ x ∈ r, GLn x) → (a = false → st.row = false) → (st.first = true → ∀ r x, z.head? = some r → r.head? = some x → ziE x = false) → st.vs.length + tot z ≤ 512 →
    ∃ st', zex st (itL f (plL a z)) = .ok st' ∧ st'.t = st.t ∧ st'.stz = st.stz ++ z ∧ st'.vs.length = st.vs.length + tot z
  | [], a, st, f, hne, hg, hr, hf, hl => ⟨st, rfl, rfl, by rw [List.append_nil], rfl⟩
  | r :: z, a, st, f, hne, hg, hr, hf, hl => by
    rw [zcK] at hl
    have hb : ∃ st1 f1, zex st (itL f (if a then [[]] else [])) = .ok st1 ∧ f1 = f + wtR (if a then [[]] else []) ∧ st1.row = false ∧ st1.t = st.t ∧ st1.stz = st.stz ∧ st1.vs = st.vs ∧ st1.first = st.first := by
      cases a with
      | false => exact ⟨st, _, rfl, rfl, hr rfl, rfl, rfl, rfl, rfl⟩
      | true => exact ⟨{ st with row := false }, _, rfl, rfl, rfl, rfl, rfl, rfl, rfl⟩
    obtain ⟨st1, f1, e1, rfl, hr1, ht1, hz1, hv1, hf1⟩ := hb
    obtain ⟨st2, e2, ht2, hz2, hr2, hf2, hl2⟩ := zno r st1 (f + wtR (if a then [[]] else [])) (hg r (by simp)) (hne r (by simp)) hr1 (fun h x hx => hf (by rw [← hf1]; exact h) r x rfl hx) (by rw [hv1]; omega)
    obtain ⟨st3, e3, ht3, hz3, hl3⟩ := zmC z true st2 (f + wtR ((if a then [[]] else []) ++ r)) (fun y hy => hne y (by simp [hy])) (fun y hy => hg y (by simp [hy])) (fun h => by cases h) (fun h => by rw [hf2] at h; cases h) (by rw [hl2, hv1]; omega)
    refine ⟨st3, ?_, by rw [ht3, ht2, ht1], by rw [hz3, hz2, hz1, List.append_assoc]; rfl, by rw [hl3, hl2, hv1, zcK]; omega⟩
    show zex st (itL f ((if a then [[]] else []) ++ r ++ plL true z)) = _
    rw [zjq, zjq, List.append_assoc, zgb _ _ _ _ e1, zgb _ _ _ _ e2]
    exact e3
structure GoodP (t : List UInt8) (z : List Row) : Prop where
  tE : noE t
  tL : t.length ≤ 1022
  ne : ∀ r ∈ z, r ≠ []
  ln : ∀ r ∈ z, ∀ x ∈ r, GLn x
theorem PInv.good {st : RS} (h : PInv st) : GoodP st.t st.stz := ⟨h.tE, h.tL, h.ne, h.ln⟩
theorem zmk : ∀ (z : List Row) (a : Bool), (∀ r ∈ z, ∀ x ∈ r, GLn x) → ∀ x ∈ plL a z, noE x
  | [], a, h, x, hx => by cases hx
  | r :: z, a, h, x, hx => by
    have hx2 : x ∈ (if a then [[]] else []) ++ r ++ plL true z := hx
    rcases List.mem_append.1 hx2 with hx2 | hx2
    · rcases List.mem_append.1 hx2 with hx2 | hx2
      · cases a with
        | false => cases hx2
        | true => rw [if_pos rfl, List.mem_singleton] at hx2; subst hx2; intro b hb; cases hb
      · exact (h r (by simp) x hx2).ne
    · exact zmk z true (fun y hy => h y (by simp [hy])) x hx2
/-- What is printed is read as it was. -/
theorem zna {t : List UInt8} {z : List Row} (h : GoodP t z) (hn : tot z ≤ 512) (hl : (prT t z).length ≤ 65536) : ∃ st, rd (prT t z) = .ok st ∧ st.t = t ∧ st.stz = z := by
  have htE : noE (35 :: 32 :: t) := by
    intro b hb
    rcases List.mem_cons.1 hb with rfl | hb
    · rfl
    · rcases List.mem_cons.1 hb with rfl | hb
      · rfl
      · exact h.tE b hb
  have hno : ∀ x ∈ prL t z, noE x := by
    intro x hx
    rcases List.mem_append.1 hx with hx | hx
    · unfold zlM at hx
      split at hx
      · rw [List.mem_singleton] at hx; subst hx; exact htE
      · cases hx
    · exact zmk z _ h.ln x hx
  unfold rd
  rw [if_neg (by omega), zmj t z h.ne, znh _ hno]
  have hh : ∃ st1, zex rs0 (itL 0 (zlM t z)) = .ok st1 ∧ st1.row = false ∧ st1.t = t ∧ st1.stz = [] ∧ st1.vs = [] ∧ (st1.first = true → ∀ r x, z.head? = some r → r.head? = some x → ziE x = false) := by
    unfold zlM
    cases hn : zgI t z with
    | true =>
      refine ⟨⟨t, [], [], false, false⟩, ?_, rfl, rfl, rfl, rfl, fun h => by cases h⟩
      rw [if_pos rfl]
      show zex rs0 [(0, 35 :: 32 :: t)] = _
      unfold zex
      have : zfs rs0 (0, 35 :: 32 :: t) = .ok ⟨t, [], [], false, false⟩ := by
        unfold zfs
        have hb : zg9 (35 :: 32 :: t) = false := rfl
        have hti : ziE (35 :: 32 :: t) = true := rfl
        rw [if_neg (by rw [hb]; decide), if_neg (by have := h.tL; show ¬ 1024 < (35 :: 32 :: t).length; rw [List.length_cons, List.length_cons]; omega), if_pos ⟨rfl, hti⟩]
        rfl
      rw [this]; rfl
    | false =>
      have ht : t = [] := by
        unfold zgI at hn
        split at hn
        · rw [Bool.or_eq_false_iff] at hn; simpa using hn.1
        · simpa using hn
      refine ⟨rs0, rfl, rfl, ht.symm, rfl, rfl, fun _ r x hr hx => ?_⟩
      cases z with
      | nil => cases hr
      | cons r' z =>
        have e : r' = r := Option.some.inj hr
        subst e
        cases r' with
        | nil => cases hx
        | cons x' r' =>
          have e : x' = x := Option.some.inj hx
          subst e
          have : (decide (t ≠ []) || ziE x') = false := hn
          rw [Bool.or_eq_false_iff] at this
          exact this.2
  obtain ⟨st1, e1, hr1, ht1, hz1, hv1, hf1⟩ := hh
  obtain ⟨st2, e2, ht2, hz2, hl2⟩ := zmC z (zgI t z) st1 (0 + wtR (zlM t z)) h.ne h.ln (fun _ => hr1) hf1 (by rw [hv1]; show 0 + _ ≤ _; omega)
  refine ⟨{ st2 with row := false }, ?_, ht2.trans ht1, by show st2.stz = z; rw [hz2, hz1]; rfl⟩
  unfold prL
  rw [zjq, List.append_assoc, zgb _ _ _ _ e1, zgb _ _ _ _ e2]
  rfl
end Go.Proofs.YtgfkogafkhbgnaaDoor
namespace Go.Proofs.YtgfkogafkhbgnaaDoor
open Go.RowKit Go.Lib
set_option linter.unusedVariables false
set_option linter.unusedSimpArgs false
def zdn (p1 : Gref17_Poem) (j1 : (List (List ByteArray)) → Option (Gref17_Poem × Int)) (ag1 : (List (List ByteArray)) → Int → Option (Gref17_Poem × Int)) (out4 : List (List ByteArray)) (i3 : Int) : Option (Gref17_Poem × Int) := zaU (decide ((i3 : Int) < (p1.Stanzas.length : Int))) ( zaG (zdh p1.Stanzas i3) fun (x1 : List ByteArray) => grd (out4.length + 1 ≤ 2147483648) <| grd (I64 (i3 + 1)) <| ag1 (out4 ++ [x1]) (i3 + 1)
) ( j1 out4
)
def zcX (q1 : Gref17_Poem) (j2 : (List (List ByteArray)) → Option (Gref17_Poem × Int)) (ag2 : (List (List ByteArray)) → Int → Option (Gref17_Poem × Int)) (out8 : List (List ByteArray)) (i6 : Int) : Option (Gref17_Poem × Int) := zaU (decide ((i6 : Int) < (q1.Stanzas.length : Int))) ( zaG (zdh q1.Stanzas i6) fun (x2 : List ByteArray) => grd (out8.length + 1 ≤ 2147483648) <| grd (I64 (i6 + 1)) <| ag2 (out8 ++ [x2]) (i6 + 1)
) ( j2 out8
)
def zeq (p1 : Gref17_Poem) (q1 : Gref17_Poem) : Option (Gref17_Poem × Int) := zbO (fun (j1 : (List (List ByteArray)) → Option (Gref17_Poem × Int)) => za8 (fun _ _ => none) (zdn p1 j1) zb0 ([] : List (List ByteArray)) 0
) (fun (out1 : List (List ByteArray)) => zbO (fun (j2 : (List (List ByteArray)) → Option (Gref17_Poem × Int)) => za8 (fun _ _ => none) (zcX q1 j2) zb0 out1 0
) (fun (out5 : List (List ByteArray)) => zaG (zdp (⟨p1.Title, out5⟩ : Gref17_Poem)) fun (r1 : Int) => zaU (decide ((512 : Int) < r1)) ( some ((⟨ByteArray.empty, ([] : List (List ByteArray))⟩ : Gref17_Poem), 3)
) ( zaG (zbU (⟨p1.Title, out5⟩ : Gref17_Poem)) fun (r2 : ByteArray) => zaU (decide ((65536 : Int) < (r2.size : Int))) ( some ((⟨ByteArray.empty, ([] : List (List ByteArray))⟩ : Gref17_Poem), 3)
) ( some ((⟨p1.Title, out5⟩ : Gref17_Poem), 0)
)
)
)
)
theorem zjn {p1 : Gref17_Poem} {p1_h0 : Hd} {vvp10 : Value} {kp10 : Nat} {Zp10 zp10 : List ((List ByteArray) × Hd)} (hwp10 : Vw vvp10 Zp10 1 kp10 p1_h0.v zp10) (hzp10 : zp10.map Prod.fst = p1.Stanzas) {q1 : Gref17_Poem} {q1_h0 : Hd} {vvq10 : Value} {kq10 : Nat} {Zq10 zq10 : List ((List ByteArray) × Hd)} (hwq10 : Vw vvq10 Zq10 1 kq10 q1_h0.v zq10) (hzq10 : zq10.map Prod.fst = q1.Stanzas) {r : (Gref17_Poem × Int)} (h : zeq p1 q1 = some r) : FnR Tryd.prog 36 [.agg #[.string p1.Title, p1_h0.v], .agg #[.string q1.Title, q1_h0.v]] [zbk zae 1 vvp10 kp10 Zp10, zbM zaD Zp10, zbk zae 1 vvq10 kq10 Zq10, zbM zaD Zq10] [] (fun b : Hd × {zs : List ((List ByteArray) × Hd) // zs.map Prod.fst = r.1.Stanzas ∧ ∀ z ∈ zs, z ∈ Zp10 ++ Zq10} => .tuple #[.agg #[.string r.1.Title, b.1.v], zI r.2]) (fun b => [vec zae 48 1 b.1.v b.2.1]) := by
 unfold zeq at h
 refine FnR.intro Tryd.func36 rfl Tryd.ntmps36 (by simp) ?_
 intro w0 K hrd
 obtain ⟨j1, hj1, h⟩ := zcp h
 refine zbm (β := (List (List ByteArray)) × Nat × Nat × Nat × Hd × (List ((List ByteArray) × Hd))) 2 rfl (fun b => j1 b.1 = some r ∧ b.2.2.2.2.2.map Prod.fst = b.1 ∧ ∀ z ∈ b.2.2.2.2.2, z ∈ Zp10 ++ Zq10) (fun b => []) (fun b => [(3, zP b.2.1), (4, zP b.2.2.1), (6, zP b.2.2.2.1)]) (fun b => [cells b.2.1 [.string q1.Title, q1_h0.v] 56, cells b.2.2.1 [.string ByteArray.empty, .slice none 0 0] 56, cells b.2.2.2.1 [.string p1.Title, b.2.2.2.2.1.v] 56, vec zae 48 1 b.2.2.2.2.1.v b.2.2.2.2.2]) (fun cut => ?_) ?_
 ·
  refine zas (zai ?_)
  refine zeE rfl dc rfl (fun b4 => ?_)
  refine zeE rfl dc rfl (fun b5 => ?_)
  show TO _ _ _ _ _ _ _ _ _ _ [cells b4 [.string p1.Title, p1_h0.v] 56, cells b5 [.string q1.Title, q1_h0.v] 56]
  refine zbl zgC rfl dc (fun b6 => ?_)
  refine zak rfl dc rfl (zap (zaj (zas (zai (zar zeL rfl dc rfl (show _ = 0 from rfl) (zaN (k := 0) zgm rfl dc rfl rfl rfl ?_))))))
  refine zbe (v := .agg #[.string p1.Title, .slice none 0 0]) (ps := [(0, .tmp 10)]) rfl dc rfl (fun _ => by kernel_rfl) ?_
  refine zbl zgC rfl dc (fun b7 => ?_)
  show TO _ _ _ _ _ _ _ _ _ _ [cells b4 [.string p1.Title, p1_h0.v] 56, cells b5 [.string q1.Title, q1_h0.v] 56, cells b6 [.string ByteArray.empty, .slice none 0 0] 56, cells b7 [.string ByteArray.empty, .slice none 0 0] 56]
  refine zaZ (k := 3) (vs := [.string p1.Title, .slice none 0 0]) (l' := [.string p1.Title, .slice none 0 0]) zeG rfl rfl rfl rfl rfl (show _ ≤ _ by simp) rfl rfl (zap (zaj (cut (zas (zai (zak rfl dc rfl (zap (zaj (za2 (zel (enc := zae) (e := 48) (size := 1) ?_))))))))))
  show TC _ _ _ _ _ _ _ _ _ [cells b4 [.string p1.Title, p1_h0.v] 56, cells b5 [.string q1.Title, q1_h0.v] 56, cells b6 [.string ByteArray.empty, .slice none 0 0] 56, cells b7 [.string p1.Title, .slice none 0 0] 56, vec zae 48 1 (.slice none 0 0) ([] : List ((List ByteArray) × Hd))]
  refine zbJ (β := Nat × (List (List ByteArray)) × Int × Hd × (List ((List ByteArray) × Hd))) (fun b => za8 (fun _ _ => none) (zdn p1 j1) b.1 b.2.1 b.2.2.1 = some r ∧ b.2.2.2.2.map Prod.fst = b.2.1 ∧ ∀ z ∈ b.2.2.2.2, z ∈ Zp10 ++ Zq10) (fun b => []) (fun b => [(2, zP b4), (3, zP b5), (4, zP b6), (6, zP b7), (7, zI b.2.2.1)]) (fun b => [cells b4 [.string p1.Title, p1_h0.v] 56, cells b5 [.string q1.Title, q1_h0.v] 56, cells b6 [.string ByteArray.empty, .slice none 0 0] 56, cells b7 [.string p1.Title, b.2.2.2.1.v] 56, vec zae 48 1 b.2.2.2.1.v b.2.2.2.2]) (fun b => b.1) (zb0, ([] : List (List ByteArray)), 0, Hd.nil, ([] : List ((List ByteArray) × Hd))) ⟨h, rfl, (fun _ h => nomatch h)⟩ rfl (zad rfl (zad rfl (zad rfl (zad rfl (zad rfl (zaH)))))) (zal [0, 1, 2, 3, 4] kr rfl) ?_
  rintro ⟨n1, out4, i3, hd4, zs4⟩ ⟨h, hz4, hm4⟩
  cases n1 with
  | zero => exact zdV h
  | succ n1 =>
   obtain ⟨ag1, hag1⟩ : ∃ ag, ag = za8 (fun _ _ => none) (zdn p1 j1) n1 := ⟨_, rfl⟩
   have h : zdn p1 j1 ag1 out4 i3 = some r := by rw [hag1]; exact h
   unfold zdn at h
   show TC _ _ _ _ _ ([]) _ _ [(2, zP b4), (3, zP b5), (4, zP b6), (6, zP b7), (7, zI i3)] [cells b4 [.string p1.Title, p1_h0.v] 56, cells b5 [.string q1.Title, q1_h0.v] 56, cells b6 [.string ByteArray.empty, .slice none 0 0] 56, cells b7 [.string p1.Title, hd4.v] 56, vec zae 48 1 hd4.v zs4]
   refine zas (zas (zai (zah rfl dc rfl (zar zbC rfl dc rfl (show _ = 1 from rfl) (zaN (k := 0) zc7 rfl dc rfl rfl rfl (zcS hzp10 hwp10 rfl dc rfl Tryd.underlying54 (zaz rfl dc rfl rfl zbF (zap (zaj ?_)))))))))
   refine zaM rfl (fun hb1 => ?_) (fun hb1 => ?_)
   ·
    have h := za0 hb1 h
    refine zaP (zaj (zas (za2 ?_)))
    obtain ⟨x1, hq1, h⟩ := zbN h
    obtain ⟨eh1, eq1⟩ := zeb hzp10 hq1
    have hrd : Rd _ _ [zbk zae 1 vvp10 kp10 Zp10, zbM zaD Zp10, zbk zae 1 vvq10 kq10 Zq10, zbM zaD Zq10, zej zbT 1 eh1 x1] := hrd.openEl (i := 1) (z := (x1, eh1)) rfl (Vw.get hwp10 eq1)
    obtain ⟨vv1, k1, L1, hV1, hrd⟩ := hrd.openSl (i := 4) rfl
    replace hrd : Rd _ _ [zbk zae 1 vvp10 kp10 Zp10, zbM zaD Zp10, zbk zae 1 vvq10 kq10 Zq10, zbM zaD Zq10, zej zbT 1 eh1 x1, zbk zbT 1 vv1 k1 L1] := hrd
    obtain ⟨hg1, h⟩ := zcb h
    refine zhb (β := Nat) 8 7 _ [(0, 19, .pointer (some ⟨b7, 1, none⟩)), (1, 20, hd4.v), (2, 21, .pointer (some ⟨b4, 1, none⟩)), (3, 22, p1_h0.v), (4, 23, zI i3), (5, 24, .pointer (some ⟨zff vvp10, (kp10 + (i3 : Int).toNat) * 1, none⟩)), (6, 25, eh1.v)] (fun b8 => [(26, .slice (some ⟨b8, 0, none⟩) 1 1)]) (fun b8 => [cells b4 [.string p1.Title, p1_h0.v] 56, cells b5 [.string q1.Title, q1_h0.v] 56, cells b6 [.string ByteArray.empty, .slice none 0 0] 56, cells b7 [.string p1.Title, hd4.v] 56, vec zae 48 1 hd4.v zs4, cells b8 [eh1.v] 48]) mixed kr kr rfl dc dc (by rfl) kr kr (DrawPreX.cons ?_ (DrawPreX.cons ?_ (DrawPreX.cons ?_ (DrawPreX.cons ?_ (DrawPreX.cons ?_ (DrawPreX.cons ?_ (DrawPreX.cons ?_ (zcO DrawPreX.nil)))))))) (fun b8 => (DrawPreX.cons ?_ (DrawPreX.cons ?_ (DrawPreX.cons ?_ (DrawPreX.cons ?_ (DrawPreX.cons ?_ (DrawPreX.cons ?_ (DrawPreX.cons ?_ (zcO DrawPreX.nil))))))))) ?_ ?_
    ·
     intro D hn hd hcl hu hi
     refine zar zbC rfl dc (zaE (by rfl) rfl) (show _ = 1 from rfl) ?_
     exact zaf 0 hu hi rfl
    ·
     intro D hn hd hcl hu hi
     refine zaN (k := 3) zc7 rfl dc (zab (m := 0) hu rfl (hd 0 dc)) rfl rfl ?_
     exact zaf 1 hu hi rfl
    ·
     intro D hn hd hcl hu hi
     refine zar zbC rfl dc (zaE (by rfl) rfl) (show _ = 1 from rfl) ?_
     exact zaf 2 hu hi rfl
    ·
     intro D hn hd hcl hu hi
     refine zaN (k := 0) zc7 rfl dc (zab (m := 2) hu rfl (hd 2 dc)) rfl rfl ?_
     exact zaf 3 hu hi rfl
    ·
     intro D hn hd hcl hu hi
     refine zah rfl dc (zaE (by rfl) rfl) ?_
     exact zaf 4 hu hi rfl
    ·
     intro D hn hd hcl hu hi
     refine zbd hwp10 eq1 Tryd.underlying54 zet rfl dc (zab (m := 3) hu rfl (hd 3 dc)) (zab (m := 4) hu rfl (hd 4 dc)) rfl ?_
     exact zaf 5 hu hi rfl
    ·
     intro D hn hd hcl hu hi
     refine zbi (n := kp10 + (i3 : Int).toNat) (j := 0) (i := 0) (q := (x1, eh1)) hrd rfl (by omega) zeR rfl dc (zab (m := 5) hu rfl (hd 5 dc)) (Vw.get hwp10 eq1) rfl rfl ?_
     exact zaf 6 hu hi rfl
    ·
     intro D hn hd hcl hu hi
     refine zar zbC rfl dc (zaE (by rfl) rfl) (show _ = 1 from rfl) ?_
     exact zaf 0 hu hi rfl
    ·
     intro D hn hd hcl hu hi
     refine zaN (k := 3) zc7 rfl dc (zab (m := 0) hu rfl (hd 0 dc)) rfl rfl ?_
     exact zaf 1 hu hi rfl
    ·
     intro D hn hd hcl hu hi
     refine zar zbC rfl dc (zaE (by rfl) rfl) (show _ = 1 from rfl) ?_
     exact zaf 2 hu hi rfl
    ·
     intro D hn hd hcl hu hi
     refine zaN (k := 0) zc7 rfl dc (zab (m := 2) hu rfl (hd 2 dc)) rfl rfl ?_
     exact zaf 3 hu hi rfl
    ·
     intro D hn hd hcl hu hi
     refine zah rfl dc (zaE (by rfl) rfl) ?_
     exact zaf 4 hu hi rfl
    ·
     intro D hn hd hcl hu hi
     refine zbd hwp10 eq1 Tryd.underlying54 zet rfl dc (zab (m := 3) hu rfl (hd 3 dc)) (zab (m := 4) hu rfl (hd 4 dc)) rfl ?_
     exact zaf 5 hu hi rfl
    ·
     intro D hn hd hcl hu hi
     refine zbi (n := kp10 + (i3 : Int).toNat) (j := 0) (i := 0) (q := (x1, eh1)) hrd rfl (by omega) zeR rfl dc (zab (m := 5) hu rfl (hd 5 dc)) (Vw.get hwp10 eq1) rfl rfl ?_
     exact zaf 6 hu hi rfl
    ·
     intro D hn hd hcl
     refine zbg (cs := [eh1.v]) (te := 48) (ps := [(0, .tmp 25)]) rfl dc (evP.cons (zab (m := 6) kr rfl (hd 6 dc)) evP.nil) (fun _ => by kernel_rfl) (fun b8 => ?_)
     exact fun a w ha hw => ⟨b8, zjN (by rfl) _ _ _ ha, hw⟩
    intro b8
    show TO _ _ _ _ _ _ _ _ _ _ [cells b4 [.string p1.Title, p1_h0.v] 56, cells b5 [.string q1.Title, q1_h0.v] 56, cells b6 [.string ByteArray.empty, .slice none 0 0] 56, cells b7 [.string p1.Title, hd4.v] 56, vec zae 48 1 hd4.v zs4, cells b8 [eh1.v] 48]
    refine zbr (k := 4) (k2 := 5) (ys := [(x1, eh1)]) Tryd.underlying54 zkS zaL zcI rfl dc rfl rfl rfl rfl rfl rfl (by rw [zm3 hz4]; exact hg1) (fun v1 => ?_)
    show TO _ _ _ _ _ _ _ _ _ _ [cells b4 [.string p1.Title, p1_h0.v] 56, cells b5 [.string q1.Title, q1_h0.v] 56, cells b6 [.string ByteArray.empty, .slice none 0 0] 56, cells b7 [.string p1.Title, hd4.v] 56, vec zae 48 1 v1 (zs4 ++ [(x1, eh1)]), cells b8 [eh1.v] 48]
    refine zb7 (k := 4) rfl (fun hd5 he1 => ?_)
    subst he1
    refine zar zbC rfl dc rfl (show _ = 1 from rfl) ?_
    refine zbo (k := 3) (l' := [.string p1.Title, hd5.v]) zlx rfl rfl rfl rfl rfl (fun _ _ => rfl) rfl ?_
    show TO _ _ _ _ _ _ _ _ _ _ [cells b4 [.string p1.Title, p1_h0.v] 56, cells b5 [.string q1.Title, q1_h0.v] 56, cells b6 [.string ByteArray.empty, .slice none 0 0] 56, cells b7 [.string p1.Title, hd5.v] 56, vec zae 48 1 hd5.v (zs4 ++ [(x1, eh1)]), cells b8 [eh1.v] 48]
    refine zap (zaA (zaj (zai (zah rfl dc rfl ?_))))
    obtain ⟨hg2, h⟩ := zcb h
    refine zaz rfl dc rfl rfl (zbh (r := i3 + 1) (IntWalk.i64_in _ hg2)) (zak rfl dc rfl (zap ?_))
    subst hag1
    exact zbj (n1, out4 ++ [x1], i3 + 1, hd5, zs4 ++ [(x1, eh1)]) ⟨h, (zoA hz4), (zle hm4 (List.mem_append.2 (.inl (List.mem_of_getElem? (Vw.get hwp10 eq1)))))⟩ (Nat.lt_succ_self _) rfl (zad rfl (zad rfl (zad rfl (zad rfl (zad rfl (zaH)))))) (zal [0, 1, 2, 3, 4] kr rfl)
   ·
    have h := za1 hb1 h
    refine zby (zaJ (zaJ (zaV ?_)))
    exact zaO (out4, b5, b6, b7, hd4, zs4) ⟨h, hz4, hm4⟩ rfl (zad rfl (zad rfl (zad rfl (zaH)))) (zal [1, 2, 3, 4] kr rfl)
 ·
  rintro ⟨out1, b1, b2, b3, hd1, zs1⟩ ⟨h, hz1, hm1⟩
  rw [hj1] at h
  show TC _ _ _ _ _ ([]) _ _ [(3, zP b1), (4, zP b2), (6, zP b3)] [cells b1 [.string q1.Title, q1_h0.v] 56, cells b2 [.string ByteArray.empty, .slice none 0 0] 56, cells b3 [.string p1.Title, hd1.v] 56, vec zae 48 1 hd1.v zs1]
  obtain ⟨j2, hj2, h⟩ := zcp h
  refine zbm (β := (List (List ByteArray)) × Hd × (List ((List ByteArray) × Hd))) 0 rfl (fun b => j2 b.1 = some r ∧ b.2.2.map Prod.fst = b.1 ∧ ∀ z ∈ b.2.2, z ∈ Zp10 ++ Zq10) (fun b => []) (fun b => [(4, zP b2), (6, zP b3)]) (fun b => [cells b2 [.string ByteArray.empty, .slice none 0 0] 56, cells b3 [.string p1.Title, b.2.1.v] 56, vec zae 48 1 b.2.1.v b.2.2]) (fun cut => ?_) ?_
  ·
   refine cut (zas (zai (zak rfl dc rfl (zap (zaj (za2 ?_))))))
   refine zbJ (β := Nat × (List (List ByteArray)) × Int × Hd × (List ((List ByteArray) × Hd))) (fun b => za8 (fun _ _ => none) (zcX q1 j2) b.1 b.2.1 b.2.2.1 = some r ∧ b.2.2.2.2.map Prod.fst = b.2.1 ∧ ∀ z ∈ b.2.2.2.2, z ∈ Zp10 ++ Zq10) (fun b => []) (fun b => [(3, zP b1), (4, zP b2), (6, zP b3), (8, zI b.2.2.1)]) (fun b => [cells b1 [.string q1.Title, q1_h0.v] 56, cells b2 [.string ByteArray.empty, .slice none 0 0] 56, cells b3 [.string p1.Title, b.2.2.2.1.v] 56, vec zae 48 1 b.2.2.2.1.v b.2.2.2.2]) (fun b => b.1) (zb0, out1, 0, hd1, zs1) ⟨h, hz1, hm1⟩ rfl (zad rfl (zad rfl (zad rfl (zad rfl (zaH))))) (zal [0, 1, 2, 3] kr rfl) ?_
   rintro ⟨n2, out8, i6, hd9, zs8⟩ ⟨h, hz8, hm8⟩
   cases n2 with
   | zero => exact zdV h
   | succ n2 =>
    obtain ⟨ag2, hag2⟩ : ∃ ag, ag = za8 (fun _ _ => none) (zcX q1 j2) n2 := ⟨_, rfl⟩
    have h : zcX q1 j2 ag2 out8 i6 = some r := by rw [hag2]; exact h
    unfold zcX at h
    show TC _ _ _ _ _ ([]) _ _ [(3, zP b1), (4, zP b2), (6, zP b3), (8, zI i6)] [cells b1 [.string q1.Title, q1_h0.v] 56, cells b2 [.string ByteArray.empty, .slice none 0 0] 56, cells b3 [.string p1.Title, hd9.v] 56, vec zae 48 1 hd9.v zs8]
    refine zas (zas (zai (zah rfl dc rfl (zar zbC rfl dc rfl (show _ = 1 from rfl) (zaN (k := 0) zc7 rfl dc rfl rfl rfl (zcS hzq10 hwq10 rfl dc rfl Tryd.underlying54 (zaz rfl dc rfl rfl zbF (zap (zaj ?_)))))))))
    refine zaM rfl (fun hb2 => ?_) (fun hb2 => ?_)
    ·
     have h := za0 hb2 h
     refine zaP (zaj (zas (za2 ?_)))
     obtain ⟨x2, hq2, h⟩ := zbN h
     obtain ⟨eh2, eq2⟩ := zeb hzq10 hq2
     have hrd : Rd _ _ [zbk zae 1 vvp10 kp10 Zp10, zbM zaD Zp10, zbk zae 1 vvq10 kq10 Zq10, zbM zaD Zq10, zej zbT 1 eh2 x2] := hrd.openEl (i := 3) (z := (x2, eh2)) rfl (Vw.get hwq10 eq2)
     obtain ⟨vv2, k2, L2, hV2, hrd⟩ := hrd.openSl (i := 4) rfl
     replace hrd : Rd _ _ [zbk zae 1 vvp10 kp10 Zp10, zbM zaD Zp10, zbk zae 1 vvq10 kq10 Zq10, zbM zaD Zq10, zej zbT 1 eh2 x2, zbk zbT 1 vv2 k2 L2] := hrd
     obtain ⟨hg3, h⟩ := zcb h
     refine zhb (β := Nat) 8 7 _ [(0, 36, .pointer (some ⟨b3, 1, none⟩)), (1, 37, hd9.v), (2, 38, .pointer (some ⟨b1, 1, none⟩)), (3, 39, q1_h0.v), (4, 40, zI i6), (5, 41, .pointer (some ⟨zff vvq10, (kq10 + (i6 : Int).toNat) * 1, none⟩)), (6, 42, eh2.v)] (fun b9 => [(43, .slice (some ⟨b9, 0, none⟩) 1 1)]) (fun b9 => [cells b1 [.string q1.Title, q1_h0.v] 56, cells b2 [.string ByteArray.empty, .slice none 0 0] 56, cells b3 [.string p1.Title, hd9.v] 56, vec zae 48 1 hd9.v zs8, cells b9 [eh2.v] 48]) mixed kr kr rfl dc dc (by rfl) kr kr (DrawPreX.cons ?_ (DrawPreX.cons ?_ (DrawPreX.cons ?_ (DrawPreX.cons ?_ (DrawPreX.cons ?_ (DrawPreX.cons ?_ (DrawPreX.cons ?_ (zcO DrawPreX.nil)))))))) (fun b9 => (DrawPreX.cons ?_ (DrawPreX.cons ?_ (DrawPreX.cons ?_ (DrawPreX.cons ?_ (DrawPreX.cons ?_ (DrawPreX.cons ?_ (DrawPreX.cons ?_ (zcO DrawPreX.nil))))))))) ?_ ?_
     ·
      intro D hn hd hcl hu hi
      refine zar zbC rfl dc (zaE (by rfl) rfl) (show _ = 1 from rfl) ?_
      exact zaf 0 hu hi rfl
     ·
      intro D hn hd hcl hu hi
      refine zaN (k := 2) zc7 rfl dc (zab (m := 0) hu rfl (hd 0 dc)) rfl rfl ?_
      exact zaf 1 hu hi rfl
     ·
      intro D hn hd hcl hu hi
      refine zar zbC rfl dc (zaE (by rfl) rfl) (show _ = 1 from rfl) ?_
      exact zaf 2 hu hi rfl
     ·
      intro D hn hd hcl hu hi
      refine zaN (k := 0) zc7 rfl dc (zab (m := 2) hu rfl (hd 2 dc)) rfl rfl ?_
      exact zaf 3 hu hi rfl
     ·
      intro D hn hd hcl hu hi
      refine zah rfl dc (zaE (by rfl) rfl) ?_
      exact zaf 4 hu hi rfl
     ·
      intro D hn hd hcl hu hi
      refine zbd hwq10 eq2 Tryd.underlying54 zet rfl dc (zab (m := 3) hu rfl (hd 3 dc)) (zab (m := 4) hu rfl (hd 4 dc)) rfl ?_
      exact zaf 5 hu hi rfl
     ·
      intro D hn hd hcl hu hi
      refine zbi (n := kq10 + (i6 : Int).toNat) (j := 0) (i := 2) (q := (x2, eh2)) hrd rfl (by omega) zeR rfl dc (zab (m := 5) hu rfl (hd 5 dc)) (Vw.get hwq10 eq2) rfl rfl ?_
      exact zaf 6 hu hi rfl
     ·
      intro D hn hd hcl hu hi
      refine zar zbC rfl dc (zaE (by rfl) rfl) (show _ = 1 from rfl) ?_
      exact zaf 0 hu hi rfl
     ·
      intro D hn hd hcl hu hi
      refine zaN (k := 2) zc7 rfl dc (zab (m := 0) hu rfl (hd 0 dc)) rfl rfl ?_
      exact zaf 1 hu hi rfl
     ·
      intro D hn hd hcl hu hi
      refine zar zbC rfl dc (zaE (by rfl) rfl) (show _ = 1 from rfl) ?_
      exact zaf 2 hu hi rfl
     ·
      intro D hn hd hcl hu hi
      refine zaN (k := 0) zc7 rfl dc (zab (m := 2) hu rfl (hd 2 dc)) rfl rfl ?_
      exact zaf 3 hu hi rfl
     ·
      intro D hn hd hcl hu hi
      refine zah rfl dc (zaE (by rfl) rfl) ?_
      exact zaf 4 hu hi rfl
     ·
      intro D hn hd hcl hu hi
      refine zbd hwq10 eq2 Tryd.underlying54 zet rfl dc (zab (m := 3) hu rfl (hd 3 dc)) (zab (m := 4) hu rfl (hd 4 dc)) rfl ?_
      exact zaf 5 hu hi rfl
     ·
      intro D hn hd hcl hu hi
      refine zbi (n := kq10 + (i6 : Int).toNat) (j := 0) (i := 2) (q := (x2, eh2)) hrd rfl (by omega) zeR rfl dc (zab (m := 5) hu rfl (hd 5 dc)) (Vw.get hwq10 eq2) rfl rfl ?_
      exact zaf 6 hu hi rfl
     ·
      intro D hn hd hcl
      refine zbg (cs := [eh2.v]) (te := 48) (ps := [(0, .tmp 42)]) rfl dc (evP.cons (zab (m := 6) kr rfl (hd 6 dc)) evP.nil) (fun _ => by kernel_rfl) (fun b9 => ?_)
      exact fun a w ha hw => ⟨b9, zjN (by rfl) _ _ _ ha, hw⟩
     intro b9
     show TO _ _ _ _ _ _ _ _ _ _ [cells b1 [.string q1.Title, q1_h0.v] 56, cells b2 [.string ByteArray.empty, .slice none 0 0] 56, cells b3 [.string p1.Title, hd9.v] 56, vec zae 48 1 hd9.v zs8, cells b9 [eh2.v] 48]
     refine zbr (k := 3) (k2 := 4) (ys := [(x2, eh2)]) Tryd.underlying54 zkS zaL zcI rfl dc rfl rfl rfl rfl rfl rfl (by rw [zm3 hz8]; exact hg3) (fun v2 => ?_)
     show TO _ _ _ _ _ _ _ _ _ _ [cells b1 [.string q1.Title, q1_h0.v] 56, cells b2 [.string ByteArray.empty, .slice none 0 0] 56, cells b3 [.string p1.Title, hd9.v] 56, vec zae 48 1 v2 (zs8 ++ [(x2, eh2)]), cells b9 [eh2.v] 48]
     refine zb7 (k := 3) rfl (fun hd10 he2 => ?_)
     subst he2
     refine zar zbC rfl dc rfl (show _ = 1 from rfl) ?_
     refine zbo (k := 2) (l' := [.string p1.Title, hd10.v]) zlx rfl rfl rfl rfl rfl (fun _ _ => rfl) rfl ?_
     show TO _ _ _ _ _ _ _ _ _ _ [cells b1 [.string q1.Title, q1_h0.v] 56, cells b2 [.string ByteArray.empty, .slice none 0 0] 56, cells b3 [.string p1.Title, hd10.v] 56, vec zae 48 1 hd10.v (zs8 ++ [(x2, eh2)]), cells b9 [eh2.v] 48]
     refine zap (zaA (zaj (zai (zah rfl dc rfl ?_))))
     obtain ⟨hg4, h⟩ := zcb h
     refine zaz rfl dc rfl rfl (zbh (r := i6 + 1) (IntWalk.i64_in _ hg4)) (zak rfl dc rfl (zap ?_))
     subst hag2
     exact zbj (n2, out8 ++ [x2], i6 + 1, hd10, zs8 ++ [(x2, eh2)]) ⟨h, (zoA hz8), (zle hm8 (List.mem_append.2 (.inr (List.mem_of_getElem? (Vw.get hwq10 eq2)))))⟩ (Nat.lt_succ_self _) rfl (zad rfl (zad rfl (zad rfl (zad rfl (zaH))))) (zal [0, 1, 2, 3] kr rfl)
    ·
     have h := za1 hb2 h
     refine zby (zaJ (zaJ (zaV ?_)))
     exact zaO (out8, hd9, zs8) ⟨h, hz8, hm8⟩ rfl (zad rfl (zad rfl (zaH))) (zal [1, 2, 3] kr rfl)
  ·
   rintro ⟨out5, hd6, zs5⟩ ⟨h, hz5, hm5⟩
   rw [hj2] at h
   show TC _ _ _ _ _ ([]) _ _ [(4, zP b2), (6, zP b3)] [cells b2 [.string ByteArray.empty, .slice none 0 0] 56, cells b3 [.string p1.Title, hd6.v] 56, vec zae 48 1 hd6.v zs5]
   refine zas (zas (zai (zbc (k := 1) (cs := [.string p1.Title, hd6.v]) zcw rfl dc rfl rfl rfl rfl ?_)))
   refine zcA (k := 2) rfl (fun hw1 => ?_)
   have hrd : Rd _ _ [zbk zae 1 vvp10 kp10 Zp10, zbM zaD Zp10, zbk zae 1 vvq10 kq10 Zq10, zbM zaD Zq10, zbM zaD zs5] := hrd.two (i := 1) (j := 3) rfl rfl hm5
   obtain ⟨r1, hq3, h⟩ := zbN h
   refine za4 (v := zI r1) (vs := [.agg #[.string p1.Title, hd6.v]]) hrd rfl dc rfl rfl rfl zoW (zgz (p1_h0 := hd6) (p1 := (⟨p1.Title, out5⟩ : Gref17_Poem)) hw1 hz5 hq3) (.own (As := [vec zae 48 1 hd6.v zs5]) (zal [2] (by kernel_rfl) rfl) (fun _ _ h => zcr zaL (sepL.one1.1 h)) (.ro 4 rfl .nil)) ?_
   refine zaz rfl dc rfl rfl zdC (zah rfl dc rfl ?_)
   refine za6 (s := 49) rfl (fun hb3 => ?_) (fun hb3 => ?_)
   ·
    have h := za0 hb3 h
    refine zan rfl dc (zan rfl dc (zan rfl dc (zan rfl dc (zaB (b := true) rfl dc rfl rfl (zap (zaj (zbu rfl (zas (zai ?_)))))))))
    refine zbe (v := .agg #[.string ByteArray.empty, .slice none 0 0]) (ps := []) rfl dc rfl (fun _ => by kernel_rfl) ?_
    refine zaZ (k := 0) (vs := [.string ByteArray.empty, .slice none 0 0]) (l' := [.string ByteArray.empty, .slice none 0 0]) zeG rfl rfl rfl rfl rfl (show _ ≤ _ by simp) rfl rfl (zak rfl dc rfl (zap (zaj (zaX (zay (zgk (enc := zae) (e := 48) (size := 1) ?_))))))
    show TX _ _ _ _ _ _ _ [cells b2 [.string ByteArray.empty, .slice none 0 0] 56, cells b3 [.string p1.Title, hd6.v] 56, vec zae 48 1 hd6.v zs5, vec zae 48 1 (.slice none 0 0) ([] : List ((List ByteArray) × Hd))]
    cases h
    exact za3 (rs := [.cell 4 56, .tmp 5]) (Hd.nil, ⟨([] : List ((List ByteArray) × Hd)), rfl, (fun _ h => nomatch h)⟩) (.inl rfl) Tryd.results36 (.cons (.cells zcw (k := 0) rfl rfl rfl) (.cons (.tmp rfl) .nil)) rfl (zal [3] kr rfl)
   ·
    have h := za1 hb3 h
    refine zbc (k := 1) (cs := [.string p1.Title, hd6.v]) zcw rfl dc rfl rfl rfl rfl ?_
    refine zcA (k := 2) rfl (fun hw2 => ?_)
    have hrd : Rd _ _ [zbk zae 1 vvp10 kp10 Zp10, zbM zaD Zp10, zbk zae 1 vvq10 kq10 Zq10, zbM zaD Zq10, zbM zaD zs5, zbM zaD zs5] := hrd.two (i := 1) (j := 3) rfl rfl hm5
    obtain ⟨r2, hq4, h⟩ := zbN h
    refine za4 (v := .string r2) (vs := [.agg #[.string p1.Title, hd6.v]]) hrd rfl dc rfl rfl rfl zlS (zd1 (p1_h0 := hd6) (p1 := (⟨p1.Title, out5⟩ : Gref17_Poem)) hw2 hz5 hq4) (.own (As := [vec zae 48 1 hd6.v zs5]) (zal [2] (by kernel_rfl) rfl) (fun _ _ h => zcr zaL (sepL.one1.1 h)) (.ro 4 rfl .nil)) ?_
    refine zbA rfl dc rfl Tryd.underlying9 (zaz rfl dc rfl rfl zdC (zaB (b := false) rfl dc rfl rfl (zap (zaj ?_))))
    refine zaM rfl (fun hb4 => ?_) (fun hb4 => ?_)
    ·
     have h := za0 hb4 h
     refine zas (zai ?_)
     refine zbe (v := .agg #[.string ByteArray.empty, .slice none 0 0]) (ps := []) rfl dc rfl (fun _ => by kernel_rfl) ?_
     refine zaZ (k := 0) (vs := [.string ByteArray.empty, .slice none 0 0]) (l' := [.string ByteArray.empty, .slice none 0 0]) zeG rfl rfl rfl rfl rfl (show _ ≤ _ by simp) rfl rfl (zak rfl dc rfl (zap (zaj (zaX (zay (zgk (enc := zae) (e := 48) (size := 1) ?_))))))
     show TX _ _ _ _ _ _ _ [cells b2 [.string ByteArray.empty, .slice none 0 0] 56, cells b3 [.string p1.Title, hd6.v] 56, vec zae 48 1 hd6.v zs5, vec zae 48 1 (.slice none 0 0) ([] : List ((List ByteArray) × Hd))]
     cases h
     exact za3 (rs := [.cell 4 56, .tmp 5]) (Hd.nil, ⟨([] : List ((List ByteArray) × Hd)), rfl, (fun _ h => nomatch h)⟩) (.inl rfl) Tryd.results36 (.cons (.cells zcw (k := 0) rfl rfl rfl) (.cons (.tmp rfl) .nil)) rfl (zal [3] kr rfl)
    ·
     have h := za1 hb4 h
     refine zaP (zaj (zas (zai (zbc (k := 1) (cs := [.string p1.Title, hd6.v]) zcw rfl dc rfl rfl rfl rfl (zaZ (k := 0) (vs := [.string p1.Title, hd6.v]) (l' := [.string p1.Title, hd6.v]) zeG rfl rfl rfl rfl rfl (show _ ≤ _ by simp) rfl rfl (zak rfl dc rfl (zap (zaj (zaX ?_)))))))))
     cases h
     exact za3 (rs := [.cell 4 56, .tmp 5]) (hd6, ⟨zs5, hz5, hm5⟩) (.inl rfl) Tryd.results36 (.cons (.cells zcw (k := 0) rfl rfl rfl) (.cons (.tmp rfl) .nil)) rfl (zal [2] kr rfl)
end Go.Proofs.YtgfkogafkhbgnaaDoor
