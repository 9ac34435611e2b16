/-
  Texts laid together: LqZ, PqC, PqD, PqE, LqE, LqB, Cb, LqG, PcW, Bytes, Bld, Gr, Bn. Nothing is assumed.
-/
import Derived.Test.YtgfkogafkhbgnaaDoorPoemChanges3
import Derived.Test.YtgfkogafkhbgnaaDoorPoemChanges2
import Derived.Test.YtgfkogafkhbgnaaDoorProg
import Derived.Test.YtgfkogafkhbgnaaDoorPoemChanges1
import Derived.Lib.AppendStr
import Derived.Laws.IdiomStrings
import Derived.Lib.BufferRead
import Derived.Lib.Builder
import Derived.Outline
import Derived.Lib.UnsafeStr
import Derived.Lib.MakeNoZero
set_option maxRecDepth 100000
set_option maxHeartbeats 4000000
namespace Go.Proofs.YtgfkogafkhbgnaaDoor
open Go.RowKit Go.Lib
set_option linter.unusedVariables false
set_option linter.unusedSimpArgs false
def zdy (p1 : Gref17_Poem) (j1 : Int → Option Int) (ag1 : Int → Int → Option Int) (n4 : Int) (i3 : Int) : Option Int := zaU (decide ((i3 : Int) < (p1.Stanzas.length : Int))) ( zaG (zdh p1.Stanzas i3) fun (x1 : List ByteArray) => grd (I64 (n4 + (x1.length : Int))) <| grd (I64 (i3 + 1)) <| ag1 (n4 + (x1.length : Int)) (i3 + 1)
) ( j1 n4
)
def zdp (p1 : Gref17_Poem) : Option Int := zbO (fun (j1 : Int → Option Int) => za8 (fun _ _ => none) (zdy p1 j1) zb0 0 0
) (fun (n1 : Int) => some n1
)
theorem zgz {p1 : Gref17_Poem} {p1_h0 : Hd} {vvp10 : Value} {kp10 : Nat} {Zp10 zp10 : List ((List ByteArray) × Hd)} (hwp10 : Vw vvp10 Zp10 1 kp10 p1_h0.v zp10) (hzp10 : zp10.map Prod.fst = p1.Stanzas) {r : Int} (h : zdp p1 = some r) : FnR Tryd.prog 70 [.agg #[.string p1.Title, p1_h0.v]] [zbk zae 1 vvp10 kp10 Zp10, zbM zaD Zp10] [] (fun _ : Unit => (zI r)) (fun _ => []) := by
 unfold zdp at h
 refine FnR.intro Tryd.func70 rfl Tryd.ntmps70 (by simp) ?_
 intro w0 K hrd
 obtain ⟨j1, hj1, h⟩ := zcp h
 refine zbm (β := Int) 2 rfl (fun b => j1 b = some r) (fun b => []) (fun b => [(3, zI b)]) (fun b => []) (fun cut => ?_) ?_
 ·
  refine zas (zai ?_)
  refine zeE rfl dc rfl (fun b1 => ?_)
  refine zak rfl dc rfl (zap (zaj (zas (zai (zak rfl dc rfl (zap (zaj (cut (zas (zai (zak rfl dc rfl (zap (zaj ?_)))))))))))))
  refine za2 ?_
  refine zbJ (β := Nat × Int × Int) (fun b => za8 (fun _ _ => none) (zdy p1 j1) b.1 b.2.1 b.2.2 = some r) (fun b => []) (fun b => [(1, zP b1), (3, zI b.2.1), (4, zI b.2.2)]) (fun b => [cells b1 [.string p1.Title, p1_h0.v] 56]) (fun b => b.1) (zb0, 0, 0) h rfl (zad rfl (zad rfl (zad rfl (zaH)))) (zal [0] kr rfl) ?_
  rintro ⟨n5, n4, i3⟩ h
  cases n5 with
  | zero => exact zdV h
  | succ n5 =>
   obtain ⟨ag1, hag1⟩ : ∃ ag, ag = za8 (fun _ _ => none) (zdy p1 j1) n5 := ⟨_, rfl⟩
   have h : zdy p1 j1 ag1 n4 i3 = some r := by rw [hag1]; exact h
   unfold zdy at h
   show TC _ _ _ _ _ ([]) _ _ [(1, zP b1), (3, zI n4), (4, zI i3)] [cells b1 [.string p1.Title, p1_h0.v] 56]
   refine zas (zas (zai (zah rfl dc rfl (zar zbC rfl dc rfl (show _ = 1 from rfl) (zaN (k := 0) zc7 rfl dc rfl rfl rfl (zcS hzp10 hwp10 rfl dc rfl Tryd.underlying54 (zaz rfl dc rfl rfl zbF (zap (zaj ?_)))))))))
   refine zaM rfl (fun hb1 => ?_) (fun hb1 => ?_)
   ·
    have h := za0 hb1 h
    refine zaP (zaj (zas (za2 (zai (zah rfl dc rfl (zar zbC rfl dc rfl (show _ = 1 from rfl) (zaN (k := 0) zc7 rfl dc rfl rfl rfl (zah rfl dc rfl ?_))))))))
    obtain ⟨x1, hq1, h⟩ := zbN h
    obtain ⟨eh1, eq1⟩ := zeb hzp10 hq1
    have hrd : Rd _ _ [zbk zae 1 vvp10 kp10 Zp10, zbM zaD Zp10, zej zbT 1 eh1 x1] := hrd.openEl (i := 1) (z := (x1, eh1)) rfl (Vw.get hwp10 eq1)
    obtain ⟨vv1, k1, L1, hV1, hrd⟩ := hrd.openSl (i := 2) rfl
    replace hrd : Rd _ _ [zbk zae 1 vvp10 kp10 Zp10, zbM zaD Zp10, zej zbT 1 eh1 x1, zbk zbT 1 vv1 k1 L1] := hrd
    refine zbd hwp10 eq1 Tryd.underlying54 zet rfl dc rfl rfl rfl (zbi (n := kp10 + (i3 : Int).toNat) (j := 0) (i := 0) (q := (x1, eh1)) hrd rfl (by omega) zeR rfl dc rfl (Vw.get hwp10 eq1) rfl rfl (zbG hV1 rfl dc rfl Tryd.underlying48 ?_))
    obtain ⟨hg1, h⟩ := zcb h
    refine zaz rfl dc rfl rfl (zbh (r := n4 + (x1.length : Int)) (IntWalk.i64_in _ hg1)) (zak rfl dc rfl (zap (zaA (zaj (zai (zah rfl dc rfl ?_))))))
    obtain ⟨hg2, h⟩ := zcb h
    refine zaz rfl dc rfl rfl (zbh (r := i3 + 1) (IntWalk.i64_in _ hg2)) (zak rfl dc rfl (zap ?_))
    subst hag1
    exact zbj (n5, n4 + (x1.length : Int), i3 + 1) h (Nat.lt_succ_self _) rfl (zad rfl (zad rfl (zad rfl (zaH)))) (zal [0] kr rfl)
   ·
    have h := za1 hb1 h
    refine zby (zaJ (zaJ (zaV ?_)))
    exact zaO n4 h rfl (zad rfl (zaH)) Splits.nil
 ·
  rintro n1 h
  rw [hj1] at h
  show TC _ _ _ _ _ ([]) _ _ [(3, zI n1)] []
  refine zas (zai (zah rfl dc rfl (zak rfl dc rfl (zap (zaj (zaX ?_))))))
  cases h
  exact za3 (rs := [.tmp 2]) () (.inl rfl) Tryd.results70 (.cons (.tmp rfl) .nil) rfl Splits.nil
def zc0 (p1 : Gref17_Poem) (i3 : Int) (j3 : ByteArray → Option ByteArray) (ag2 : ByteArray → Int → Option ByteArray) (s10 : ByteArray) (k4 : Int) : Option ByteArray := zaG (zdh p1.Stanzas i3) fun (x2 : List ByteArray) => zaU (decide ((k4 : Int) < (x2.length : Int))) ( zaG (zdh p1.Stanzas i3) fun (x3 : List ByteArray) => zaG (zdh x3 k4) fun (q2 : ByteArray) => grd (q2.size + (⟨#[10]⟩ : ByteArray).size ≤ 9223372036854775807) <| grd (s10.size + (q2 ++ (⟨#[10]⟩ : ByteArray)).size ≤ 9223372036854775807) <| grd (I64 (k4 + 1)) <| ag2 (s10 ++ (q2 ++ (⟨#[10]⟩ : ByteArray))) (k4 + 1)
) ( j3 s10
)
def zcm (p1 : Gref17_Poem) (j2 : ByteArray → Option ByteArray) (ag1 : ByteArray → Int → Option ByteArray) (s5 : ByteArray) (i3 : Int) : Option ByteArray := zaU (decide ((i3 : Int) < (p1.Stanzas.length : Int))) ( zbO (fun (j3 : ByteArray → Option ByteArray) => zbO (fun (j4 : ByteArray → Option ByteArray) => zaU (!decide (s5 = (⟨#[]⟩ : ByteArray))) ( grd (s5.size + (⟨#[10]⟩ : ByteArray).size ≤ 9223372036854775807) <| j4 (s5 ++ (⟨#[10]⟩ : ByteArray))
) ( j4 s5
)
) (fun (s7 : ByteArray) => za8 (fun _ _ => none) (zc0 p1 i3 j3) zb0 s7 0
)
) (fun (s6 : ByteArray) => grd (I64 (i3 + 1)) <| ag1 s6 (i3 + 1)
)
) ( j2 s5
)
def zbU (p1 : Gref17_Poem) : Option ByteArray := zbO (fun (j1 : ByteArray → Option ByteArray) => zaU (!decide (p1.Title = (⟨#[]⟩ : ByteArray))) ( grd ((⟨#[35, 32]⟩ : ByteArray).size + p1.Title.size ≤ 9223372036854775807) <| grd (((⟨#[35, 32]⟩ : ByteArray) ++ p1.Title).size + (⟨#[10]⟩ : ByteArray).size ≤ 9223372036854775807) <| j1 (((⟨#[35, 32]⟩ : ByteArray) ++ p1.Title) ++ (⟨#[10]⟩ : ByteArray))
) ( zaU (decide ((0 : Int) < (p1.Stanzas.length : Int))) ( zaG (zdh p1.Stanzas 0) fun (x1 : List ByteArray) => zaG (zdh x1 0) fun (q1 : ByteArray) => zaG (zd0 q1) fun (r1 : Bool) => zaU (r1) ( grd ((⟨#[35, 32]⟩ : ByteArray).size + p1.Title.size ≤ 9223372036854775807) <| grd (((⟨#[35, 32]⟩ : ByteArray) ++ p1.Title).size + (⟨#[10]⟩ : ByteArray).size ≤ 9223372036854775807) <| j1 (((⟨#[35, 32]⟩ : ByteArray) ++ p1.Title) ++ (⟨#[10]⟩ : ByteArray))
) ( j1 (⟨#[]⟩ : ByteArray)
)
) ( j1 (⟨#[]⟩ : ByteArray)
)
)
) (fun (s1 : ByteArray) => zbO (fun (j2 : ByteArray → Option ByteArray) => za8 (fun _ _ => none) (zcm p1 j2) zb0 s1 0
) (fun (s2 : ByteArray) => some s2
)
)
theorem zd1 {p1 : Gref17_Poem} {p1_h0 : Hd} {vvp10 : Value} {kp10 : Nat} {Zp10 zp10 : List ((List ByteArray) × Hd)} (hwp10 : Vw vvp10 Zp10 1 kp10 p1_h0.v zp10) (hzp10 : zp10.map Prod.fst = p1.Stanzas) {r : ByteArray} (h : zbU p1 = some r) : FnR Tryd.prog 68 [.agg #[.string p1.Title, p1_h0.v]] [zbk zae 1 vvp10 kp10 Zp10, zbM zaD Zp10] [] (fun _ : Unit => (.string r)) (fun _ => []) := by
 unfold zbU at h
 refine FnR.intro Tryd.func68 rfl Tryd.ntmps68 (by simp) ?_
 intro w0 K hrd
 obtain ⟨j1, hj1, h⟩ := zcp h
 refine zbm (β := ByteArray × Nat) 2 rfl (fun b => j1 b.1 = some r) (fun b => []) (fun b => [(1, zP b.2), (3, .string b.1)]) (fun b => [cells b.2 [.string p1.Title, p1_h0.v] 56]) (fun cut => ?_) ?_
 ·
  refine zas (zai ?_)
  refine zeE rfl dc rfl (fun b2 => ?_)
  refine zak rfl dc rfl (zap (zaj (zas (zai (zak rfl dc rfl (zap (zaj (cut (zas (zai (zar zeL rfl dc rfl (show _ = 0 from rfl) (zaN (k := 0) zgm rfl dc rfl rfl rfl (zaz rfl dc rfl rfl zcY ?_)))))))))))))
  refine zah rfl dc rfl ?_
  refine za6 (s := 9) rfl (fun hb1 => ?_) (fun hb1 => ?_)
  ·
   have h := za0 hb1 h
   refine zan rfl dc (zan rfl dc (zan rfl dc (zan rfl dc (zan rfl dc (zan rfl dc (zan rfl dc (zan rfl dc (zan rfl dc (zan rfl dc (zan rfl dc (zan rfl dc (zan rfl dc (zaB (b := true) rfl dc rfl rfl ?_)))))))))))))
   refine zap (zaj (zbu rfl (zai (zar zeL rfl dc rfl (show _ = 0 from rfl) (zaN (k := 0) zgm rfl dc rfl rfl rfl ?_)))))
   obtain ⟨hg1, h⟩ := zcb h
   refine zaz rfl dc rfl rfl (zeh hg1) ?_
   obtain ⟨hg2, h⟩ := zcb h
   refine zaz rfl dc rfl rfl (zeh hg2) (zak rfl dc rfl (zap ?_))
   exact zaO (((⟨#[35, 32]⟩ : ByteArray) ++ p1.Title) ++ (⟨#[10]⟩ : ByteArray), b2) h rfl (zad rfl (zad rfl (zaH))) (zal [0] kr rfl)
  ·
   have h := za1 hb1 h
   refine zar zbC rfl dc rfl (show _ = 1 from rfl) (zaN (k := 0) zc7 rfl dc rfl rfl rfl (zcS hzp10 hwp10 rfl dc rfl Tryd.underlying54 (zaz rfl dc rfl rfl zdC (zah rfl dc rfl ?_))))
   refine za6 (s := 14) rfl (fun hb2 => ?_) (fun hb2 => ?_)
   ·
    have h := za0 hb2 h
    refine zar zbC rfl dc rfl (show _ = 1 from rfl) (zaN (k := 0) zc7 rfl dc rfl rfl rfl ?_)
    obtain ⟨x1, hq1, h⟩ := zbN h
    obtain ⟨eh1, eq1⟩ := zeb hzp10 hq1
    have hrd : Rd _ _ [zbk zae 1 vvp10 kp10 Zp10, zbM zaD Zp10, zej zbT 1 eh1 x1] := hrd.openEl (i := 1) (z := (x1, eh1)) rfl (Vw.get hwp10 eq1)
    obtain ⟨vv1, k1, L1, hV1, hrd⟩ := hrd.openSl (i := 2) rfl
    replace hrd : Rd _ _ [zbk zae 1 vvp10 kp10 Zp10, zbM zaD Zp10, zej zbT 1 eh1 x1, zbk zbT 1 vv1 k1 L1] := hrd
    refine zbd hwp10 eq1 Tryd.underlying54 zet rfl dc rfl rfl rfl (zbi (n := kp10 + (0 : Int).toNat) (j := 0) (i := 0) (q := (x1, eh1)) hrd rfl (by omega) zeR rfl dc rfl (Vw.get hwp10 eq1) rfl rfl ?_)
    obtain ⟨q1, hq2, h⟩ := zbN h
    refine zbd hV1 hq2 Tryd.underlying48 zlY rfl dc rfl rfl rfl (zbi (n := k1 + (0 : Int).toNat) (j := 0) (i := 3) (q := q1) hrd rfl (by omega) zgm rfl dc rfl (Vw.get hV1 hq2) rfl rfl ?_)
    obtain ⟨r1, hq3, h⟩ := zbN h
    refine zbH (v := .bool r1) (vs := [.string q1]) rfl dc rfl rfl rfl zoX (zgc hq3) (zaB (b := true) rfl dc rfl rfl (zaB (b := false) rfl dc rfl rfl (zap (zaj ?_))))
    refine zaM rfl (fun hb3 => ?_) (fun hb3 => ?_)
    ·
     have h := za0 hb3 h
     refine zai (zar zeL rfl dc rfl (show _ = 0 from rfl) (zaN (k := 0) zgm rfl dc rfl rfl rfl ?_))
     obtain ⟨hg3, h⟩ := zcb h
     refine zaz rfl dc rfl rfl (zeh hg3) ?_
     obtain ⟨hg4, h⟩ := zcb h
     refine zaz rfl dc rfl rfl (zeh hg4) (zak rfl dc rfl (zap ?_))
     exact zaO (((⟨#[35, 32]⟩ : ByteArray) ++ p1.Title) ++ (⟨#[10]⟩ : ByteArray), b2) h rfl (zad rfl (zad rfl (zaH))) (zal [0] kr rfl)
    ·
     have h := za1 hb3 h
     refine zaP ?_
     exact zaO ((⟨#[]⟩ : ByteArray), b2) h rfl (zad rfl (zad rfl (zaH))) (zal [0] kr rfl)
   ·
    have h := za1 hb2 h
    refine zan rfl dc (zan rfl dc (zan rfl dc (zan rfl dc (zan rfl dc (zan rfl dc (zan rfl dc (zaB (b := false) rfl dc rfl rfl (zaB (b := false) rfl dc rfl rfl (zap (zaj (zbp rfl (zaP ?_))))))))))))
    exact zaO ((⟨#[]⟩ : ByteArray), b2) h rfl (zad rfl (zad rfl (zaH))) (zal [0] kr rfl)
 ·
  rintro ⟨s1, b1⟩ h
  rw [hj1] at h
  show TC _ _ _ _ _ ([]) _ _ [(1, zP b1), (3, .string s1)] [cells b1 [.string p1.Title, p1_h0.v] 56]
  obtain ⟨j2, hj2, h⟩ := zcp h
  refine zbm (β := ByteArray) 0 rfl (fun b => j2 b = some r) (fun b => []) (fun b => [(3, .string b)]) (fun b => []) (fun cut => ?_) ?_
  ·
   refine cut (zas (zai (zak rfl dc rfl (zap (zaj (za2 ?_))))))
   refine zbJ (β := Nat × ByteArray × Int) (fun b => za8 (fun _ _ => none) (zcm p1 j2) b.1 b.2.1 b.2.2 = some r) (fun b => []) (fun b => [(1, zP b1), (3, .string b.2.1), (4, zI b.2.2)]) (fun b => [cells b1 [.string p1.Title, p1_h0.v] 56]) (fun b => b.1) (zb0, s1, 0) h rfl (zad rfl (zad rfl (zad rfl (zaH)))) (zal [0] kr rfl) ?_
   rintro ⟨n1, s5, i3⟩ h
   cases n1 with
   | zero => exact zdV h
   | succ n1 =>
    obtain ⟨ag1, hag1⟩ : ∃ ag, ag = za8 (fun _ _ => none) (zcm p1 j2) n1 := ⟨_, rfl⟩
    have h : zcm p1 j2 ag1 s5 i3 = some r := by rw [hag1]; exact h
    unfold zcm at h
    show TC _ _ _ _ _ ([]) _ _ [(1, zP b1), (3, .string s5), (4, zI i3)] [cells b1 [.string p1.Title, p1_h0.v] 56]
    refine zas (zas (zai (zah rfl dc rfl (zar zbC rfl dc rfl (show _ = 1 from rfl) (zaN (k := 0) zc7 rfl dc rfl rfl rfl (zcS hzp10 hwp10 rfl dc rfl Tryd.underlying54 (zaz rfl dc rfl rfl zbF (zap (zaj ?_)))))))))
    refine zaM rfl (fun hb4 => ?_) (fun hb4 => ?_)
    ·
     have h := za0 hb4 h
     refine zaP (zaj ?_)
     obtain ⟨j3, hj3, h⟩ := zcp h
     refine zbm (β := ByteArray) 0 rfl (fun b => j3 b = some r) (fun b => []) (fun b => [(1, zP b1), (3, .string b), (4, zI i3)]) (fun b => [cells b1 [.string p1.Title, p1_h0.v] 56]) (fun cut => ?_) ?_
     ·
      refine cut (za2 ?_)
      obtain ⟨j4, hj4, h⟩ := zcp h
      refine zbm (β := ByteArray) 0 rfl (fun b => j4 b = some r) (fun b => []) (fun b => [(1, zP b1), (3, .string b), (4, zI i3)]) (fun b => [cells b1 [.string p1.Title, p1_h0.v] 56]) (fun cut => ?_) ?_
      ·
       refine cut (zas (zai (zah rfl dc rfl (zaz rfl dc rfl rfl zcY (zap (zaj ?_))))))
       refine zaM rfl (fun hb5 => ?_) (fun hb5 => ?_)
       ·
        have h := za0 hb5 h
        refine zai (zah rfl dc rfl ?_)
        obtain ⟨hg5, h⟩ := zcb h
        refine zaz rfl dc rfl rfl (zeh hg5) (zak rfl dc rfl (zap ?_))
        exact zaO (s5 ++ (⟨#[10]⟩ : ByteArray)) h rfl (zad rfl (zad rfl (zad rfl (zaH)))) (zal [0] kr rfl)
       ·
        have h := za1 hb5 h
        refine zaP ?_
        exact zaO s5 h rfl (zad rfl (zad rfl (zad rfl (zaH)))) (zal [0] kr rfl)
      ·
       rintro s7 h
       rw [hj4] at h
       show TC _ _ _ _ _ ([]) _ _ [(1, zP b1), (3, .string s7), (4, zI i3)] [cells b1 [.string p1.Title, p1_h0.v] 56]
       refine zas (zai (zak rfl dc rfl (zap (zaj (za2 ?_)))))
       refine zbJ (β := Nat × ByteArray × Int) (fun b => za8 (fun _ _ => none) (zc0 p1 i3 j3) b.1 b.2.1 b.2.2 = some r) (fun b => []) (fun b => [(1, zP b1), (3, .string b.2.1), (4, zI i3), (5, zI b.2.2)]) (fun b => [cells b1 [.string p1.Title, p1_h0.v] 56]) (fun b => b.1) (zb0, s7, 0) h rfl (zad rfl (zad rfl (zad rfl (zad rfl (zaH))))) (zal [0] kr rfl) ?_
       rintro ⟨n2, s10, k4⟩ h
       cases n2 with
       | zero => exact zdV h
       | succ n2 =>
        obtain ⟨ag2, hag2⟩ : ∃ ag, ag = za8 (fun _ _ => none) (zc0 p1 i3 j3) n2 := ⟨_, rfl⟩
        have h : zc0 p1 i3 j3 ag2 s10 k4 = some r := by rw [hag2]; exact h
        unfold zc0 at h
        show TC _ _ _ _ _ ([]) _ _ [(1, zP b1), (3, .string s10), (4, zI i3), (5, zI k4)] [cells b1 [.string p1.Title, p1_h0.v] 56]
        refine zas (zas (zai (zah rfl dc rfl (zar zbC rfl dc rfl (show _ = 1 from rfl) (zaN (k := 0) zc7 rfl dc rfl rfl rfl (zah rfl dc rfl ?_))))))
        obtain ⟨x2, hq4, h⟩ := zbN h
        obtain ⟨eh2, eq2⟩ := zeb hzp10 hq4
        have hrd : Rd _ _ [zbk zae 1 vvp10 kp10 Zp10, zbM zaD Zp10, zej zbT 1 eh2 x2] := hrd.openEl (i := 1) (z := (x2, eh2)) rfl (Vw.get hwp10 eq2)
        obtain ⟨vv2, k5, L2, hV2, hrd⟩ := hrd.openSl (i := 2) rfl
        replace hrd : Rd _ _ [zbk zae 1 vvp10 kp10 Zp10, zbM zaD Zp10, zej zbT 1 eh2 x2, zbk zbT 1 vv2 k5 L2] := hrd
        refine zbd hwp10 eq2 Tryd.underlying54 zet rfl dc rfl rfl rfl (zbi (n := kp10 + (i3 : Int).toNat) (j := 0) (i := 0) (q := (x2, eh2)) hrd rfl (by omega) zeR rfl dc rfl (Vw.get hwp10 eq2) rfl rfl (zbG hV2 rfl dc rfl Tryd.underlying48 (zaz rfl dc rfl rfl zbF (zap (zaj ?_)))))
        refine zaM rfl (fun hb6 => ?_) (fun hb6 => ?_)
        ·
         have h := za0 hb6 h
         refine zaP (zaj (zas (za2 (zai (zah rfl dc rfl (zar zbC rfl dc rfl (show _ = 1 from rfl) (zaN (k := 0) zc7 rfl dc rfl rfl rfl (zah rfl dc rfl ?_))))))))
         obtain ⟨x3, hq5, h⟩ := zbN h
         obtain ⟨eh3, eq3⟩ := zeb hzp10 hq5
         have hrd : Rd _ _ [zbk zae 1 vvp10 kp10 Zp10, zbM zaD Zp10, zej zbT 1 eh2 x2, zbk zbT 1 vv2 k5 L2, zej zbT 1 eh3 x3] := hrd.openEl (i := 1) (z := (x3, eh3)) rfl (Vw.get hwp10 eq3)
         obtain ⟨vv3, k6, L3, hV3, hrd⟩ := hrd.openSl (i := 4) rfl
         replace hrd : Rd _ _ [zbk zae 1 vvp10 kp10 Zp10, zbM zaD Zp10, zej zbT 1 eh2 x2, zbk zbT 1 vv2 k5 L2, zej zbT 1 eh3 x3, zbk zbT 1 vv3 k6 L3] := hrd
         refine zbd hwp10 eq3 Tryd.underlying54 zet rfl dc rfl rfl rfl (zbi (n := kp10 + (i3 : Int).toNat) (j := 0) (i := 0) (q := (x3, eh3)) hrd rfl (by omega) zeR rfl dc rfl (Vw.get hwp10 eq3) rfl rfl (zah rfl dc rfl ?_))
         obtain ⟨q2, hq6, h⟩ := zbN h
         refine zbd hV3 hq6 Tryd.underlying48 zlY rfl dc rfl rfl rfl (zbi (n := k6 + (k4 : Int).toNat) (j := 0) (i := 5) (q := q2) hrd rfl (by omega) zgm rfl dc rfl (Vw.get hV3 hq6) rfl rfl ?_)
         obtain ⟨hg6, h⟩ := zcb h
         refine zaz rfl dc rfl rfl (zeh hg6) ?_
         obtain ⟨hg7, h⟩ := zcb h
         refine zaz rfl dc rfl rfl (zeh hg7) (zak rfl dc rfl (zap (zaA (zaj (zai (zah rfl dc rfl ?_))))))
         obtain ⟨hg8, h⟩ := zcb h
         refine zaz rfl dc rfl rfl (zbh (r := k4 + 1) (IntWalk.i64_in _ hg8)) (zak rfl dc rfl (zap ?_))
         subst hag2
         exact zbj (n2, s10 ++ (q2 ++ (⟨#[10]⟩ : ByteArray)), k4 + 1) h (Nat.lt_succ_self _) rfl (zad rfl (zad rfl (zad rfl (zad rfl (zaH))))) (zal [0] kr rfl)
        ·
         have h := za1 hb6 h
         refine zby (zaJ (zaJ (zaV (zaA ?_))))
         exact zaO s10 h rfl (zad rfl (zad rfl (zad rfl (zaH)))) (zal [0] kr rfl)
     ·
      rintro s6 h
      rw [hj3] at h
      show TC _ _ _ _ _ ([]) _ _ [(1, zP b1), (3, .string s6), (4, zI i3)] [cells b1 [.string p1.Title, p1_h0.v] 56]
      refine zai (zah rfl dc rfl ?_)
      obtain ⟨hg9, h⟩ := zcb h
      refine zaz rfl dc rfl rfl (zbh (r := i3 + 1) (IntWalk.i64_in _ hg9)) (zak rfl dc rfl (zap ?_))
      subst hag1
      exact zbj (n1, s6, i3 + 1) h (Nat.lt_succ_self _) rfl (zad rfl (zad rfl (zad rfl (zaH)))) (zal [0] kr rfl)
    ·
     have h := za1 hb4 h
     refine zby (zaJ (zaJ (zaV ?_)))
     exact zaO s5 h rfl (zad rfl (zaH)) Splits.nil
  ·
   rintro s2 h
   rw [hj2] at h
   show TC _ _ _ _ _ ([]) _ _ [(3, .string s2)] []
   refine zas (zai (zah rfl dc rfl (zak rfl dc rfl (zap (zaj (zaX ?_))))))
   cases h
   exact za3 (rs := [.tmp 2]) () (.inl rfl) Tryd.results68 (.cons (.tmp rfl) .nil) rfl Splits.nil
def zdl (p1 : Gref17_Poem) (q1 : Gref17_Poem) (i3 : Int) (j2 : Option Bool) (ag2 : Int → Option Bool) (k5 : Int) : Option Bool := zaG (zdh p1.Stanzas i3) fun (x3 : List ByteArray) => zaU (decide ((k5 : Int) < (x3.length : Int))) ( zaG (zdh p1.Stanzas i3) fun (x4 : List ByteArray) => zaG (zdh x4 k5) fun (q2 : ByteArray) => zaG (zdh q1.Stanzas i3) fun (x5 : List ByteArray) => zaG (zdh x5 k5) fun (q3 : ByteArray) => zaU (!decide (q2 = q3)) ( some false
) ( grd (I64 (k5 + 1)) <| ag2 (k5 + 1)
)
) ( j2
)
def zdm (p1 : Gref17_Poem) (q1 : Gref17_Poem) (j1 : Option Bool) (ag1 : Int → Option Bool) (i3 : Int) : Option Bool := zaU (decide ((i3 : Int) < (p1.Stanzas.length : Int))) ( zbO (fun (j2 : Option Bool) => zaG (zdh p1.Stanzas i3) fun (x1 : List ByteArray) => zaG (zdh q1.Stanzas i3) fun (x2 : List ByteArray) => zaU (((x1.length : Int) : Int) != (x2.length : Int)) ( some false
) ( za8 (fun _ => none) (zdl p1 q1 i3 j2) zb0 0
)
) ( grd (I64 (i3 + 1)) <| ag1 (i3 + 1)
)
) ( j1
)
def zeT (p1 : Gref17_Poem) (q1 : Gref17_Poem) : Option Bool := zaU (!decide (p1.Title = q1.Title)) ( some false
) ( zaU (((p1.Stanzas.length : Int) : Int) != (q1.Stanzas.length : Int)) ( some false
) ( zbO (fun (j1 : Option Bool) => za8 (fun _ => none) (zdm p1 q1 j1) zb0 0
) ( some true
)
)
)
theorem zfS {p1 : Gref17_Poem} {p1_h0 : Hd} {vvp10 : Value} {kp10 : Nat} {Zp10 zp10 : List ((List ByteArray) × Hd)} (hwp10 : Vw vvp10 Zp10 1 kp10 p1_h0.v zp10) (hzp10 : zp10.map Prod.fst = p1.Stanzas) {q1 : Gref17_Poem} {q1_h0 : Hd} {vvq10 : Value} {kq10 : Nat} {Zq10 zq10 : List ((List ByteArray) × Hd)} (hwq10 : Vw vvq10 Zq10 1 kq10 q1_h0.v zq10) (hzq10 : zq10.map Prod.fst = q1.Stanzas) {r : Bool} (h : zeT p1 q1 = some r) : FnR Tryd.prog 38 [.agg #[.string p1.Title, p1_h0.v], .agg #[.string q1.Title, q1_h0.v]] [zbk zae 1 vvp10 kp10 Zp10, zbM zaD Zp10, zbk zae 1 vvq10 kq10 Zq10, zbM zaD Zq10] [] (fun _ : Unit => (.bool r)) (fun _ => []) := by
 unfold zeT at h
 refine FnR.intro Tryd.func38 rfl Tryd.ntmps38 (by simp) ?_
 intro w0 K hrd
 refine zas (zai ?_)
 refine zeE rfl dc rfl (fun b1 => ?_)
 refine zeE rfl dc rfl (fun b2 => ?_)
 show TO _ _ _ _ _ _ _ _ _ _ [cells b1 [.string p1.Title, p1_h0.v] 56, cells b2 [.string q1.Title, q1_h0.v] 56]
 refine zak rfl dc rfl (zap (zaj (zas (zas (zai (zar zeL rfl dc rfl (show _ = 0 from rfl) (zaN (k := 0) zgm rfl dc rfl rfl rfl (zar zeL rfl dc rfl (show _ = 0 from rfl) (zaN (k := 1) zgm rfl dc rfl rfl rfl (zaz rfl dc rfl rfl zcY (zah rfl dc rfl ?_)))))))))))
 refine za6 (s := 12) rfl (fun hb1 => ?_) (fun hb1 => ?_)
 ·
  have h := za0 hb1 h
  refine zan rfl dc (zan rfl dc (zan rfl dc (zan rfl dc (zan rfl dc (zan rfl dc (zan rfl dc (zaB (b := true) rfl dc rfl rfl (zap (zaj (zbu rfl (zas (zai (zak rfl dc rfl ?_)))))))))))))
  refine zap (zaj (zaX (zay ?_)))
  cases h
  exact za3 (rs := [.tmp 4]) () (.inl rfl) Tryd.results38 (.cons (.tmp rfl) .nil) rfl Splits.nil
 ·
  have h := za1 hb1 h
  refine zar zbC rfl dc rfl (show _ = 1 from rfl) (zaN (k := 0) zc7 rfl dc rfl rfl rfl (zcS hzp10 hwp10 rfl dc rfl Tryd.underlying54 (zar zbC rfl dc rfl (show _ = 1 from rfl) (zaN (k := 1) zc7 rfl dc rfl rfl rfl (zcS hzq10 hwq10 rfl dc rfl Tryd.underlying54 (zaz rfl dc rfl rfl zbE (zaB (b := false) rfl dc rfl rfl (zap (zaj ?_)))))))))
  refine zaM rfl (fun hb2 => ?_) (fun hb2 => ?_)
  ·
   have h := za0 hb2 h
   refine zas (zai (zak rfl dc rfl (zap (zaj (zaX (zay ?_))))))
   cases h
   exact za3 (rs := [.tmp 4]) () (.inl rfl) Tryd.results38 (.cons (.tmp rfl) .nil) rfl Splits.nil
  ·
   have h := za1 hb2 h
   refine zaP (zaj ?_)
   obtain ⟨j1, hj1, h⟩ := zcp h
   refine zbm (β := Unit) 0 rfl (fun b => j1 = some r) (fun b => []) (fun b => []) (fun b => []) (fun cut => ?_) ?_
   ·
    refine cut (zas (zai (zak rfl dc rfl (zap (zaj (za2 ?_))))))
    refine zbJ (β := Nat × Int) (fun b => za8 (fun _ => none) (zdm p1 q1 j1) b.1 b.2 = some r) (fun b => []) (fun b => [(2, zP b1), (3, zP b2), (5, zI b.2)]) (fun b => [cells b1 [.string p1.Title, p1_h0.v] 56, cells b2 [.string q1.Title, q1_h0.v] 56]) (fun b => b.1) (zb0, 0) h rfl (zad rfl (zad rfl (zad rfl (zaH)))) (zal [0, 1] kr rfl) ?_
    rintro ⟨n1, i3⟩ h
    cases n1 with
    | zero => exact zdV h
    | succ n1 =>
     obtain ⟨ag1, hag1⟩ : ∃ ag, ag = za8 (fun _ => none) (zdm p1 q1 j1) n1 := ⟨_, rfl⟩
     have h : zdm p1 q1 j1 ag1 i3 = some r := by rw [hag1]; exact h
     unfold zdm at h
     show TC _ _ _ _ _ ([]) _ _ [(2, zP b1), (3, zP b2), (5, zI i3)] [cells b1 [.string p1.Title, p1_h0.v] 56, cells b2 [.string q1.Title, q1_h0.v] 56]
     refine zas (zas (zai (zah rfl dc rfl (zar zbC rfl dc rfl (show _ = 1 from rfl) (zaN (k := 0) zc7 rfl dc rfl rfl rfl (zcS hzp10 hwp10 rfl dc rfl Tryd.underlying54 (zaz rfl dc rfl rfl zbF (zap (zaj ?_)))))))))
     refine zaM rfl (fun hb3 => ?_) (fun hb3 => ?_)
     ·
      have h := za0 hb3 h
      refine zaP (zaj ?_)
      obtain ⟨j2, hj2, h⟩ := zcp h
      refine zbm (β := Unit) 0 rfl (fun b => j2 = some r) (fun b => []) (fun b => [(2, zP b1), (3, zP b2), (5, zI i3)]) (fun b => [cells b1 [.string p1.Title, p1_h0.v] 56, cells b2 [.string q1.Title, q1_h0.v] 56]) (fun cut => ?_) ?_
      ·
       refine cut (za2 (zas (zas ?_)))
       obtain ⟨x1, hq1, h⟩ := zbN h
       obtain ⟨eh1, eq1⟩ := zeb hzp10 hq1
       have hrd : Rd _ _ [zbk zae 1 vvp10 kp10 Zp10, zbM zaD Zp10, zbk zae 1 vvq10 kq10 Zq10, zbM zaD Zq10, zej zbT 1 eh1 x1] := hrd.openEl (i := 1) (z := (x1, eh1)) rfl (Vw.get hwp10 eq1)
       obtain ⟨vv1, k1, L1, hV1, hrd⟩ := hrd.openSl (i := 4) rfl
       replace hrd : Rd _ _ [zbk zae 1 vvp10 kp10 Zp10, zbM zaD Zp10, zbk zae 1 vvq10 kq10 Zq10, zbM zaD Zq10, zej zbT 1 eh1 x1, zbk zbT 1 vv1 k1 L1] := hrd
       obtain ⟨x2, hq2, h⟩ := zbN h
       obtain ⟨eh2, eq2⟩ := zeb hzq10 hq2
       have hrd : Rd _ _ [zbk zae 1 vvp10 kp10 Zp10, zbM zaD Zp10, zbk zae 1 vvq10 kq10 Zq10, zbM zaD Zq10, zej zbT 1 eh1 x1, zbk zbT 1 vv1 k1 L1, zej zbT 1 eh2 x2] := hrd.openEl (i := 3) (z := (x2, eh2)) rfl (Vw.get hwq10 eq2)
       obtain ⟨vv2, k2, L2, hV2, hrd⟩ := hrd.openSl (i := 6) rfl
       replace hrd : Rd _ _ [zbk zae 1 vvp10 kp10 Zp10, zbM zaD Zp10, zbk zae 1 vvq10 kq10 Zq10, zbM zaD Zq10, zej zbT 1 eh1 x1, zbk zbT 1 vv1 k1 L1, zej zbT 1 eh2 x2, zbk zbT 1 vv2 k2 L2] := hrd
       refine zbR 12 [(0, 28, .pointer (some ⟨b1, 1, none⟩)), (1, 29, p1_h0.v), (2, 30, zI i3), (3, 31, .pointer (some ⟨zff vvp10, (kp10 + (i3 : Int).toNat) * 1, none⟩)), (4, 32, eh1.v), (5, 33, zI (x1.length : Int)), (6, 34, .pointer (some ⟨b2, 1, none⟩)), (7, 35, q1_h0.v), (8, 36, zI i3), (9, 37, .pointer (some ⟨zff vvq10, (kq10 + (i3 : Int).toNat) * 1, none⟩)), (10, 38, eh2.v), (11, 39, zI (x2.length : Int))] mixed kr kr dc (by rfl) kr kr (zac ?_ (zac ?_ (zac ?_ (zac ?_ (zac ?_ (zac ?_ (zac ?_ (zac ?_ (zac ?_ (zac ?_ (zac ?_ (zac ?_ DrawPre.nil)))))))))))) ?_
       ·
        intro D hn hd hcl hu hi
        refine zar zbC rfl dc (zaE (by rfl) rfl) (show _ = 1 from rfl) ?_
        exact zaf 0 hu hi rfl
       ·
        intro D hn hd hcl hu hi
        refine zaN (k := 0) zc7 rfl dc (zab (m := 0) hu rfl (hd 0 dc)) rfl rfl ?_
        exact zaf 1 hu hi rfl
       ·
        intro D hn hd hcl hu hi
        refine zah rfl dc (zaE (by rfl) rfl) ?_
        exact zaf 2 hu hi rfl
       ·
        intro D hn hd hcl hu hi
        refine zbd hwp10 eq1 Tryd.underlying54 zet rfl dc (zab (m := 1) hu rfl (hd 1 dc)) (zab (m := 2) hu rfl (hd 2 dc)) rfl ?_
        exact zaf 3 hu hi rfl
       ·
        intro D hn hd hcl hu hi
        refine zbi (n := kp10 + (i3 : Int).toNat) (j := 0) (i := 0) (q := (x1, eh1)) hrd rfl (by omega) zeR rfl dc (zab (m := 3) hu rfl (hd 3 dc)) (Vw.get hwp10 eq1) rfl rfl ?_
        exact zaf 4 hu hi rfl
       ·
        intro D hn hd hcl hu hi
        refine zbG hV1 rfl dc (zab (m := 4) hu rfl (hd 4 dc)) Tryd.underlying48 ?_
        exact zaf 5 hu hi rfl
       ·
        intro D hn hd hcl hu hi
        refine zar zbC rfl dc (zaE (by rfl) rfl) (show _ = 1 from rfl) ?_
        exact zaf 6 hu hi rfl
       ·
        intro D hn hd hcl hu hi
        refine zaN (k := 1) zc7 rfl dc (zab (m := 6) hu rfl (hd 6 dc)) rfl rfl ?_
        exact zaf 7 hu hi rfl
       ·
        intro D hn hd hcl hu hi
        refine zah rfl dc (zaE (by rfl) rfl) ?_
        exact zaf 8 hu hi rfl
       ·
        intro D hn hd hcl hu hi
        refine zbd hwq10 eq2 Tryd.underlying54 zet rfl dc (zab (m := 7) hu rfl (hd 7 dc)) (zab (m := 8) hu rfl (hd 8 dc)) rfl ?_
        exact zaf 9 hu hi rfl
       ·
        intro D hn hd hcl hu hi
        refine zbi (n := kq10 + (i3 : Int).toNat) (j := 0) (i := 2) (q := (x2, eh2)) hrd rfl (by omega) zeR rfl dc (zab (m := 9) hu rfl (hd 9 dc)) (Vw.get hwq10 eq2) rfl rfl ?_
        exact zaf 10 hu hi rfl
       ·
        intro D hn hd hcl hu hi
        refine zbG hV2 rfl dc (zab (m := 10) hu rfl (hd 10 dc)) Tryd.underlying48 ?_
        exact zaf 11 hu hi rfl
       refine zaz rfl dc rfl rfl zbE (zap (zaj ?_))
       refine zaM rfl (fun hb4 => ?_) (fun hb4 => ?_)
       ·
        have h := za0 hb4 h
        refine zas (zai (zak rfl dc rfl (zap (zaj (zaX (zay (zaI (zay (zay (zaI (zay ?_)))))))))))
        cases h
        exact za3 (rs := [.tmp 4]) () (.inl rfl) Tryd.results38 (.cons (.tmp rfl) .nil) rfl Splits.nil
       ·
        have h := za1 hb4 h
        refine zaP (zaj (zas (zai (zak rfl dc rfl (zap (zaj (za2 ?_)))))))
        refine zbJ (β := Nat × Int) (fun b => za8 (fun _ => none) (zdl p1 q1 i3 j2) b.1 b.2 = some r) (fun b => []) (fun b => [(2, zP b1), (3, zP b2), (5, zI i3), (6, zI b.2)]) (fun b => [cells b1 [.string p1.Title, p1_h0.v] 56, cells b2 [.string q1.Title, q1_h0.v] 56]) (fun b => b.1) (zb0, 0) h rfl (zad rfl (zad rfl (zad rfl (zad rfl (zaH))))) (zal [0, 1] kr rfl) ?_
        rintro ⟨n2, k5⟩ h
        cases n2 with
        | zero => exact zdV h
        | succ n2 =>
         obtain ⟨ag2, hag2⟩ : ∃ ag, ag = za8 (fun _ => none) (zdl p1 q1 i3 j2) n2 := ⟨_, rfl⟩
         have h : zdl p1 q1 i3 j2 ag2 k5 = some r := by rw [hag2]; exact h
         unfold zdl at h
         show TC _ _ _ _ _ ([]) _ _ [(2, zP b1), (3, zP b2), (5, zI i3), (6, zI k5)] [cells b1 [.string p1.Title, p1_h0.v] 56, cells b2 [.string q1.Title, q1_h0.v] 56]
         refine zas (zas (zai (zah rfl dc rfl (zar zbC rfl dc rfl (show _ = 1 from rfl) (zaN (k := 0) zc7 rfl dc rfl rfl rfl (zah rfl dc rfl ?_))))))
         obtain ⟨x3, hq3, h⟩ := zbN h
         obtain ⟨eh3, eq3⟩ := zeb hzp10 hq3
         have hrd : Rd _ _ [zbk zae 1 vvp10 kp10 Zp10, zbM zaD Zp10, zbk zae 1 vvq10 kq10 Zq10, zbM zaD Zq10, zej zbT 1 eh1 x1, zbk zbT 1 vv1 k1 L1, zej zbT 1 eh2 x2, zbk zbT 1 vv2 k2 L2, zej zbT 1 eh3 x3] := hrd.openEl (i := 1) (z := (x3, eh3)) rfl (Vw.get hwp10 eq3)
         obtain ⟨vv3, k6, L3, hV3, hrd⟩ := hrd.openSl (i := 8) rfl
         replace hrd : Rd _ _ [zbk zae 1 vvp10 kp10 Zp10, zbM zaD Zp10, zbk zae 1 vvq10 kq10 Zq10, zbM zaD Zq10, zej zbT 1 eh1 x1, zbk zbT 1 vv1 k1 L1, zej zbT 1 eh2 x2, zbk zbT 1 vv2 k2 L2, zej zbT 1 eh3 x3, zbk zbT 1 vv3 k6 L3] := hrd
         refine zbd hwp10 eq3 Tryd.underlying54 zet rfl dc rfl rfl rfl (zbi (n := kp10 + (i3 : Int).toNat) (j := 0) (i := 0) (q := (x3, eh3)) hrd rfl (by omega) zeR rfl dc rfl (Vw.get hwp10 eq3) rfl rfl (zbG hV3 rfl dc rfl Tryd.underlying48 (zaz rfl dc rfl rfl zbF (zap (zaj ?_)))))
         refine zaM rfl (fun hb5 => ?_) (fun hb5 => ?_)
         ·
          have h := za0 hb5 h
          refine zaP (zaj (zas (za2 (zas ?_))))
          obtain ⟨x4, hq4, h⟩ := zbN h
          obtain ⟨eh4, eq4⟩ := zeb hzp10 hq4
          have hrd : Rd _ _ [zbk zae 1 vvp10 kp10 Zp10, zbM zaD Zp10, zbk zae 1 vvq10 kq10 Zq10, zbM zaD Zq10, zej zbT 1 eh1 x1, zbk zbT 1 vv1 k1 L1, zej zbT 1 eh2 x2, zbk zbT 1 vv2 k2 L2, zej zbT 1 eh3 x3, zbk zbT 1 vv3 k6 L3, zej zbT 1 eh4 x4] := hrd.openEl (i := 1) (z := (x4, eh4)) rfl (Vw.get hwp10 eq4)
          obtain ⟨vv4, k7, L4, hV4, hrd⟩ := hrd.openSl (i := 10) rfl
          replace hrd : Rd _ _ [zbk zae 1 vvp10 kp10 Zp10, zbM zaD Zp10, zbk zae 1 vvq10 kq10 Zq10, zbM zaD Zq10, zej zbT 1 eh1 x1, zbk zbT 1 vv1 k1 L1, zej zbT 1 eh2 x2, zbk zbT 1 vv2 k2 L2, zej zbT 1 eh3 x3, zbk zbT 1 vv3 k6 L3, zej zbT 1 eh4 x4, zbk zbT 1 vv4 k7 L4] := hrd
          obtain ⟨q2, hq5, h⟩ := zbN h
          obtain ⟨x5, hq6, h⟩ := zbN h
          obtain ⟨eh5, eq5⟩ := zeb hzq10 hq6
          have hrd : Rd _ _ [zbk zae 1 vvp10 kp10 Zp10, zbM zaD Zp10, zbk zae 1 vvq10 kq10 Zq10, zbM zaD Zq10, zej zbT 1 eh1 x1, zbk zbT 1 vv1 k1 L1, zej zbT 1 eh2 x2, zbk zbT 1 vv2 k2 L2, zej zbT 1 eh3 x3, zbk zbT 1 vv3 k6 L3, zej zbT 1 eh4 x4, zbk zbT 1 vv4 k7 L4, zej zbT 1 eh5 x5] := hrd.openEl (i := 3) (z := (x5, eh5)) rfl (Vw.get hwq10 eq5)
          obtain ⟨vv5, k8, L5, hV5, hrd⟩ := hrd.openSl (i := 12) rfl
          replace hrd : Rd _ _ [zbk zae 1 vvp10 kp10 Zp10, zbM zaD Zp10, zbk zae 1 vvq10 kq10 Zq10, zbM zaD Zq10, zej zbT 1 eh1 x1, zbk zbT 1 vv1 k1 L1, zej zbT 1 eh2 x2, zbk zbT 1 vv2 k2 L2, zej zbT 1 eh3 x3, zbk zbT 1 vv3 k6 L3, zej zbT 1 eh4 x4, zbk zbT 1 vv4 k7 L4, zej zbT 1 eh5 x5, zbk zbT 1 vv5 k8 L5] := hrd
          obtain ⟨q3, hq7, h⟩ := zbN h
          refine zbR 16 [(0, 51, .pointer (some ⟨b1, 1, none⟩)), (1, 52, p1_h0.v), (2, 53, zI i3), (3, 54, .pointer (some ⟨zff vvp10, (kp10 + (i3 : Int).toNat) * 1, none⟩)), (4, 55, eh4.v), (5, 56, zI k5), (6, 57, .pointer (some ⟨zff vv4, (k7 + (k5 : Int).toNat) * 1, none⟩)), (7, 58, .string q2), (8, 59, .pointer (some ⟨b2, 1, none⟩)), (9, 60, q1_h0.v), (10, 61, zI i3), (11, 62, .pointer (some ⟨zff vvq10, (kq10 + (i3 : Int).toNat) * 1, none⟩)), (12, 63, eh5.v), (13, 64, zI k5), (14, 65, .pointer (some ⟨zff vv5, (k8 + (k5 : Int).toNat) * 1, none⟩)), (15, 66, .string q3)] mixed kr kr dc (by rfl) kr kr (zac ?_ (zac ?_ (zac ?_ (zac ?_ (zac ?_ (zac ?_ (zac ?_ (zac ?_ (zac ?_ (zac ?_ (zac ?_ (zac ?_ (zac ?_ (zac ?_ (zac ?_ (zac ?_ DrawPre.nil)))))))))))))))) ?_
          ·
           intro D hn hd hcl hu hi
           refine zar zbC rfl dc (zaE (by rfl) rfl) (show _ = 1 from rfl) ?_
           exact zaf 0 hu hi rfl
          ·
           intro D hn hd hcl hu hi
           refine zaN (k := 0) zc7 rfl dc (zab (m := 0) hu rfl (hd 0 dc)) rfl rfl ?_
           exact zaf 1 hu hi rfl
          ·
           intro D hn hd hcl hu hi
           refine zah rfl dc (zaE (by rfl) rfl) ?_
           exact zaf 2 hu hi rfl
          ·
           intro D hn hd hcl hu hi
           refine zbd hwp10 eq4 Tryd.underlying54 zet rfl dc (zab (m := 1) hu rfl (hd 1 dc)) (zab (m := 2) hu rfl (hd 2 dc)) rfl ?_
           exact zaf 3 hu hi rfl
          ·
           intro D hn hd hcl hu hi
           refine zbi (n := kp10 + (i3 : Int).toNat) (j := 0) (i := 0) (q := (x4, eh4)) hrd rfl (by omega) zeR rfl dc (zab (m := 3) hu rfl (hd 3 dc)) (Vw.get hwp10 eq4) rfl rfl ?_
           exact zaf 4 hu hi rfl
          ·
           intro D hn hd hcl hu hi
           refine zah rfl dc (zaE (by rfl) rfl) ?_
           exact zaf 5 hu hi rfl
          ·
           intro D hn hd hcl hu hi
           refine zbd hV4 hq5 Tryd.underlying48 zlY rfl dc (zab (m := 4) hu rfl (hd 4 dc)) (zab (m := 5) hu rfl (hd 5 dc)) rfl ?_
           exact zaf 6 hu hi rfl
          ·
           intro D hn hd hcl hu hi
           refine zbi (n := k7 + (k5 : Int).toNat) (j := 0) (i := 11) (q := q2) hrd rfl (by omega) zgm rfl dc (zab (m := 6) hu rfl (hd 6 dc)) (Vw.get hV4 hq5) rfl rfl ?_
           exact zaf 7 hu hi rfl
          ·
           intro D hn hd hcl hu hi
           refine zar zbC rfl dc (zaE (by rfl) rfl) (show _ = 1 from rfl) ?_
           exact zaf 8 hu hi rfl
          ·
           intro D hn hd hcl hu hi
           refine zaN (k := 1) zc7 rfl dc (zab (m := 8) hu rfl (hd 8 dc)) rfl rfl ?_
           exact zaf 9 hu hi rfl
          ·
           intro D hn hd hcl hu hi
           refine zah rfl dc (zaE (by rfl) rfl) ?_
           exact zaf 10 hu hi rfl
          ·
           intro D hn hd hcl hu hi
           refine zbd hwq10 eq5 Tryd.underlying54 zet rfl dc (zab (m := 9) hu rfl (hd 9 dc)) (zab (m := 10) hu rfl (hd 10 dc)) rfl ?_
           exact zaf 11 hu hi rfl
          ·
           intro D hn hd hcl hu hi
           refine zbi (n := kq10 + (i3 : Int).toNat) (j := 0) (i := 2) (q := (x5, eh5)) hrd rfl (by omega) zeR rfl dc (zab (m := 11) hu rfl (hd 11 dc)) (Vw.get hwq10 eq5) rfl rfl ?_
           exact zaf 12 hu hi rfl
          ·
           intro D hn hd hcl hu hi
           refine zah rfl dc (zaE (by rfl) rfl) ?_
           exact zaf 13 hu hi rfl
          ·
           intro D hn hd hcl hu hi
           refine zbd hV5 hq7 Tryd.underlying48 zlY rfl dc (zab (m := 12) hu rfl (hd 12 dc)) (zab (m := 13) hu rfl (hd 13 dc)) rfl ?_
           exact zaf 14 hu hi rfl
          ·
           intro D hn hd hcl hu hi
           refine zbi (n := k8 + (k5 : Int).toNat) (j := 0) (i := 13) (q := q3) hrd rfl (by omega) zgm rfl dc (zab (m := 14) hu rfl (hd 14 dc)) (Vw.get hV5 hq7) rfl rfl ?_
           exact zaf 15 hu hi rfl
          refine zaz rfl dc rfl rfl zcY (zap (zaj ?_))
          refine zaM rfl (fun hb6 => ?_) (fun hb6 => ?_)
          ·
           have h := za0 hb6 h
           refine zas (zai (zak rfl dc rfl (zap (zaj (zaX (zaI (zay (zay (zaI (zaI (zay (zay (zaI ?_)))))))))))))
           refine zay ?_
           cases h
           exact za3 (rs := [.tmp 4]) () (.inl rfl) Tryd.results38 (.cons (.tmp rfl) .nil) rfl Splits.nil
          ·
           have h := za1 hb6 h
           refine zaP (zaA (zaj (zai (zah rfl dc rfl ?_))))
           obtain ⟨hg1, h⟩ := zcb h
           refine zaz rfl dc rfl rfl (zbh (r := k5 + 1) (IntWalk.i64_in _ hg1)) (zak rfl dc rfl (zap ?_))
           subst hag2
           exact zbj (n2, k5 + 1) h (Nat.lt_succ_self _) rfl (zad rfl (zad rfl (zad rfl (zad rfl (zaH))))) (zal [0, 1] kr rfl)
         ·
          have h := za1 hb5 h
          refine zby (zaJ (zaJ (zaV (zaA ?_))))
          exact zaO () h rfl (zad rfl (zad rfl (zad rfl (zaH)))) (zal [0, 1] kr rfl)
      ·
       rintro _ h
       rw [hj2] at h
       show TC _ _ _ _ _ ([]) _ _ [(2, zP b1), (3, zP b2), (5, zI i3)] [cells b1 [.string p1.Title, p1_h0.v] 56, cells b2 [.string q1.Title, q1_h0.v] 56]
       refine zai (zah rfl dc rfl ?_)
       obtain ⟨hg2, h⟩ := zcb h
       refine zaz rfl dc rfl rfl (zbh (r := i3 + 1) (IntWalk.i64_in _ hg2)) (zak rfl dc rfl (zap ?_))
       subst hag1
       exact zbj (n1, i3 + 1) h (Nat.lt_succ_self _) rfl (zad rfl (zad rfl (zad rfl (zaH)))) (zal [0, 1] kr rfl)
     ·
      have h := za1 hb3 h
      refine zby (zaJ (zaJ (zaV ?_)))
      exact zaO () h rfl (zaH) Splits.nil
   ·
    rintro _ h
    rw [hj1] at h
    show TC _ _ _ _ _ ([]) _ _ [] []
    refine zas (zai (zak rfl dc rfl (zap (zaj (zaX ?_)))))
    cases h
    exact za3 (rs := [.tmp 4]) () (.inl rfl) Tryd.results38 (.cons (.tmp rfl) .nil) rfl Splits.nil
def zdL (p1 : Gref17_Poem) (n1 : Int) (line1 : ByteArray) (i3 : Int) (j3 : Int → (List ByteArray) → Option (Gref17_Poem × Int)) (ag2 : Int → (List ByteArray) → Int → Option (Gref17_Poem × Int)) (at10 : Int) (l4 : List ByteArray) (k3 : Int) : Option (Gref17_Poem × Int) := zaG (zdh p1.Stanzas i3) fun (x1 : List ByteArray) => zaU (decide ((k3 : Int) < (x1.length : Int))) ( zaG (zdh p1.Stanzas i3) fun (x2 : List ByteArray) => zaG (zdh x2 k3) fun (q1 : ByteArray) => zbO (fun (j4 : ByteArray → Option (Gref17_Poem × Int)) => zaU ((at10 : Int) == n1) ( j4 line1
) ( j4 q1
)
) (fun (s1 : ByteArray) => grd (l4.length + 1 ≤ 2147483648) <| grd (I64 (at10 + 1)) <| grd (I64 (k3 + 1)) <| ag2 (at10 + 1) (l4 ++ [s1]) (k3 + 1)
)
) ( j3 at10 l4
)
def zdM (p1 : Gref17_Poem) (n1 : Int) (line1 : ByteArray) (j1 : (List (List ByteArray)) → Int → Option (Gref17_Poem × Int)) (ag1 : (List (List ByteArray)) → Int → Int → Option (Gref17_Poem × Int)) (out4 : List (List ByteArray)) (at4 : Int) (i3 : Int) : Option (Gref17_Poem × Int) := zaU (decide ((i3 : Int) < (p1.Stanzas.length : Int))) ( zbO (fun (j2 : (List (List ByteArray)) → Int → Option (Gref17_Poem × Int)) => zbO (fun (j3 : Int → (List ByteArray) → Option (Gref17_Poem × Int)) => za8 (fun _ _ _ => none) (zdL p1 n1 line1 i3 j3) zb0 at4 ([] : List ByteArray) 0
) (fun (at6 : Int) (l1 : List ByteArray) => grd (out4.length + 1 ≤ 2147483648) <| j2 (out4 ++ [l1]) at6
)
) (fun (out5 : List (List ByteArray)) (at5 : Int) => grd (I64 (i3 + 1)) <| ag1 out5 at5 (i3 + 1)
)
) ( j1 out4 at4
)
def zeI (p1 : Gref17_Poem) (n1 : Int) (line1 : ByteArray) : Option (Gref17_Poem × Int) := zbO (fun (j1 : (List (List ByteArray)) → Int → Option (Gref17_Poem × Int)) => za8 (fun _ _ _ => none) (zdM p1 n1 line1 j1) zb0 ([] : List (List ByteArray)) 0 0
) (fun (out1 : List (List ByteArray)) (at1 : Int) => zaU (decide ((n1 : Int) < 0)) ( some ((⟨ByteArray.empty, ([] : List (List ByteArray))⟩ : Gref17_Poem), 5)
) ( zaU (decide ((at1 : Int) ≤ n1)) ( some ((⟨ByteArray.empty, ([] : List (List ByteArray))⟩ : Gref17_Poem), 5)
) ( zaG (zeJ line1) fun (r1 : Bool) => zaU (!r1) ( some ((⟨ByteArray.empty, ([] : List (List ByteArray))⟩ : Gref17_Poem), 170)
) ( zaG (zbU (⟨p1.Title, out1⟩ : Gref17_Poem)) fun (r2 : ByteArray) => zaU (decide ((65536 : Int) < (r2.size : Int))) ( some ((⟨ByteArray.empty, ([] : List (List ByteArray))⟩ : Gref17_Poem), 3)
) ( some ((⟨p1.Title, out1⟩ : Gref17_Poem), 0)
)
)
)
)
)
theorem zj1 {p1 : Gref17_Poem} {p1_h0 : Hd} {vvp10 : Value} {kp10 : Nat} {Zp10 zp10 : List ((List ByteArray) × Hd)} (hwp10 : Vw vvp10 Zp10 1 kp10 p1_h0.v zp10) (hzp10 : zp10.map Prod.fst = p1.Stanzas) {n1 : Int} {line1 : ByteArray} {r : (Gref17_Poem × Int)} (h : zeI p1 n1 line1 = some r) : FnR Tryd.prog 34 [.agg #[.string p1.Title, p1_h0.v], zI n1, .string line1] [zbk zae 1 vvp10 kp10 Zp10, zbM zaD Zp10] [] (fun v0 : Hd => .tuple #[.agg #[.string r.1.Title, v0.v], zI r.2]) (fun v0 => [zbx zae zag 48 1 v0.v r.1.Stanzas]) := by
 unfold zeI at h
 refine FnR.intro Tryd.func34 rfl Tryd.ntmps34 (by simp) ?_
 intro w0 K hrd
 obtain ⟨j1, hj1, h⟩ := zcp h
 refine zbm (β := (List (List ByteArray)) × Int × Nat × Nat × Hd) 3 rfl (fun b => j1 b.1 b.2.1 = some r) (fun b => []) (fun b => [(1, zI n1), (2, .string line1), (6, zP b.2.2.1), (8, zP b.2.2.2.1), (9, zI b.2.1)]) (fun b => [cells b.2.2.1 [.string ByteArray.empty, .slice none 0 0] 56, cells b.2.2.2.1 [.string p1.Title, b.2.2.2.2.v] 56, zbx zae zag 48 1 b.2.2.2.2.v b.1]) (fun cut => ?_) ?_
 ·
  refine zas (zai ?_)
  refine zeE rfl dc rfl (fun b3 => ?_)
  refine zbl zgC rfl dc (fun b4 => ?_)
  show TO _ _ _ _ _ _ _ _ _ _ [cells b3 [.string p1.Title, p1_h0.v] 56, cells b4 [.string ByteArray.empty, .slice none 0 0] 56]
  refine zak rfl dc rfl (zap (zaj (zas (zai (zar zeL rfl dc rfl (show _ = 0 from rfl) (zaN (k := 0) zgm rfl dc rfl rfl rfl ?_))))))
  refine zbe (v := .agg #[.string p1.Title, .slice none 0 0]) (ps := [(0, .tmp 15)]) rfl dc rfl (fun _ => by kernel_rfl) ?_
  refine zbl zgC rfl dc (fun b5 => ?_)
  refine zaZ (k := 2) (vs := [.string p1.Title, .slice none 0 0]) (l' := [.string p1.Title, .slice none 0 0]) zeG rfl rfl rfl rfl rfl (show _ ≤ _ by simp) rfl rfl ?_
  show TO _ _ _ _ _ _ _ _ _ _ [cells b3 [.string p1.Title, p1_h0.v] 56, cells b4 [.string ByteArray.empty, .slice none 0 0] 56, cells b5 [.string p1.Title, .slice none 0 0] 56]
  refine zap (zaj (zas (zai (zak rfl dc rfl (zap (zaj (cut (zas (zai (zak rfl dc rfl (zap (zaj (za2 ?_)))))))))))))
  refine zjM (enc := zae) (nest := zag) (e := 48) (size := 1) ?_
  show TC _ _ _ _ _ _ _ _ _ [cells b3 [.string p1.Title, p1_h0.v] 56, cells b4 [.string ByteArray.empty, .slice none 0 0] 56, cells b5 [.string p1.Title, .slice none 0 0] 56, zbx zae zag 48 1 (.slice none 0 0) ([] : List (List ByteArray))]
  refine zbJ (β := Nat × (List (List ByteArray)) × Int × Int × Hd) (fun b => za8 (fun _ _ _ => none) (zdM p1 n1 line1 j1) b.1 b.2.1 b.2.2.1 b.2.2.2.1 = some r) (fun b => []) (fun b => [(1, zI n1), (2, .string line1), (3, zP b3), (6, zP b4), (8, zP b5), (9, zI b.2.2.1), (10, zI b.2.2.2.1)]) (fun b => [cells b3 [.string p1.Title, p1_h0.v] 56, cells b4 [.string ByteArray.empty, .slice none 0 0] 56, cells b5 [.string p1.Title, b.2.2.2.2.v] 56, zbx zae zag 48 1 b.2.2.2.2.v b.2.1]) (fun b => b.1) (zb0, ([] : List (List ByteArray)), 0, 0, Hd.nil) h rfl (zad rfl (zad rfl (zad rfl (zad rfl (zad rfl (zad rfl (zad rfl (zaH)))))))) (zal [0, 1, 2, 3] kr rfl) ?_
  rintro ⟨n2, out4, at4, i3, hd4⟩ h
  cases n2 with
  | zero => exact zdV h
  | succ n2 =>
   obtain ⟨ag1, hag1⟩ : ∃ ag, ag = za8 (fun _ _ _ => none) (zdM p1 n1 line1 j1) n2 := ⟨_, rfl⟩
   have h : zdM p1 n1 line1 j1 ag1 out4 at4 i3 = some r := by rw [hag1]; exact h
   unfold zdM at h
   show TC _ _ _ _ _ ([]) _ _ [(1, zI n1), (2, .string line1), (3, zP b3), (6, zP b4), (8, zP b5), (9, zI at4), (10, zI i3)] [cells b3 [.string p1.Title, p1_h0.v] 56, cells b4 [.string ByteArray.empty, .slice none 0 0] 56, cells b5 [.string p1.Title, hd4.v] 56, zbx zae zag 48 1 hd4.v out4]
   refine zas (zas (zai (zah rfl dc rfl (zar zbC rfl dc rfl (show _ = 1 from rfl) (zaN (k := 0) zc7 rfl dc rfl rfl rfl (zcS hzp10 hwp10 rfl dc rfl Tryd.underlying54 (zaz rfl dc rfl rfl zbF (zap (zaj ?_)))))))))
   refine zaM rfl (fun hb1 => ?_) (fun hb1 => ?_)
   ·
    have h := za0 hb1 h
    refine zaP (zaj ?_)
    obtain ⟨j2, hj2, h⟩ := zcp h
    refine zbm (β := (List (List ByteArray)) × Int × Hd) 0 rfl (fun b => j2 b.1 b.2.1 = some r) (fun b => []) (fun b => [(1, zI n1), (2, .string line1), (3, zP b3), (6, zP b4), (8, zP b5), (9, zI b.2.1), (10, zI i3)]) (fun b => [cells b3 [.string p1.Title, p1_h0.v] 56, cells b4 [.string ByteArray.empty, .slice none 0 0] 56, cells b5 [.string p1.Title, b.2.2.v] 56, zbx zae zag 48 1 b.2.2.v b.1]) (fun cut => ?_) ?_
    ·
     refine cut (za2 ?_)
     obtain ⟨j3, hj3, h⟩ := zcp h
     refine zbm (β := Int × (List ByteArray) × Hd) 1 rfl (fun b => j3 b.1 b.2.1 = some r) (fun b => []) (fun b => [(1, zI n1), (2, .string line1), (3, zP b3), (6, zP b4), (8, zP b5), (9, zI b.1), (10, zI i3), (11, b.2.2.v)]) (fun b => [cells b3 [.string p1.Title, p1_h0.v] 56, cells b4 [.string ByteArray.empty, .slice none 0 0] 56, cells b5 [.string p1.Title, hd4.v] 56, zbx zae zag 48 1 hd4.v out4, vec zbT 9 1 b.2.2.v b.2.1]) (fun cut => ?_) ?_
     ·
      refine zas (zai (zak rfl dc rfl (zap (zaj (cut (zas (zai (zak rfl dc rfl (zap (zaj (za2 (zel (enc := zbT) (e := 9) (size := 1) ?_))))))))))))
      show TC _ _ _ _ _ _ _ _ _ [cells b3 [.string p1.Title, p1_h0.v] 56, cells b4 [.string ByteArray.empty, .slice none 0 0] 56, cells b5 [.string p1.Title, hd4.v] 56, zbx zae zag 48 1 hd4.v out4, vec zbT 9 1 (.slice none 0 0) ([] : List ByteArray)]
      refine zbJ (β := Nat × Int × (List ByteArray) × Int × Hd) (fun b => za8 (fun _ _ _ => none) (zdL p1 n1 line1 i3 j3) b.1 b.2.1 b.2.2.1 b.2.2.2.1 = some r) (fun b => []) (fun b => [(1, zI n1), (2, .string line1), (3, zP b3), (6, zP b4), (8, zP b5), (9, zI b.2.1), (10, zI i3), (11, b.2.2.2.2.v), (12, zI b.2.2.2.1)]) (fun b => [cells b3 [.string p1.Title, p1_h0.v] 56, cells b4 [.string ByteArray.empty, .slice none 0 0] 56, cells b5 [.string p1.Title, hd4.v] 56, zbx zae zag 48 1 hd4.v out4, vec zbT 9 1 b.2.2.2.2.v b.2.2.1]) (fun b => b.1) (zb0, at4, ([] : List ByteArray), 0, Hd.nil) h rfl (zad rfl (zad rfl (zad rfl (zad rfl (zad rfl (zad rfl (zad rfl (zad rfl (zad rfl (zaH)))))))))) (zal [0, 1, 2, 3, 4] kr rfl) ?_
      rintro ⟨n3, at10, l4, k3, hd9⟩ h
      cases n3 with
      | zero => exact zdV h
      | succ n3 =>
       obtain ⟨ag2, hag2⟩ : ∃ ag, ag = za8 (fun _ _ _ => none) (zdL p1 n1 line1 i3 j3) n3 := ⟨_, rfl⟩
       have h : zdL p1 n1 line1 i3 j3 ag2 at10 l4 k3 = some r := by rw [hag2]; exact h
       unfold zdL at h
       show TC _ _ _ _ _ ([]) _ _ [(1, zI n1), (2, .string line1), (3, zP b3), (6, zP b4), (8, zP b5), (9, zI at10), (10, zI i3), (11, hd9.v), (12, zI k3)] [cells b3 [.string p1.Title, p1_h0.v] 56, cells b4 [.string ByteArray.empty, .slice none 0 0] 56, cells b5 [.string p1.Title, hd4.v] 56, zbx zae zag 48 1 hd4.v out4, vec zbT 9 1 hd9.v l4]
       refine zas (zas (zai (zah rfl dc rfl (zar zbC rfl dc rfl (show _ = 1 from rfl) (zaN (k := 0) zc7 rfl dc rfl rfl rfl (zah rfl dc rfl ?_))))))
       obtain ⟨x1, hq1, h⟩ := zbN h
       obtain ⟨eh1, eq1⟩ := zeb hzp10 hq1
       have hrd : Rd _ _ [zbk zae 1 vvp10 kp10 Zp10, zbM zaD Zp10, zej zbT 1 eh1 x1] := hrd.openEl (i := 1) (z := (x1, eh1)) rfl (Vw.get hwp10 eq1)
       obtain ⟨vv1, k4, L1, hV1, hrd⟩ := hrd.openSl (i := 2) rfl
       replace hrd : Rd _ _ [zbk zae 1 vvp10 kp10 Zp10, zbM zaD Zp10, zej zbT 1 eh1 x1, zbk zbT 1 vv1 k4 L1] := hrd
       refine zbd hwp10 eq1 Tryd.underlying54 zet rfl dc rfl rfl rfl (zbi (n := kp10 + (i3 : Int).toNat) (j := 0) (i := 0) (q := (x1, eh1)) hrd rfl (by omega) zeR rfl dc rfl (Vw.get hwp10 eq1) rfl rfl (zbG hV1 rfl dc rfl Tryd.underlying48 (zaz rfl dc rfl rfl zbF (zap (zaj ?_)))))
       refine zaM rfl (fun hb2 => ?_) (fun hb2 => ?_)
       ·
        have h := za0 hb2 h
        refine zaP (zaj (zas (za2 (zas (zai (zar zbC rfl dc rfl (show _ = 1 from rfl) (zaN (k := 0) zc7 rfl dc rfl rfl rfl (zah rfl dc rfl ?_))))))))
        obtain ⟨x2, hq2, h⟩ := zbN h
        obtain ⟨eh2, eq2⟩ := zeb hzp10 hq2
        have hrd : Rd _ _ [zbk zae 1 vvp10 kp10 Zp10, zbM zaD Zp10, zej zbT 1 eh1 x1, zbk zbT 1 vv1 k4 L1, zej zbT 1 eh2 x2] := hrd.openEl (i := 1) (z := (x2, eh2)) rfl (Vw.get hwp10 eq2)
        obtain ⟨vv2, k5, L2, hV2, hrd⟩ := hrd.openSl (i := 4) rfl
        replace hrd : Rd _ _ [zbk zae 1 vvp10 kp10 Zp10, zbM zaD Zp10, zej zbT 1 eh1 x1, zbk zbT 1 vv1 k4 L1, zej zbT 1 eh2 x2, zbk zbT 1 vv2 k5 L2] := hrd
        refine zbd hwp10 eq2 Tryd.underlying54 zet rfl dc rfl rfl rfl (zbi (n := kp10 + (i3 : Int).toNat) (j := 0) (i := 0) (q := (x2, eh2)) hrd rfl (by omega) zeR rfl dc rfl (Vw.get hwp10 eq2) rfl rfl (zah rfl dc rfl ?_))
        obtain ⟨q1, hq3, h⟩ := zbN h
        refine zbd hV2 hq3 Tryd.underlying48 zlY rfl dc rfl rfl rfl (zbi (n := k5 + (k3 : Int).toNat) (j := 0) (i := 5) (q := q1) hrd rfl (by omega) zgm rfl dc rfl (Vw.get hV2 hq3) rfl rfl (zak rfl dc rfl (zap (zaj ?_))))
        obtain ⟨j4, hj4, h⟩ := zcp h
        refine zbm (β := ByteArray) 0 rfl (fun b => j4 b = some r) (fun b => []) (fun b => [(1, zI n1), (2, .string line1), (3, zP b3), (6, zP b4), (8, zP b5), (9, zI at10), (10, zI i3), (11, hd9.v), (12, zI k3), (13, .string b)]) (fun b => [cells b3 [.string p1.Title, p1_h0.v] 56, cells b4 [.string ByteArray.empty, .slice none 0 0] 56, cells b5 [.string p1.Title, hd4.v] 56, zbx zae zag 48 1 hd4.v out4, vec zbT 9 1 hd9.v l4]) (fun cut => ?_) ?_
        ·
         refine cut (zas (zai (zah rfl dc rfl (zah rfl dc rfl (zaz rfl dc rfl rfl zb6 (zap (zaj ?_)))))))
         refine zaM rfl (fun hb3 => ?_) (fun hb3 => ?_)
         ·
          have h := za0 hb3 h
          refine zai (zah rfl dc rfl (zak rfl dc rfl (zap ?_)))
          exact zaO line1 h rfl (zad rfl (zad rfl (zad rfl (zad rfl (zad rfl (zad rfl (zad rfl (zad rfl (zad rfl (zad rfl (zaH))))))))))) (zal [0, 1, 2, 3, 4] kr rfl)
         ·
          have h := za1 hb3 h
          refine zaP ?_
          exact zaO q1 h rfl (zad rfl (zad rfl (zad rfl (zad rfl (zad rfl (zad rfl (zad rfl (zad rfl (zad rfl (zad rfl (zaH))))))))))) (zal [0, 1, 2, 3, 4] kr rfl)
        ·
         rintro s1 h
         rw [hj4] at h
         show TC _ _ _ _ _ ([]) _ _ [(1, zI n1), (2, .string line1), (3, zP b3), (6, zP b4), (8, zP b5), (9, zI at10), (10, zI i3), (11, hd9.v), (12, zI k3), (13, .string s1)] [cells b3 [.string p1.Title, p1_h0.v] 56, cells b4 [.string ByteArray.empty, .slice none 0 0] 56, cells b5 [.string p1.Title, hd4.v] 56, zbx zae zag 48 1 hd4.v out4, vec zbT 9 1 hd9.v l4]
         refine zas (zai (zah rfl dc rfl (zah rfl dc rfl ?_)))
         refine zbg (cs := [.string s1]) (te := 9) (ps := [(0, .tmp 47)]) rfl dc rfl (fun _ => by kernel_rfl) (fun b6 => ?_)
         obtain ⟨hg1, h⟩ := zcb h
         refine zbr (k := 4) (k2 := 5) (ys := [s1]) Tryd.underlying48 zpl zgp zhQ rfl dc rfl rfl rfl rfl rfl rfl hg1 (fun v1 => ?_)
         refine zb7 (k := 4) rfl (fun hd10 he1 => ?_)
         subst he1
         show TO _ _ _ _ _ _ _ _ _ _ [cells b3 [.string p1.Title, p1_h0.v] 56, cells b4 [.string ByteArray.empty, .slice none 0 0] 56, cells b5 [.string p1.Title, hd4.v] 56, zbx zae zag 48 1 hd4.v out4, vec zbT 9 1 hd10.v (l4 ++ [s1]), cells b6 [.string s1] 9]
         refine zak rfl dc rfl (zap (zaj (zai (zah rfl dc rfl ?_))))
         obtain ⟨hg2, h⟩ := zcb h
         refine zaz rfl dc rfl rfl (zbh (r := at10 + 1) (IntWalk.i64_in _ hg2)) (zak rfl dc rfl (zap (zaA (zaj (zai (zah rfl dc rfl ?_))))))
         obtain ⟨hg3, h⟩ := zcb h
         refine zaz rfl dc rfl rfl (zbh (r := k3 + 1) (IntWalk.i64_in _ hg3)) (zak rfl dc rfl (zap ?_))
         subst hag2
         exact zbj (n3, at10 + 1, l4 ++ [s1], k3 + 1, hd10) h (Nat.lt_succ_self _) rfl (zad rfl (zad rfl (zad rfl (zad rfl (zad rfl (zad rfl (zad rfl (zad rfl (zad rfl (zaH)))))))))) (zal [0, 1, 2, 3, 4] kr rfl)
       ·
        have h := za1 hb2 h
        refine zby (zaJ (zaJ (zaV ?_)))
        exact zaO (at10, l4, hd9) h rfl (zad rfl (zad rfl (zad rfl (zad rfl (zad rfl (zad rfl (zad rfl (zad rfl (zaH))))))))) (zal [0, 1, 2, 3, 4] kr rfl)
     ·
      rintro ⟨at6, l1, hd6⟩ h
      rw [hj3] at h
      show TC _ _ _ _ _ ([]) _ _ [(1, zI n1), (2, .string line1), (3, zP b3), (6, zP b4), (8, zP b5), (9, zI at6), (10, zI i3), (11, hd6.v)] [cells b3 [.string p1.Title, p1_h0.v] 56, cells b4 [.string ByteArray.empty, .slice none 0 0] 56, cells b5 [.string p1.Title, hd4.v] 56, zbx zae zag 48 1 hd4.v out4, vec zbT 9 1 hd6.v l1]
      refine zai (zar zbC rfl dc rfl (show _ = 1 from rfl) (zaN (k := 2) zc7 rfl dc rfl rfl rfl (zah rfl dc rfl ?_)))
      refine zbg (cs := [hd6.v]) (te := 48) (ps := [(0, .tmp 54)]) rfl dc rfl (fun _ => by kernel_rfl) (fun b7 => ?_)
      refine zes (k := 3) rfl zhC (fun zs1 hz1 => ?_)
      show TO _ _ _ _ _ _ _ _ _ _ [cells b3 [.string p1.Title, p1_h0.v] 56, cells b4 [.string ByteArray.empty, .slice none 0 0] 56, cells b5 [.string p1.Title, hd4.v] 56, vec zae 48 1 hd4.v zs1, vec zbT 9 1 hd6.v l1, cells b7 [hd6.v] 48, own zag zs1]
      obtain ⟨hg4, h⟩ := zcb h
      refine zbr (k := 3) (k2 := 5) (ys := [(l1, hd6)]) Tryd.underlying54 zkS zaL zcI rfl dc rfl rfl rfl rfl rfl rfl (by rw [zm3 hz1]; exact hg4) (fun v2 => ?_)
      show TO _ _ _ _ _ _ _ _ _ _ [cells b3 [.string p1.Title, p1_h0.v] 56, cells b4 [.string ByteArray.empty, .slice none 0 0] 56, cells b5 [.string p1.Title, hd4.v] 56, vec zae 48 1 v2 (zs1 ++ [(l1, hd6)]), vec zbT 9 1 hd6.v l1, cells b7 [hd6.v] 48, own zag zs1]
      refine zb7 (k := 3) rfl (fun hd11 he2 => ?_)
      subst he2
      refine zei (k := 6) rfl (zal [4] kr rfl) rfl (zlc (nest := zag) (zs := zs1) (z := (l1, hd6))) ?_
      show TO _ _ _ _ _ _ _ _ _ _ [cells b3 [.string p1.Title, p1_h0.v] 56, cells b4 [.string ByteArray.empty, .slice none 0 0] 56, cells b5 [.string p1.Title, hd4.v] 56, vec zae 48 1 hd11.v (zs1 ++ [(l1, hd6)]), emp, cells b7 [hd6.v] 48, own zag (zs1 ++ [(l1, hd6)])]
      refine zei (k := 3) rfl (zal [6] kr rfl) rfl (zit (enc := zae) (nest := zag) (zoA hz1)) ?_
      show TO _ _ _ _ _ _ _ _ _ _ [cells b3 [.string p1.Title, p1_h0.v] 56, cells b4 [.string ByteArray.empty, .slice none 0 0] 56, cells b5 [.string p1.Title, hd4.v] 56, zbx zae zag 48 1 hd11.v (out4 ++ [l1]), emp, cells b7 [hd6.v] 48, emp]
      refine zbw (L' := [cells b3 [.string p1.Title, p1_h0.v] 56, cells b4 [.string ByteArray.empty, .slice none 0 0] 56, cells b5 [.string p1.Title, hd4.v] 56, zbx zae zag 48 1 hd11.v (out4 ++ [l1]), emp, cells b7 [hd6.v] 48]) (zal [0, 1, 2, 3, 4, 5] kr rfl) (zar zbC rfl dc rfl (show _ = 1 from rfl) ?_)
      refine zbo (k := 2) (l' := [.string p1.Title, hd11.v]) zlx rfl rfl rfl rfl rfl (fun _ _ => rfl) rfl ?_
      show TO _ _ _ _ _ _ _ _ _ _ [cells b3 [.string p1.Title, p1_h0.v] 56, cells b4 [.string ByteArray.empty, .slice none 0 0] 56, cells b5 [.string p1.Title, hd11.v] 56, zbx zae zag 48 1 hd11.v (out4 ++ [l1]), emp, cells b7 [hd6.v] 48]
      refine zap (zaA ?_)
      exact zaO (out4 ++ [l1], at6, hd11) h rfl (zad rfl (zad rfl (zad rfl (zad rfl (zad rfl (zad rfl (zad rfl (zaH)))))))) (zal [0, 1, 2, 3] kr rfl)
    ·
     rintro ⟨out5, at5, hd5⟩ h
     rw [hj2] at h
     show TC _ _ _ _ _ ([]) _ _ [(1, zI n1), (2, .string line1), (3, zP b3), (6, zP b4), (8, zP b5), (9, zI at5), (10, zI i3)] [cells b3 [.string p1.Title, p1_h0.v] 56, cells b4 [.string ByteArray.empty, .slice none 0 0] 56, cells b5 [.string p1.Title, hd5.v] 56, zbx zae zag 48 1 hd5.v out5]
     refine zai (zah rfl dc rfl ?_)
     obtain ⟨hg5, h⟩ := zcb h
     refine zaz rfl dc rfl rfl (zbh (r := i3 + 1) (IntWalk.i64_in _ hg5)) (zak rfl dc rfl (zap ?_))
     subst hag1
     exact zbj (n2, out5, at5, i3 + 1, hd5) h (Nat.lt_succ_self _) rfl (zad rfl (zad rfl (zad rfl (zad rfl (zad rfl (zad rfl (zad rfl (zaH)))))))) (zal [0, 1, 2, 3] kr rfl)
   ·
    have h := za1 hb1 h
    refine zby (zaJ (zaJ (zaV ?_)))
    exact zaO (out4, at4, b4, b5, hd4) h rfl (zad rfl (zad rfl (zad rfl (zad rfl (zad rfl (zaH)))))) (zal [1, 2, 3] kr rfl)
 ·
  rintro ⟨out1, at1, b1, b2, hd1⟩ h
  rw [hj1] at h
  show TC _ _ _ _ _ ([]) _ _ [(1, zI n1), (2, .string line1), (6, zP b1), (8, zP b2), (9, zI at1)] [cells b1 [.string ByteArray.empty, .slice none 0 0] 56, cells b2 [.string p1.Title, hd1.v] 56, zbx zae zag 48 1 hd1.v out1]
  refine zas (za2 (zas (zai (zah rfl dc rfl (zaz rfl dc rfl rfl zbF (zah rfl dc rfl ?_))))))
  refine za6 (s := 61) rfl (fun hb4 => ?_) (fun hb4 => ?_)
  ·
   have h := za0 hb4 h
   refine zan rfl dc (zan rfl dc (zan rfl dc (zaB (b := true) rfl dc rfl rfl (zak rfl dc rfl (zap (zaj (zbu rfl (zas (zai ?_)))))))))
   refine zbe (v := .agg #[.string ByteArray.empty, .slice none 0 0]) (ps := []) rfl dc rfl (fun _ => by kernel_rfl) ?_
   refine zaZ (k := 0) (vs := [.string ByteArray.empty, .slice none 0 0]) (l' := [.string ByteArray.empty, .slice none 0 0]) zeG rfl rfl rfl rfl rfl (show _ ≤ _ by simp) rfl rfl (zak rfl dc rfl (zap (zaj (zaX (zaI (zay (zfq (enc := zae) (nest := zag) (e := 48) (size := 1) ?_)))))))
   show TX _ _ _ _ _ _ _ [cells b1 [.string ByteArray.empty, .slice none 0 0] 56, cells b2 [.string p1.Title, hd1.v] 56, zbx zae zag 48 1 hd1.v out1, zbx zae zag 48 1 (.slice none 0 0) ([] : List (List ByteArray))]
   cases h
   exact za3 (rs := [.cell 6 56, .tmp 7]) Hd.nil (.inl rfl) Tryd.results34 (.cons (.cells zcw (k := 0) rfl rfl rfl) (.cons (.tmp rfl) .nil)) rfl (zal [3] kr rfl)
  ·
   have h := za1 hb4 h
   refine zah rfl dc rfl (zah rfl dc rfl (zaz rfl dc rfl rfl zeC (zaB (b := false) rfl dc rfl rfl (zak rfl dc rfl (zap (zaj ?_))))))
   refine zaM rfl (fun hb5 => ?_) (fun hb5 => ?_)
   ·
    have h := za0 hb5 h
    refine zas (zai ?_)
    refine zbe (v := .agg #[.string ByteArray.empty, .slice none 0 0]) (ps := []) rfl dc rfl (fun _ => by kernel_rfl) ?_
    refine zaZ (k := 0) (vs := [.string ByteArray.empty, .slice none 0 0]) (l' := [.string ByteArray.empty, .slice none 0 0]) zeG rfl rfl rfl rfl rfl (show _ ≤ _ by simp) rfl rfl (zak rfl dc rfl (zap (zaj (zaX (zaI (zay (zfq (enc := zae) (nest := zag) (e := 48) (size := 1) ?_)))))))
    show TX _ _ _ _ _ _ _ [cells b1 [.string ByteArray.empty, .slice none 0 0] 56, cells b2 [.string p1.Title, hd1.v] 56, zbx zae zag 48 1 hd1.v out1, zbx zae zag 48 1 (.slice none 0 0) ([] : List (List ByteArray))]
    cases h
    exact za3 (rs := [.cell 6 56, .tmp 7]) Hd.nil (.inl rfl) Tryd.results34 (.cons (.cells zcw (k := 0) rfl rfl rfl) (.cons (.tmp rfl) .nil)) rfl (zal [3] kr rfl)
   ·
    have h := za1 hb5 h
    refine zas (zai (zah rfl dc rfl ?_))
    obtain ⟨r1, hq4, h⟩ := zbN h
    refine zbH (v := .bool r1) (vs := [.string line1]) rfl dc rfl rfl rfl zpH (zj3 hq4) (zhJ rfl dc rfl zfX (zak rfl dc rfl (zap (zaj ?_))))
    refine zaM rfl (fun hb6 => ?_) (fun hb6 => ?_)
    ·
     have h := za0 hb6 h
     refine zas (zai ?_)
     refine zbe (v := .agg #[.string ByteArray.empty, .slice none 0 0]) (ps := []) rfl dc rfl (fun _ => by kernel_rfl) ?_
     refine zaZ (k := 0) (vs := [.string ByteArray.empty, .slice none 0 0]) (l' := [.string ByteArray.empty, .slice none 0 0]) zeG rfl rfl rfl rfl rfl (show _ ≤ _ by simp) rfl rfl (zak rfl dc rfl (zap (zaj (zaX (zaI (zay (zfq (enc := zae) (nest := zag) (e := 48) (size := 1) ?_)))))))
     show TX _ _ _ _ _ _ _ [cells b1 [.string ByteArray.empty, .slice none 0 0] 56, cells b2 [.string p1.Title, hd1.v] 56, zbx zae zag 48 1 hd1.v out1, zbx zae zag 48 1 (.slice none 0 0) ([] : List (List ByteArray))]
     cases h
     exact za3 (rs := [.cell 6 56, .tmp 7]) Hd.nil (.inl rfl) Tryd.results34 (.cons (.cells zcw (k := 0) rfl rfl rfl) (.cons (.tmp rfl) .nil)) rfl (zal [3] kr rfl)
    ·
     have h := za1 hb6 h
     refine zas (zai (zbc (k := 1) (cs := [.string p1.Title, hd1.v]) zcw rfl dc rfl rfl rfl rfl ?_))
     obtain ⟨r2, hq5, h⟩ := zbN h
     refine za4 (v := .string r2) (vs := [.agg #[.string p1.Title, hd1.v]]) hrd rfl dc rfl rfl rfl zlS (zch (nest := zag) (e := 48) (v := hd1.v) (xs := out1) (RD1 := []) (RD2 := []) zaL za5 (fun zs_c0 hz_c0 hV_c0 => (zd1 (p1_h0 := hd1) (p1 := (⟨p1.Title, out1⟩ : Gref17_Poem)) hV_c0 hz_c0 hq5))) (.own (zal [2] (by kernel_rfl) rfl) (fun _ _ h => sepL.one1.1 h) .nil) ?_
     refine zbA rfl dc rfl Tryd.underlying9 (zaz rfl dc rfl rfl zdC (zak rfl dc rfl (zap (zaj ?_))))
     refine zaM rfl (fun hb7 => ?_) (fun hb7 => ?_)
     ·
      have h := za0 hb7 h
      refine zas (zai ?_)
      refine zbe (v := .agg #[.string ByteArray.empty, .slice none 0 0]) (ps := []) rfl dc rfl (fun _ => by kernel_rfl) ?_
      refine zaZ (k := 0) (vs := [.string ByteArray.empty, .slice none 0 0]) (l' := [.string ByteArray.empty, .slice none 0 0]) zeG rfl rfl rfl rfl rfl (show _ ≤ _ by simp) rfl rfl (zak rfl dc rfl (zap (zaj (zaX (zaI (zay (zfq (enc := zae) (nest := zag) (e := 48) (size := 1) ?_)))))))
      show TX _ _ _ _ _ _ _ [cells b1 [.string ByteArray.empty, .slice none 0 0] 56, cells b2 [.string p1.Title, hd1.v] 56, zbx zae zag 48 1 hd1.v out1, zbx zae zag 48 1 (.slice none 0 0) ([] : List (List ByteArray))]
      cases h
      exact za3 (rs := [.cell 6 56, .tmp 7]) Hd.nil (.inl rfl) Tryd.results34 (.cons (.cells zcw (k := 0) rfl rfl rfl) (.cons (.tmp rfl) .nil)) rfl (zal [3] kr rfl)
     ·
      have h := za1 hb7 h
      refine zaP (zaA (zaj (zas (zai (zbc (k := 1) (cs := [.string p1.Title, hd1.v]) zcw rfl dc rfl rfl rfl rfl (zaZ (k := 0) (vs := [.string p1.Title, hd1.v]) (l' := [.string p1.Title, hd1.v]) zeG rfl rfl rfl rfl rfl (show _ ≤ _ by simp) rfl rfl (zak rfl dc rfl (zap (zaj (zaX ?_))))))))))
      cases h
      exact za3 (rs := [.cell 6 56, .tmp 7]) hd1 (.inl rfl) Tryd.results34 (.cons (.cells zcw (k := 0) rfl rfl rfl) (.cons (.tmp rfl) .nil)) rfl (zal [2] kr rfl)
def zdN (p1 : Gref17_Poem) (from1 : Int) (to1 : Int) (i3 : Int) (j3 : Int → (List ByteArray) → Option (Gref17_Poem × Int)) (ag2 : Int → (List ByteArray) → Int → Option (Gref17_Poem × Int)) (at9 : Int) (l4 : List ByteArray) (k3 : Int) : Option (Gref17_Poem × Int) := zaG (zdh p1.Stanzas i3) fun (x1 : List ByteArray) => zaU (decide ((k3 : Int) < (x1.length : Int))) ( zbO (fun (j4 : (List ByteArray) → Option (Gref17_Poem × Int)) => zaU (decide ((from1 : Int) ≤ at9)) ( zaU (decide ((at9 : Int) < to1)) ( zaG (zdh p1.Stanzas i3) fun (x2 : List ByteArray) => zaG (zdh x2 k3) fun (q1 : ByteArray) => grd (l4.length + 1 ≤ 2147483648) <| j4 (l4 ++ [q1])
) ( j4 l4
)
) ( j4 l4
)
) (fun (l5 : List ByteArray) => grd (I64 (at9 + 1)) <| grd (I64 (k3 + 1)) <| ag2 (at9 + 1) l5 (k3 + 1)
)
) ( j3 at9 l4
)
def zdO (p1 : Gref17_Poem) (from1 : Int) (to1 : Int) (j1 : (List (List ByteArray)) → Option (Gref17_Poem × Int)) (ag1 : (List (List ByteArray)) → Int → Int → Option (Gref17_Poem × Int)) (out4 : List (List ByteArray)) (at3 : Int) (i3 : Int) : Option (Gref17_Poem × Int) := zaU (decide ((i3 : Int) < (p1.Stanzas.length : Int))) ( zbO (fun (j2 : (List (List ByteArray)) → Int → Option (Gref17_Poem × Int)) => zbO (fun (j3 : Int → (List ByteArray) → Option (Gref17_Poem × Int)) => za8 (fun _ _ _ => none) (zdN p1 from1 to1 i3 j3) zb0 at3 ([] : List ByteArray) 0
) (fun (at5 : Int) (l1 : List ByteArray) => zaU (decide ((0 : Int) < (l1.length : Int))) ( grd (out4.length + 1 ≤ 2147483648) <| j2 (out4 ++ [l1]) at5
) ( j2 out4 at5
)
)
) (fun (out5 : List (List ByteArray)) (at4 : Int) => grd (I64 (i3 + 1)) <| ag1 out5 at4 (i3 + 1)
)
) ( j1 out4
)
def zfi (p1 : Gref17_Poem) (from1 : Int) (to1 : Int) : Option (Gref17_Poem × Int) := zaU (decide ((from1 : Int) < 0)) ( some ((⟨ByteArray.empty, ([] : List (List ByteArray))⟩ : Gref17_Poem), 5)
) ( zaU (decide ((to1 : Int) < from1)) ( some ((⟨ByteArray.empty, ([] : List (List ByteArray))⟩ : Gref17_Poem), 5)
) ( zaG (zdp p1) fun (r1 : Int) => zaU (decide ((r1 : Int) < to1)) ( some ((⟨ByteArray.empty, ([] : List (List ByteArray))⟩ : Gref17_Poem), 5)
) ( zbO (fun (j1 : (List (List ByteArray)) → Option (Gref17_Poem × Int)) => za8 (fun _ _ _ => none) (zdO p1 from1 to1 j1) zb0 ([] : List (List ByteArray)) 0 0
) (fun (out1 : List (List ByteArray)) => zaG (zbU (⟨p1.Title, out1⟩ : Gref17_Poem)) fun (r2 : ByteArray) => zaU (decide ((65536 : Int) < (r2.size : Int))) ( some ((⟨ByteArray.empty, ([] : List (List ByteArray))⟩ : Gref17_Poem), 3)
) ( some ((⟨p1.Title, out1⟩ : Gref17_Poem), 0)
)
)
)
)
)
theorem zj2 {p1 : Gref17_Poem} {p1_h0 : Hd} {vvp10 : Value} {kp10 : Nat} {Zp10 zp10 : List ((List ByteArray) × Hd)} (hwp10 : Vw vvp10 Zp10 1 kp10 p1_h0.v zp10) (hzp10 : zp10.map Prod.fst = p1.Stanzas) {from1 : Int} {to1 : Int} {r : (Gref17_Poem × Int)} (h : zfi p1 from1 to1 = some r) : FnR Tryd.prog 35 [.agg #[.string p1.Title, p1_h0.v], zI from1, zI to1] [zbk zae 1 vvp10 kp10 Zp10, zbM zaD Zp10] [] (fun v0 : Hd => .tuple #[.agg #[.string r.1.Title, v0.v], zI r.2]) (fun v0 => [zbx zae zag 48 1 v0.v r.1.Stanzas]) := by
 unfold zfi at h
 refine FnR.intro Tryd.func35 rfl Tryd.ntmps35 (by simp) ?_
 intro w0 K hrd
 refine zas (zai ?_)
 refine zeE rfl dc rfl (fun b1 => ?_)
 refine zbl zgC rfl dc (fun b2 => ?_)
 show TO _ _ _ _ _ _ _ _ _ _ [cells b1 [.string p1.Title, p1_h0.v] 56, cells b2 [.string ByteArray.empty, .slice none 0 0] 56]
 refine zak rfl dc rfl (zap (zaj (zas (zas (zai (zah rfl dc rfl (zaz rfl dc rfl rfl zbF (zah rfl dc rfl ?_))))))))
 refine za6 (s := 15) rfl (fun hb1 => ?_) (fun hb1 => ?_)
 ·
  have h := za0 hb1 h
  refine zan rfl dc (zan rfl dc (zan rfl dc (zaB (b := true) rfl dc rfl rfl (zah rfl dc rfl (zan rfl dc (zan rfl dc (zan rfl dc (zan rfl dc (zaB (b := true) rfl dc rfl rfl (zap (zaj (zbu rfl (zas ?_)))))))))))))
  refine zai ?_
  refine zbe (v := .agg #[.string ByteArray.empty, .slice none 0 0]) (ps := []) rfl dc rfl (fun _ => by kernel_rfl) ?_
  refine zaZ (k := 1) (vs := [.string ByteArray.empty, .slice none 0 0]) (l' := [.string ByteArray.empty, .slice none 0 0]) zeG rfl rfl rfl rfl rfl (show _ ≤ _ by simp) rfl rfl (zak rfl dc rfl (zap (zaj (zaX (zay (zfq (enc := zae) (nest := zag) (e := 48) (size := 1) ?_))))))
  show TX _ _ _ _ _ _ _ [cells b1 [.string p1.Title, p1_h0.v] 56, cells b2 [.string ByteArray.empty, .slice none 0 0] 56, zbx zae zag 48 1 (.slice none 0 0) ([] : List (List ByteArray))]
  cases h
  exact za3 (rs := [.cell 6 56, .tmp 7]) Hd.nil (.inl rfl) Tryd.results35 (.cons (.cells zcw (k := 1) rfl rfl rfl) (.cons (.tmp rfl) .nil)) rfl (zal [2] kr rfl)
 ·
  have h := za1 hb1 h
  refine zah rfl dc rfl (zah rfl dc rfl (zaz rfl dc rfl rfl zbF (zaB (b := false) rfl dc rfl rfl (zah rfl dc rfl ?_))))
  refine za6 (s := 20) rfl (fun hb2 => ?_) (fun hb2 => ?_)
  ·
   have h := za0 hb2 h
   refine zan rfl dc (zan rfl dc (zan rfl dc (zan rfl dc (zaB (b := true) rfl dc rfl rfl (zap (zaj (zbu rfl (zas (zai ?_)))))))))
   refine zbe (v := .agg #[.string ByteArray.empty, .slice none 0 0]) (ps := []) rfl dc rfl (fun _ => by kernel_rfl) ?_
   refine zaZ (k := 1) (vs := [.string ByteArray.empty, .slice none 0 0]) (l' := [.string ByteArray.empty, .slice none 0 0]) zeG rfl rfl rfl rfl rfl (show _ ≤ _ by simp) rfl rfl (zak rfl dc rfl (zap (zaj (zaX (zay (zfq (enc := zae) (nest := zag) (e := 48) (size := 1) ?_))))))
   show TX _ _ _ _ _ _ _ [cells b1 [.string p1.Title, p1_h0.v] 56, cells b2 [.string ByteArray.empty, .slice none 0 0] 56, zbx zae zag 48 1 (.slice none 0 0) ([] : List (List ByteArray))]
   cases h
   exact za3 (rs := [.cell 6 56, .tmp 7]) Hd.nil (.inl rfl) Tryd.results35 (.cons (.cells zcw (k := 1) rfl rfl rfl) (.cons (.tmp rfl) .nil)) rfl (zal [2] kr rfl)
  ·
   have h := za1 hb2 h
   refine zah rfl dc rfl (zbc (k := 0) (cs := [.string p1.Title, p1_h0.v]) zcw rfl dc rfl rfl rfl rfl ?_)
   obtain ⟨r1, hq1, h⟩ := zbN h
   refine za4 (v := zI r1) (vs := [.agg #[.string p1.Title, p1_h0.v]]) hrd rfl dc rfl rfl rfl zoW (zgz (p1_h0 := p1_h0) (p1 := p1) hwp10 hzp10 hq1) (.ro 0 rfl (.ro 1 rfl .nil)) (zaz rfl dc rfl rfl zdC (zaB (b := false) rfl dc rfl rfl (zap (zaj ?_))))
   refine zaM rfl (fun hb3 => ?_) (fun hb3 => ?_)
   ·
    have h := za0 hb3 h
    refine zas (zai ?_)
    refine zbe (v := .agg #[.string ByteArray.empty, .slice none 0 0]) (ps := []) rfl dc rfl (fun _ => by kernel_rfl) ?_
    refine zaZ (k := 1) (vs := [.string ByteArray.empty, .slice none 0 0]) (l' := [.string ByteArray.empty, .slice none 0 0]) zeG rfl rfl rfl rfl rfl (show _ ≤ _ by simp) rfl rfl (zak rfl dc rfl (zap (zaj (zaX (zay (zfq (enc := zae) (nest := zag) (e := 48) (size := 1) ?_))))))
    show TX _ _ _ _ _ _ _ [cells b1 [.string p1.Title, p1_h0.v] 56, cells b2 [.string ByteArray.empty, .slice none 0 0] 56, zbx zae zag 48 1 (.slice none 0 0) ([] : List (List ByteArray))]
    cases h
    exact za3 (rs := [.cell 6 56, .tmp 7]) Hd.nil (.inl rfl) Tryd.results35 (.cons (.cells zcw (k := 1) rfl rfl rfl) (.cons (.tmp rfl) .nil)) rfl (zal [2] kr rfl)
   ·
    have h := za1 hb3 h
    refine zaP (zaj ?_)
    obtain ⟨j1, hj1, h⟩ := zcp h
    refine zbm (β := (List (List ByteArray)) × Nat × Hd) 2 rfl (fun b => j1 b.1 = some r) (fun b => []) (fun b => [(6, zP b2), (8, zP b.2.1)]) (fun b => [cells b2 [.string ByteArray.empty, .slice none 0 0] 56, cells b.2.1 [.string p1.Title, b.2.2.v] 56, zbx zae zag 48 1 b.2.2.v b.1]) (fun cut => ?_) ?_
    ·
     refine zas (zai (zar zeL rfl dc rfl (show _ = 0 from rfl) (zaN (k := 0) zgm rfl dc rfl rfl rfl ?_)))
     refine zbe (v := .agg #[.string p1.Title, .slice none 0 0]) (ps := [(0, .tmp 28)]) rfl dc rfl (fun _ => by kernel_rfl) ?_
     refine zbl zgC rfl dc (fun b4 => ?_)
     refine zaZ (k := 2) (vs := [.string p1.Title, .slice none 0 0]) (l' := [.string p1.Title, .slice none 0 0]) zeG rfl rfl rfl rfl rfl (show _ ≤ _ by simp) rfl rfl ?_
     show TO _ _ _ _ _ _ _ _ _ _ [cells b1 [.string p1.Title, p1_h0.v] 56, cells b2 [.string ByteArray.empty, .slice none 0 0] 56, cells b4 [.string p1.Title, .slice none 0 0] 56]
     refine zap (zaj (zas (zai (zak rfl dc rfl (zap (zaj (cut (zas (zai (zak rfl dc rfl (zap (zaj (za2 ?_)))))))))))))
     refine zjM (enc := zae) (nest := zag) (e := 48) (size := 1) ?_
     show TC _ _ _ _ _ _ _ _ _ [cells b1 [.string p1.Title, p1_h0.v] 56, cells b2 [.string ByteArray.empty, .slice none 0 0] 56, cells b4 [.string p1.Title, .slice none 0 0] 56, zbx zae zag 48 1 (.slice none 0 0) ([] : List (List ByteArray))]
     refine zbJ (β := Nat × (List (List ByteArray)) × Int × Int × Hd) (fun b => za8 (fun _ _ _ => none) (zdO p1 from1 to1 j1) b.1 b.2.1 b.2.2.1 b.2.2.2.1 = some r) (fun b => []) (fun b => [(1, zI from1), (2, zI to1), (3, zP b1), (6, zP b2), (8, zP b4), (9, zI b.2.2.1), (10, zI b.2.2.2.1)]) (fun b => [cells b1 [.string p1.Title, p1_h0.v] 56, cells b2 [.string ByteArray.empty, .slice none 0 0] 56, cells b4 [.string p1.Title, b.2.2.2.2.v] 56, zbx zae zag 48 1 b.2.2.2.2.v b.2.1]) (fun b => b.1) (zb0, ([] : List (List ByteArray)), 0, 0, Hd.nil) h rfl (zad rfl (zad rfl (zad rfl (zad rfl (zad rfl (zad rfl (zad rfl (zaH)))))))) (zal [0, 1, 2, 3] kr rfl) ?_
     rintro ⟨n1, out4, at3, i3, hd4⟩ h
     cases n1 with
     | zero => exact zdV h
     | succ n1 =>
      obtain ⟨ag1, hag1⟩ : ∃ ag, ag = za8 (fun _ _ _ => none) (zdO p1 from1 to1 j1) n1 := ⟨_, rfl⟩
      have h : zdO p1 from1 to1 j1 ag1 out4 at3 i3 = some r := by rw [hag1]; exact h
      unfold zdO at h
      show TC _ _ _ _ _ ([]) _ _ [(1, zI from1), (2, zI to1), (3, zP b1), (6, zP b2), (8, zP b4), (9, zI at3), (10, zI i3)] [cells b1 [.string p1.Title, p1_h0.v] 56, cells b2 [.string ByteArray.empty, .slice none 0 0] 56, cells b4 [.string p1.Title, hd4.v] 56, zbx zae zag 48 1 hd4.v out4]
      refine zas (zas (zai (zah rfl dc rfl (zar zbC rfl dc rfl (show _ = 1 from rfl) (zaN (k := 0) zc7 rfl dc rfl rfl rfl (zcS hzp10 hwp10 rfl dc rfl Tryd.underlying54 (zaz rfl dc rfl rfl zbF (zap (zaj ?_)))))))))
      refine zaM rfl (fun hb4 => ?_) (fun hb4 => ?_)
      ·
       have h := za0 hb4 h
       refine zaP (zaj ?_)
       obtain ⟨j2, hj2, h⟩ := zcp h
       refine zbm (β := (List (List ByteArray)) × Int × Hd) 0 rfl (fun b => j2 b.1 b.2.1 = some r) (fun b => []) (fun b => [(1, zI from1), (2, zI to1), (3, zP b1), (6, zP b2), (8, zP b4), (9, zI b.2.1), (10, zI i3)]) (fun b => [cells b1 [.string p1.Title, p1_h0.v] 56, cells b2 [.string ByteArray.empty, .slice none 0 0] 56, cells b4 [.string p1.Title, b.2.2.v] 56, zbx zae zag 48 1 b.2.2.v b.1]) (fun cut => ?_) ?_
       ·
        refine cut (za2 ?_)
        obtain ⟨j3, hj3, h⟩ := zcp h
        refine zbm (β := Int × (List ByteArray) × Hd) 1 rfl (fun b => j3 b.1 b.2.1 = some r) (fun b => []) (fun b => [(1, zI from1), (2, zI to1), (3, zP b1), (6, zP b2), (8, zP b4), (9, zI b.1), (10, zI i3), (11, b.2.2.v)]) (fun b => [cells b1 [.string p1.Title, p1_h0.v] 56, cells b2 [.string ByteArray.empty, .slice none 0 0] 56, cells b4 [.string p1.Title, hd4.v] 56, zbx zae zag 48 1 hd4.v out4, vec zbT 9 1 b.2.2.v b.2.1]) (fun cut => ?_) ?_
        ·
         refine zas (zai (zak rfl dc rfl (zap (zaj (cut (zas (zai (zak rfl dc rfl (zap (zaj (za2 (zel (enc := zbT) (e := 9) (size := 1) ?_))))))))))))
         show TC _ _ _ _ _ _ _ _ _ [cells b1 [.string p1.Title, p1_h0.v] 56, cells b2 [.string ByteArray.empty, .slice none 0 0] 56, cells b4 [.string p1.Title, hd4.v] 56, zbx zae zag 48 1 hd4.v out4, vec zbT 9 1 (.slice none 0 0) ([] : List ByteArray)]
         refine zbJ (β := Nat × Int × (List ByteArray) × Int × Hd) (fun b => za8 (fun _ _ _ => none) (zdN p1 from1 to1 i3 j3) b.1 b.2.1 b.2.2.1 b.2.2.2.1 = some r) (fun b => []) (fun b => [(1, zI from1), (2, zI to1), (3, zP b1), (6, zP b2), (8, zP b4), (9, zI b.2.1), (10, zI i3), (11, b.2.2.2.2.v), (12, zI b.2.2.2.1)]) (fun b => [cells b1 [.string p1.Title, p1_h0.v] 56, cells b2 [.string ByteArray.empty, .slice none 0 0] 56, cells b4 [.string p1.Title, hd4.v] 56, zbx zae zag 48 1 hd4.v out4, vec zbT 9 1 b.2.2.2.2.v b.2.2.1]) (fun b => b.1) (zb0, at3, ([] : List ByteArray), 0, Hd.nil) h rfl (zad rfl (zad rfl (zad rfl (zad rfl (zad rfl (zad rfl (zad rfl (zad rfl (zad rfl (zaH)))))))))) (zal [0, 1, 2, 3, 4] kr rfl) ?_
         rintro ⟨n2, at9, l4, k3, hd9⟩ h
         cases n2 with
         | zero => exact zdV h
         | succ n2 =>
          obtain ⟨ag2, hag2⟩ : ∃ ag, ag = za8 (fun _ _ _ => none) (zdN p1 from1 to1 i3 j3) n2 := ⟨_, rfl⟩
          have h : zdN p1 from1 to1 i3 j3 ag2 at9 l4 k3 = some r := by rw [hag2]; exact h
          unfold zdN at h
          show TC _ _ _ _ _ ([]) _ _ [(1, zI from1), (2, zI to1), (3, zP b1), (6, zP b2), (8, zP b4), (9, zI at9), (10, zI i3), (11, hd9.v), (12, zI k3)] [cells b1 [.string p1.Title, p1_h0.v] 56, cells b2 [.string ByteArray.empty, .slice none 0 0] 56, cells b4 [.string p1.Title, hd4.v] 56, zbx zae zag 48 1 hd4.v out4, vec zbT 9 1 hd9.v l4]
          refine zas (zas (zai (zah rfl dc rfl (zar zbC rfl dc rfl (show _ = 1 from rfl) (zaN (k := 0) zc7 rfl dc rfl rfl rfl (zah rfl dc rfl ?_))))))
          obtain ⟨x1, hq2, h⟩ := zbN h
          obtain ⟨eh1, eq1⟩ := zeb hzp10 hq2
          have hrd : Rd _ _ [zbk zae 1 vvp10 kp10 Zp10, zbM zaD Zp10, zej zbT 1 eh1 x1] := hrd.openEl (i := 1) (z := (x1, eh1)) rfl (Vw.get hwp10 eq1)
          obtain ⟨vv1, k4, L1, hV1, hrd⟩ := hrd.openSl (i := 2) rfl
          replace hrd : Rd _ _ [zbk zae 1 vvp10 kp10 Zp10, zbM zaD Zp10, zej zbT 1 eh1 x1, zbk zbT 1 vv1 k4 L1] := hrd
          refine zbd hwp10 eq1 Tryd.underlying54 zet rfl dc rfl rfl rfl (zbi (n := kp10 + (i3 : Int).toNat) (j := 0) (i := 0) (q := (x1, eh1)) hrd rfl (by omega) zeR rfl dc rfl (Vw.get hwp10 eq1) rfl rfl (zbG hV1 rfl dc rfl Tryd.underlying48 (zaz rfl dc rfl rfl zbF (zap (zaj ?_)))))
          refine zaM rfl (fun hb5 => ?_) (fun hb5 => ?_)
          ·
           have h := za0 hb5 h
           refine zaP (zaj (zas (za2 ?_)))
           obtain ⟨j4, hj4, h⟩ := zcp h
           refine zbm (β := (List ByteArray) × Hd) 0 rfl (fun b => j4 b.1 = some r) (fun b => []) (fun b => [(1, zI from1), (2, zI to1), (3, zP b1), (6, zP b2), (8, zP b4), (9, zI at9), (10, zI i3), (11, b.2.v), (12, zI k3)]) (fun b => [cells b1 [.string p1.Title, p1_h0.v] 56, cells b2 [.string ByteArray.empty, .slice none 0 0] 56, cells b4 [.string p1.Title, hd4.v] 56, zbx zae zag 48 1 hd4.v out4, vec zbT 9 1 b.2.v b.1]) (fun cut => ?_) ?_
           ·
            refine cut (zas (zai (zah rfl dc rfl (zah rfl dc rfl (zaz rfl dc rfl rfl zjF (zah rfl dc rfl ?_))))))
            refine za6 (s := 50) rfl (fun hb6 => ?_) (fun hb6 => ?_)
            ·
             have h := za0 hb6 h
             refine zah rfl dc rfl (zah rfl dc rfl (zaz rfl dc rfl rfl zbF (zaB (b := true) rfl dc rfl rfl (zap (zaj ?_)))))
             refine zaM rfl (fun hb7 => ?_) (fun hb7 => ?_)
             ·
              have h := za0 hb7 h
              refine zai (zah rfl dc rfl (zar zbC rfl dc rfl (show _ = 1 from rfl) (zaN (k := 0) zc7 rfl dc rfl rfl rfl (zah rfl dc rfl ?_))))
              obtain ⟨x2, hq3, h⟩ := zbN h
              obtain ⟨eh2, eq2⟩ := zeb hzp10 hq3
              have hrd : Rd _ _ [zbk zae 1 vvp10 kp10 Zp10, zbM zaD Zp10, zej zbT 1 eh1 x1, zbk zbT 1 vv1 k4 L1, zej zbT 1 eh2 x2] := hrd.openEl (i := 1) (z := (x2, eh2)) rfl (Vw.get hwp10 eq2)
              obtain ⟨vv2, k5, L2, hV2, hrd⟩ := hrd.openSl (i := 4) rfl
              replace hrd : Rd _ _ [zbk zae 1 vvp10 kp10 Zp10, zbM zaD Zp10, zej zbT 1 eh1 x1, zbk zbT 1 vv1 k4 L1, zej zbT 1 eh2 x2, zbk zbT 1 vv2 k5 L2] := hrd
              refine zbd hwp10 eq2 Tryd.underlying54 zet rfl dc rfl rfl rfl (zbi (n := kp10 + (i3 : Int).toNat) (j := 0) (i := 0) (q := (x2, eh2)) hrd rfl (by omega) zeR rfl dc rfl (Vw.get hwp10 eq2) rfl rfl (zah rfl dc rfl ?_))
              obtain ⟨q1, hq4, h⟩ := zbN h
              refine zbd hV2 hq4 Tryd.underlying48 zlY rfl dc rfl rfl rfl (zbi (n := k5 + (k3 : Int).toNat) (j := 0) (i := 5) (q := q1) hrd rfl (by omega) zgm rfl dc rfl (Vw.get hV2 hq4) rfl rfl ?_)
              refine zbg (cs := [.string q1]) (te := 9) (ps := [(0, .tmp 63)]) rfl dc rfl (fun _ => by kernel_rfl) (fun b5 => ?_)
              obtain ⟨hg1, h⟩ := zcb h
              refine zbr (k := 4) (k2 := 5) (ys := [q1]) Tryd.underlying48 zpl zgp zhQ rfl dc rfl rfl rfl rfl rfl rfl hg1 (fun v1 => ?_)
              refine zb7 (k := 4) rfl (fun hd11 he1 => ?_)
              subst he1
              show TO _ _ _ _ _ _ _ _ _ _ [cells b1 [.string p1.Title, p1_h0.v] 56, cells b2 [.string ByteArray.empty, .slice none 0 0] 56, cells b4 [.string p1.Title, hd4.v] 56, zbx zae zag 48 1 hd4.v out4, vec zbT 9 1 hd11.v (l4 ++ [q1]), cells b5 [.string q1] 9]
              refine zak rfl dc rfl (zap ?_)
              exact zaO (l4 ++ [q1], hd11) h rfl (zad rfl (zad rfl (zad rfl (zad rfl (zad rfl (zad rfl (zad rfl (zad rfl (zad rfl (zaH)))))))))) (zal [0, 1, 2, 3, 4] kr rfl)
             ·
              have h := za1 hb7 h
              refine zaP ?_
              exact zaO (l4, hd9) h rfl (zad rfl (zad rfl (zad rfl (zad rfl (zad rfl (zad rfl (zad rfl (zad rfl (zad rfl (zaH)))))))))) (zal [0, 1, 2, 3, 4] kr rfl)
            ·
             have h := za1 hb6 h
             refine zan rfl dc (zan rfl dc (zan rfl dc (zaB (b := false) rfl dc rfl rfl (zap (zaj (zbp rfl (zaP ?_)))))))
             exact zaO (l4, hd9) h rfl (zad rfl (zad rfl (zad rfl (zad rfl (zad rfl (zad rfl (zad rfl (zad rfl (zad rfl (zaH)))))))))) (zal [0, 1, 2, 3, 4] kr rfl)
           ·
            rintro ⟨l5, hd10⟩ h
            rw [hj4] at h
            show TC _ _ _ _ _ ([]) _ _ [(1, zI from1), (2, zI to1), (3, zP b1), (6, zP b2), (8, zP b4), (9, zI at9), (10, zI i3), (11, hd10.v), (12, zI k3)] [cells b1 [.string p1.Title, p1_h0.v] 56, cells b2 [.string ByteArray.empty, .slice none 0 0] 56, cells b4 [.string p1.Title, hd4.v] 56, zbx zae zag 48 1 hd4.v out4, vec zbT 9 1 hd10.v l5]
            refine zai (zah rfl dc rfl ?_)
            obtain ⟨hg2, h⟩ := zcb h
            refine zaz rfl dc rfl rfl (zbh (r := at9 + 1) (IntWalk.i64_in _ hg2)) (zak rfl dc rfl (zap (zaA (zaj (zai (zah rfl dc rfl ?_))))))
            obtain ⟨hg3, h⟩ := zcb h
            refine zaz rfl dc rfl rfl (zbh (r := k3 + 1) (IntWalk.i64_in _ hg3)) (zak rfl dc rfl (zap ?_))
            subst hag2
            exact zbj (n2, at9 + 1, l5, k3 + 1, hd10) h (Nat.lt_succ_self _) rfl (zad rfl (zad rfl (zad rfl (zad rfl (zad rfl (zad rfl (zad rfl (zad rfl (zad rfl (zaH)))))))))) (zal [0, 1, 2, 3, 4] kr rfl)
          ·
           have h := za1 hb5 h
           refine zby (zaJ (zaJ (zaV ?_)))
           exact zaO (at9, l4, hd9) h rfl (zad rfl (zad rfl (zad rfl (zad rfl (zad rfl (zad rfl (zad rfl (zad rfl (zaH))))))))) (zal [0, 1, 2, 3, 4] kr rfl)
        ·
         rintro ⟨at5, l1, hd6⟩ h
         rw [hj3] at h
         show TC _ _ _ _ _ ([]) _ _ [(1, zI from1), (2, zI to1), (3, zP b1), (6, zP b2), (8, zP b4), (9, zI at5), (10, zI i3), (11, hd6.v)] [cells b1 [.string p1.Title, p1_h0.v] 56, cells b2 [.string ByteArray.empty, .slice none 0 0] 56, cells b4 [.string p1.Title, hd4.v] 56, zbx zae zag 48 1 hd4.v out4, vec zbT 9 1 hd6.v l1]
         refine zas (zai (zah rfl dc rfl (zdf (k := 4) rfl dc rfl rfl Tryd.underlying48 (zaz rfl dc rfl rfl zdC (zap (zaj ?_))))))
         refine zaM rfl (fun hb8 => ?_) (fun hb8 => ?_)
         ·
          have h := za0 hb8 h
          refine zai (zar zbC rfl dc rfl (show _ = 1 from rfl) (zaN (k := 2) zc7 rfl dc rfl rfl rfl (zah rfl dc rfl ?_)))
          refine zbg (cs := [hd6.v]) (te := 48) (ps := [(0, .tmp 73)]) rfl dc rfl (fun _ => by kernel_rfl) (fun b6 => ?_)
          refine zes (k := 3) rfl zhC (fun zs1 hz1 => ?_)
          show TO _ _ _ _ _ _ _ _ _ _ [cells b1 [.string p1.Title, p1_h0.v] 56, cells b2 [.string ByteArray.empty, .slice none 0 0] 56, cells b4 [.string p1.Title, hd4.v] 56, vec zae 48 1 hd4.v zs1, vec zbT 9 1 hd6.v l1, cells b6 [hd6.v] 48, own zag zs1]
          obtain ⟨hg4, h⟩ := zcb h
          refine zbr (k := 3) (k2 := 5) (ys := [(l1, hd6)]) Tryd.underlying54 zkS zaL zcI rfl dc rfl rfl rfl rfl rfl rfl (by rw [zm3 hz1]; exact hg4) (fun v2 => ?_)
          show TO _ _ _ _ _ _ _ _ _ _ [cells b1 [.string p1.Title, p1_h0.v] 56, cells b2 [.string ByteArray.empty, .slice none 0 0] 56, cells b4 [.string p1.Title, hd4.v] 56, vec zae 48 1 v2 (zs1 ++ [(l1, hd6)]), vec zbT 9 1 hd6.v l1, cells b6 [hd6.v] 48, own zag zs1]
          refine zb7 (k := 3) rfl (fun hd12 he2 => ?_)
          subst he2
          refine zei (k := 6) rfl (zal [4] kr rfl) rfl (zlc (nest := zag) (zs := zs1) (z := (l1, hd6))) ?_
          show TO _ _ _ _ _ _ _ _ _ _ [cells b1 [.string p1.Title, p1_h0.v] 56, cells b2 [.string ByteArray.empty, .slice none 0 0] 56, cells b4 [.string p1.Title, hd4.v] 56, vec zae 48 1 hd12.v (zs1 ++ [(l1, hd6)]), emp, cells b6 [hd6.v] 48, own zag (zs1 ++ [(l1, hd6)])]
          refine zei (k := 3) rfl (zal [6] kr rfl) rfl (zit (enc := zae) (nest := zag) (zoA hz1)) ?_
          show TO _ _ _ _ _ _ _ _ _ _ [cells b1 [.string p1.Title, p1_h0.v] 56, cells b2 [.string ByteArray.empty, .slice none 0 0] 56, cells b4 [.string p1.Title, hd4.v] 56, zbx zae zag 48 1 hd12.v (out4 ++ [l1]), emp, cells b6 [hd6.v] 48, emp]
          refine zbw (L' := [cells b1 [.string p1.Title, p1_h0.v] 56, cells b2 [.string ByteArray.empty, .slice none 0 0] 56, cells b4 [.string p1.Title, hd4.v] 56, zbx zae zag 48 1 hd12.v (out4 ++ [l1]), emp, cells b6 [hd6.v] 48]) (zal [0, 1, 2, 3, 4, 5] kr rfl) (zar zbC rfl dc rfl (show _ = 1 from rfl) ?_)
          refine zbo (k := 2) (l' := [.string p1.Title, hd12.v]) zlx rfl rfl rfl rfl rfl (fun _ _ => rfl) rfl ?_
          show TO _ _ _ _ _ _ _ _ _ _ [cells b1 [.string p1.Title, p1_h0.v] 56, cells b2 [.string ByteArray.empty, .slice none 0 0] 56, cells b4 [.string p1.Title, hd12.v] 56, zbx zae zag 48 1 hd12.v (out4 ++ [l1]), emp, cells b6 [hd6.v] 48]
          refine zap (zaA ?_)
          exact zaO (out4 ++ [l1], at5, hd12) h rfl (zad rfl (zad rfl (zad rfl (zad rfl (zad rfl (zad rfl (zad rfl (zaH)))))))) (zal [0, 1, 2, 3] kr rfl)
         ·
          have h := za1 hb8 h
          refine zaP (zaA ?_)
          exact zaO (out4, at5, hd4) h rfl (zad rfl (zad rfl (zad rfl (zad rfl (zad rfl (zad rfl (zad rfl (zaH)))))))) (zal [0, 1, 2, 3] kr rfl)
       ·
        rintro ⟨out5, at4, hd5⟩ h
        rw [hj2] at h
        show TC _ _ _ _ _ ([]) _ _ [(1, zI from1), (2, zI to1), (3, zP b1), (6, zP b2), (8, zP b4), (9, zI at4), (10, zI i3)] [cells b1 [.string p1.Title, p1_h0.v] 56, cells b2 [.string ByteArray.empty, .slice none 0 0] 56, cells b4 [.string p1.Title, hd5.v] 56, zbx zae zag 48 1 hd5.v out5]
        refine zai (zah rfl dc rfl ?_)
        obtain ⟨hg5, h⟩ := zcb h
        refine zaz rfl dc rfl rfl (zbh (r := i3 + 1) (IntWalk.i64_in _ hg5)) (zak rfl dc rfl (zap ?_))
        subst hag1
        exact zbj (n1, out5, at4, i3 + 1, hd5) h (Nat.lt_succ_self _) rfl (zad rfl (zad rfl (zad rfl (zad rfl (zad rfl (zad rfl (zad rfl (zaH)))))))) (zal [0, 1, 2, 3] kr rfl)
      ·
       have h := za1 hb4 h
       refine zby (zaJ (zaJ (zaV ?_)))
       exact zaO (out4, b4, hd4) h rfl (zad rfl (zad rfl (zaH))) (zal [1, 2, 3] kr rfl)
    ·
     rintro ⟨out1, b3, hd1⟩ h
     rw [hj1] at h
     show TC _ _ _ _ _ ([]) _ _ [(6, zP b2), (8, zP b3)] [cells b2 [.string ByteArray.empty, .slice none 0 0] 56, cells b3 [.string p1.Title, hd1.v] 56, zbx zae zag 48 1 hd1.v out1]
     refine zas (zas (zai (zbc (k := 1) (cs := [.string p1.Title, hd1.v]) zcw rfl dc rfl rfl rfl rfl ?_)))
     obtain ⟨r2, hq5, h⟩ := zbN h
     refine za4 (v := .string r2) (vs := [.agg #[.string p1.Title, hd1.v]]) hrd rfl dc rfl rfl rfl zlS (zch (nest := zag) (e := 48) (v := hd1.v) (xs := out1) (RD1 := []) (RD2 := []) zaL za5 (fun zs_c0 hz_c0 hV_c0 => (zd1 (p1_h0 := hd1) (p1 := (⟨p1.Title, out1⟩ : Gref17_Poem)) hV_c0 hz_c0 hq5))) (.own (zal [2] (by kernel_rfl) rfl) (fun _ _ h => sepL.one1.1 h) .nil) ?_
     refine zbA rfl dc rfl Tryd.underlying9 (zaz rfl dc rfl rfl zdC (zap (zaj ?_)))
     refine zaM rfl (fun hb9 => ?_) (fun hb9 => ?_)
     ·
      have h := za0 hb9 h
      refine zas (zai ?_)
      refine zbe (v := .agg #[.string ByteArray.empty, .slice none 0 0]) (ps := []) rfl dc rfl (fun _ => by kernel_rfl) ?_
      refine zaZ (k := 0) (vs := [.string ByteArray.empty, .slice none 0 0]) (l' := [.string ByteArray.empty, .slice none 0 0]) zeG rfl rfl rfl rfl rfl (show _ ≤ _ by simp) rfl rfl (zak rfl dc rfl (zap (zaj (zaX (zay (zfq (enc := zae) (nest := zag) (e := 48) (size := 1) ?_))))))
      show TX _ _ _ _ _ _ _ [cells b2 [.string ByteArray.empty, .slice none 0 0] 56, cells b3 [.string p1.Title, hd1.v] 56, zbx zae zag 48 1 hd1.v out1, zbx zae zag 48 1 (.slice none 0 0) ([] : List (List ByteArray))]
      cases h
      exact za3 (rs := [.cell 6 56, .tmp 7]) Hd.nil (.inl rfl) Tryd.results35 (.cons (.cells zcw (k := 0) rfl rfl rfl) (.cons (.tmp rfl) .nil)) rfl (zal [3] kr rfl)
     ·
      have h := za1 hb9 h
      refine zaP (zaj (zas (zai (zbc (k := 1) (cs := [.string p1.Title, hd1.v]) zcw rfl dc rfl rfl rfl rfl (zaZ (k := 0) (vs := [.string p1.Title, hd1.v]) (l' := [.string p1.Title, hd1.v]) zeG rfl rfl rfl rfl rfl (show _ ≤ _ by simp) rfl rfl (zak rfl dc rfl (zap (zaj (zaX ?_)))))))))
      cases h
      exact za3 (rs := [.cell 6 56, .tmp 7]) hd1 (.inl rfl) Tryd.results35 (.cons (.cells zcw (k := 0) rfl rfl rfl) (.cons (.tmp rfl) .nil)) rfl (zal [2] kr rfl)
def zcL (s1 : ByteArray) (j1 : ByteArray → (List (List ByteArray)) → (List Gapi_Verse) → Option (Gref17_Poem × (List Gapi_Verse) × Gapi_Spot)) (r1 : (List Gapi_Span)) (ag1 : ByteArray → (List (List ByteArray)) → (List Gapi_Verse) → Bool → Bool → Int → Option (Gref17_Poem × (List Gapi_Verse) × Gapi_Spot)) (p10 : ByteArray) (p11 : List (List ByteArray)) (l4 : List Gapi_Verse) (first3 : Bool) (row3 : Bool) (i3 : Int) : Option (Gref17_Poem × (List Gapi_Verse) × Gapi_Spot) := zaU (decide ((i3 : Int) < (r1.length : Int))) ( zbO (fun (j2 : ByteArray → (List (List ByteArray)) → (List Gapi_Verse) → Bool → Bool → Option (Gref17_Poem × (List Gapi_Verse) × Gapi_Spot)) => zaG (zdh r1 i3) fun (q1 : Gapi_Span) => grd (0 ≤ (q1.From : Int) ∧ (q1.From : Int) ≤ q1.To ∧ (q1.To : Int) ≤ (s1.size : Int)) <| zaG (zdo (zbn s1 q1.From q1.To)) fun (r2 : Bool) => zaU (r2) ( j2 p10 p11 l4 first3 false
) ( zaU (decide ((1024 : Int) < ((zbn s1 q1.From q1.To).size : Int))) ( grd (I64 (q1.From + 1024)) <| some ((⟨ByteArray.empty, ([] : List (List ByteArray))⟩ : Gref17_Poem), ([] : List Gapi_Verse), (⟨3, q1.From + 1024⟩ : Gapi_Spot))
) ( zbO (fun (j3 : Option (Gref17_Poem × (List Gapi_Verse) × Gapi_Spot)) => zaU (first3) ( zaG (zd0 (zbn s1 q1.From q1.To)) fun (r3 : Bool) => zaU (r3) ( zbO (fun (j4 : ByteArray → Option (Gref17_Poem × (List Gapi_Verse) × Gapi_Spot)) => zaU (decide ((2 : Int) < ((zbn s1 q1.From q1.To).size : Int))) ( grd (0 ≤ (2 : Int) ∧ (2 : Int) ≤ ((zbn s1 q1.From q1.To).size : Int) ∧ (((zbn s1 q1.From q1.To).size : Int) : Int) ≤ ((zbn s1 q1.From q1.To).size : Int)) <| j4 (zbn (zbn s1 q1.From q1.To) 2 ((zbn s1 q1.From q1.To).size : Int))
) ( j4 p10
)
) (fun (p14 : ByteArray) => j2 p14 p11 l4 false row3
)
) ( j3
)
) ( j3
)
) ( zaU (((l4.length : Int) : Int) == 512) ( some ((⟨ByteArray.empty, ([] : List (List ByteArray))⟩ : Gref17_Poem), ([] : List Gapi_Verse), (⟨3, q1.From⟩ : Gapi_Spot))
) ( zbO (fun (j5 : (List (List ByteArray)) → Option (Gref17_Poem × (List Gapi_Verse) × Gapi_Spot)) => zaU (!row3) ( grd (p11.length + 1 ≤ 2147483648) <| j5 (p11 ++ [([] : List ByteArray)])
) ( j5 p11
)
) (fun (p15 : List (List ByteArray)) => grd (I64 ((p15.length : Int) - 1)) <| zaG (zbZ (zbn s1 q1.From q1.To)) fun (r4 : Int) => grd (0 ≤ (r4 : Int) ∧ (r4 : Int) ≤ ((zbn s1 q1.From q1.To).size : Int) ∧ (((zbn s1 q1.From q1.To).size : Int) : Int) ≤ ((zbn s1 q1.From q1.To).size : Int)) <| zaG (zbZ (zbn s1 q1.From q1.To)) fun (r5 : Int) => zaG (zdh p15 ((p15.length : Int) - 1)) fun (x1 : List ByteArray) => zaG (zbZ (zbn s1 q1.From q1.To)) fun (r6 : Int) => grd (I64 (q1.From + r6)) <| grd (l4.length + 1 ≤ 2147483648) <| zaG (zdh p15 ((p15.length : Int) - 1)) fun (x2 : List ByteArray) => grd (x2.length + 1 ≤ 2147483648) <| j2 p10 (p15.set ((p15.length : Int) - 1 : Int).toNat (x2 ++ [zbn s1 q1.From q1.To])) (l4 ++ [(⟨zbn (zbn s1 q1.From q1.To) r4 ((zbn s1 q1.From q1.To).size : Int), r5, (p15.length : Int) - 1, (x1.length : Int), q1.From + r6, q1.To⟩ : Gapi_Verse)]) false true
)
)
)
)
)
) (fun (p12 : ByteArray) (p13 : List (List ByteArray)) (l5 : List Gapi_Verse) (first4 : Bool) (row4 : Bool) => grd (I64 (i3 + 1)) <| ag1 p12 p13 l5 first4 row4 (i3 + 1)
)
) ( j1 p10 p11 l4
)
def zcZ (s1 : ByteArray) : Option (Gref17_Poem × (List Gapi_Verse) × Gapi_Spot) := zaU (decide ((65536 : Int) < (s1.size : Int))) ( some ((⟨ByteArray.empty, ([] : List (List ByteArray))⟩ : Gref17_Poem), ([] : List Gapi_Verse), (⟨3, 65536⟩ : Gapi_Spot))
) ( zbO (fun (j1 : ByteArray → (List (List ByteArray)) → (List Gapi_Verse) → Option (Gref17_Poem × (List Gapi_Verse) × Gapi_Spot)) => zaG (zey s1) fun (r1 : (List Gapi_Span)) => za8 (fun _ _ _ _ _ _ => none) (zcL s1 j1 r1) zb0 ByteArray.empty ([] : List (List ByteArray)) ([] : List Gapi_Verse) true false 0
) (fun (p1 : ByteArray) (p2 : List (List ByteArray)) (l1 : List Gapi_Verse) => some ((⟨p1, p2⟩ : Gref17_Poem), l1, (⟨0, 0⟩ : Gapi_Spot))
)
)
theorem ze7 {s1 : ByteArray} {r : (Gref17_Poem × (List Gapi_Verse) × Gapi_Spot)} (h : zcZ s1 = some r) : Fn Tryd.prog 30 [.string s1] [] (fun b : Hd × Value => .tuple #[.agg #[.string r.1.Title, b.1.v], b.2, .agg #[zI r.2.2.Err, zI r.2.2.At]]) (fun b => [zbx zae zag 48 1 b.1.v r.1.Stanzas, vec zam 36 6 b.2 r.2.1]) := by
 unfold zcZ at h
 refine Fn.intro Tryd.func30 rfl Tryd.ntmps30 (by simp) ?_
 intro w0 K
 refine zas (zai ?_)
 refine zbl zgC rfl dc (fun b1 => ?_)
 refine zak rfl dc rfl ?_
 refine zbl ziG rfl dc (fun b2 => ?_)
 show TO _ _ _ _ _ _ _ _ _ _ [cells b1 [.string ByteArray.empty, .slice none 0 0] 56, cells b2 [zI 0, zI 0] 26]
 refine zap (zaj (zas (zai ?_)))
 refine zbl zgC rfl dc (fun b3 => ?_)
 refine zap (zaj (zas (zai (zak rfl dc rfl (zap (zaj (zas (zas (zai (zah rfl dc rfl (zbA rfl dc rfl Tryd.underlying9 (zaz rfl dc rfl rfl zdC (zap ?_)))))))))))))
 refine zaj ?_
 refine zaM rfl (fun hb1 => ?_) (fun hb1 => ?_)
 ·
  have h := za0 hb1 h
  refine zas (zai (zbc (k := 2) (cs := [.string ByteArray.empty, .slice none 0 0]) zcw rfl dc rfl rfl rfl rfl ?_))
  refine zbe (v := .agg #[zI 3, zI 65536]) (ps := [(0, .const (zI 3)), (1, .const (zI 65536))]) rfl dc rfl (fun _ => by kernel_rfl) ?_
  refine zaZ (k := 0) (vs := [.string ByteArray.empty, .slice none 0 0]) (l' := [.string ByteArray.empty, .slice none 0 0]) zeG rfl rfl rfl rfl rfl (show _ ≤ _ by simp) rfl rfl ?_
  show TO _ _ _ _ _ _ _ _ _ _ [cells b1 [.string ByteArray.empty, .slice none 0 0] 56, cells b2 [zI 0, zI 0] 26, cells b3 [.string ByteArray.empty, .slice none 0 0] 56]
  refine zak rfl dc rfl (zaZ (k := 1) (vs := [zI 3, zI 65536]) (l' := [zI 3, zI 65536]) zf7 rfl rfl rfl rfl rfl (show _ ≤ _ by simp) rfl rfl (zap (zaj (zaX (zay (zfq (enc := zae) (nest := zag) (e := 48) (size := 1) ?_))))))
  show TX _ _ _ _ _ _ _ [cells b1 [.string ByteArray.empty, .slice none 0 0] 56, cells b2 [zI 3, zI 65536] 26, cells b3 [.string ByteArray.empty, .slice none 0 0] 56, zbx zae zag 48 1 (.slice none 0 0) ([] : List (List ByteArray))]
  refine zgk (enc := zam) (e := 36) (size := 6) ?_
  show TX _ _ _ _ _ _ _ [cells b1 [.string ByteArray.empty, .slice none 0 0] 56, cells b2 [zI 3, zI 65536] 26, cells b3 [.string ByteArray.empty, .slice none 0 0] 56, zbx zae zag 48 1 (.slice none 0 0) ([] : List (List ByteArray)), vec zam 36 6 (.slice none 0 0) ([] : List Gapi_Verse)]
  cases h
  exact za3 (rs := [.cell 2 56, .tmp 3, .cell 4 26]) (Hd.nil, (.slice none 0 0)) (.inl rfl) Tryd.results30 (.cons (.cells zcw (k := 0) rfl rfl rfl) (.cons (.tmp rfl) (.cons (.cells zhA (k := 1) rfl rfl rfl) .nil))) rfl (zal [3, 4] kr rfl)
 ·
  have h := za1 hb1 h
  refine zaP (zaj ?_)
  obtain ⟨j1, hj1, h⟩ := zcp h
  refine zbm (β := ByteArray × (List (List ByteArray)) × (List Gapi_Verse) × Hd × Hd) 2 rfl (fun b => j1 b.1 b.2.1 b.2.2.1 = some r) (fun b => []) (fun b => [(2, zP b1), (4, zP b2), (5, zP b3), (6, b.2.2.2.2.v)]) (fun b => [cells b1 [.string ByteArray.empty, .slice none 0 0] 56, cells b2 [zI 0, zI 0] 26, cells b3 [.string b.1, b.2.2.2.1.v] 56, zbx zae zag 48 1 b.2.2.2.1.v b.2.1, vec zam 36 6 b.2.2.2.2.v b.2.2.1]) (fun cut => ?_) ?_
  ·
   refine zas (zai (zah rfl dc rfl ?_))
   obtain ⟨r1, hq1, h⟩ := zbN h
   refine zed (vs := [.string s1]) rfl dc rfl rfl rfl zpI (ziL hq1) Splits.nil ?_
   rintro v1
   show TO _ _ _ _ _ _ _ _ _ _ [cells b1 [.string ByteArray.empty, .slice none 0 0] 56, cells b2 [zI 0, zI 0] 26, cells b3 [.string ByteArray.empty, .slice none 0 0] 56, vec zav 34 2 v1 r1]
   refine zbw (L' := [cells b1 [.string ByteArray.empty, .slice none 0 0] 56, cells b2 [zI 0, zI 0] 26, cells b3 [.string ByteArray.empty, .slice none 0 0] 56, vec zav 34 2 v1 r1]) (zal [0, 1, 2, 3] kr rfl) ?_
   refine zb7 (k := 3) rfl (fun hd3 he1 => ?_)
   subst he1
   refine zak rfl dc rfl (zap (zaj (zas (zai (zak rfl dc rfl (zak rfl dc rfl (zap (zaj (cut (zas (zai (zak rfl dc rfl (zap ?_)))))))))))))
   refine zaj (za2 (zjM (enc := zae) (nest := zag) (e := 48) (size := 1) ?_))
   show TC _ _ _ _ _ _ _ _ _ [cells b1 [.string ByteArray.empty, .slice none 0 0] 56, cells b2 [zI 0, zI 0] 26, cells b3 [.string ByteArray.empty, .slice none 0 0] 56, vec zav 34 2 hd3.v r1, zbx zae zag 48 1 (.slice none 0 0) ([] : List (List ByteArray))]
   refine zel (enc := zam) (e := 36) (size := 6) ?_
   show TC _ _ _ _ _ _ _ _ _ [cells b1 [.string ByteArray.empty, .slice none 0 0] 56, cells b2 [zI 0, zI 0] 26, cells b3 [.string ByteArray.empty, (.slice none 0 0)] 56, vec zav 34 2 hd3.v r1, zbx zae zag 48 1 (.slice none 0 0) ([] : List (List ByteArray)), vec zam 36 6 (.slice none 0 0) ([] : List Gapi_Verse)]
   refine zbJ (β := Nat × ByteArray × (List (List ByteArray)) × (List Gapi_Verse) × Bool × Bool × Int × Hd × Hd) (fun b => za8 (fun _ _ _ _ _ _ => none) (zcL s1 j1 r1) b.1 b.2.1 b.2.2.1 b.2.2.2.1 b.2.2.2.2.1 b.2.2.2.2.2.1 b.2.2.2.2.2.2.1 = some r) (fun b => []) (fun b => [(0, .string s1), (2, zP b1), (4, zP b2), (5, zP b3), (6, b.2.2.2.2.2.2.2.2.v), (7, hd3.v), (8, .bool b.2.2.2.2.1), (9, .bool b.2.2.2.2.2.1), (10, zI b.2.2.2.2.2.2.1)]) (fun b => [cells b1 [.string ByteArray.empty, .slice none 0 0] 56, cells b2 [zI 0, zI 0] 26, cells b3 [.string b.2.1, b.2.2.2.2.2.2.2.1.v] 56, zbx zae zag 48 1 b.2.2.2.2.2.2.2.1.v b.2.2.1, vec zam 36 6 b.2.2.2.2.2.2.2.2.v b.2.2.2.1, vec zav 34 2 hd3.v r1]) (fun b => b.1) (zb0, ByteArray.empty, ([] : List (List ByteArray)), ([] : List Gapi_Verse), true, false, 0, Hd.nil, Hd.nil) h rfl (zad rfl (zad rfl (zad rfl (zad rfl (zad rfl (zad rfl (zad rfl (zad rfl (zad rfl (zaH)))))))))) (zal [0, 1, 2, 4, 5, 3] kr rfl) ?_
   rintro ⟨n1, p10, p11, l4, first3, row3, i3, hd9, hd10⟩ h
   cases n1 with
   | zero => exact zdV h
   | succ n1 =>
    obtain ⟨ag1, hag1⟩ : ∃ ag, ag = za8 (fun _ _ _ _ _ _ => none) (zcL s1 j1 r1) n1 := ⟨_, rfl⟩
    have h : zcL s1 j1 r1 ag1 p10 p11 l4 first3 row3 i3 = some r := by rw [hag1]; exact h
    unfold zcL at h
    show TC _ _ _ _ _ ([]) _ _ [(0, .string s1), (2, zP b1), (4, zP b2), (5, zP b3), (6, hd10.v), (7, hd3.v), (8, .bool first3), (9, .bool row3), (10, zI i3)] [cells b1 [.string ByteArray.empty, .slice none 0 0] 56, cells b2 [zI 0, zI 0] 26, cells b3 [.string p10, hd9.v] 56, zbx zae zag 48 1 hd9.v p11, vec zam 36 6 hd10.v l4, vec zav 34 2 hd3.v r1]
    refine zas (zas (zai (zah rfl dc rfl (zah rfl dc rfl (zdf (k := 5) rfl dc rfl rfl Tryd.underlying89 (zaz rfl dc rfl rfl zbF (zap (zaj ?_))))))))
    refine zaM rfl (fun hb2 => ?_) (fun hb2 => ?_)
    ·
     have h := za0 hb2 h
     refine zaP (zaj ?_)
     obtain ⟨j2, hj2, h⟩ := zcp h
     refine zbm (β := ByteArray × (List (List ByteArray)) × (List Gapi_Verse) × Bool × Bool × Hd × Hd) 0 rfl (fun b => j2 b.1 b.2.1 b.2.2.1 b.2.2.2.1 b.2.2.2.2.1 = some r) (fun b => []) (fun b => [(0, .string s1), (2, zP b1), (4, zP b2), (5, zP b3), (6, b.2.2.2.2.2.2.v), (7, hd3.v), (8, .bool b.2.2.2.1), (9, .bool b.2.2.2.2.1), (10, zI i3)]) (fun b => [cells b1 [.string ByteArray.empty, .slice none 0 0] 56, cells b2 [zI 0, zI 0] 26, cells b3 [.string b.1, b.2.2.2.2.2.1.v] 56, zbx zae zag 48 1 b.2.2.2.2.2.1.v b.2.1, vec zam 36 6 b.2.2.2.2.2.2.v b.2.2.1, vec zav 34 2 hd3.v r1]) (fun cut => ?_) ?_
     ·
      refine cut (za2 (zas (zai (zah rfl dc rfl (zah rfl dc rfl ?_)))))
      obtain ⟨q1, hq2, h⟩ := zbN h
      refine zce (k := 5) hq2 Tryd.underlying89 zgt rfl dc rfl rfl rfl rfl (zkX (i := (i3 : Int).toNat) (j := 0) (k := 5) (q := q1) (cs := [zI q1.From, zI q1.To]) zhf zbv rfl dc rfl rfl (zcq hq2) rfl rfl rfl ?_)
      refine zbl zky rfl dc (fun b4 => ?_)
      refine zaZ (k := 6) (vs := [zI q1.From, zI q1.To]) (l' := [zI q1.From, zI q1.To]) zgt rfl rfl rfl rfl rfl (show _ ≤ _ by simp) rfl rfl ?_
      show TO _ _ _ _ _ _ _ _ _ _ [cells b1 [.string ByteArray.empty, .slice none 0 0] 56, cells b2 [zI 0, zI 0] 26, cells b3 [.string p10, hd9.v] 56, zbx zae zag 48 1 hd9.v p11, vec zam 36 6 hd10.v l4, vec zav 34 2 hd3.v r1, cells b4 [zI q1.From, zI q1.To] 34]
      refine zap (zaj (zas (zai (zah rfl dc rfl (zar ze3 rfl dc rfl (show _ = 0 from rfl) (zaN (k := 6) zfb rfl dc rfl rfl rfl (zar zfC rfl dc rfl (show _ = 1 from rfl) (zaN (k := 6) zfb rfl dc rfl rfl rfl ?_))))))))
      obtain ⟨hg1, h⟩ := zcb h
      refine zeD rfl dc rfl rfl rfl (zcv (i := q1.From) (j := q1.To) Tryd.underlying9 (.inr rfl) (.inr rfl) hg1) (zak rfl dc rfl (zap (zaj (zas (zas (zai (zah rfl dc rfl ?_)))))))
      obtain ⟨r2, hq3, h⟩ := zbN h
      refine zbH (v := .bool r2) (vs := [.string (zbn s1 q1.From q1.To)]) rfl dc rfl rfl rfl zoY (zgy hq3) (zap (zaj ?_))
      refine zaM rfl (fun hb3 => ?_) (fun hb3 => ?_)
      ·
       have h := za0 hb3 h
       refine zas (zai (zak rfl dc rfl (zap (zaj (zby (zaJ (zaV ?_)))))))
       exact zaO (p10, p11, l4, first3, false, hd9, hd10) h rfl (zad rfl (zad rfl (zad rfl (zad rfl (zad rfl (zad rfl (zad rfl (zad rfl (zad rfl (zaH)))))))))) (zal [0, 1, 2, 3, 4, 5] kr rfl)
      ·
       have h := za1 hb3 h
       refine zaP (zaj (zas (zas (zai (zah rfl dc rfl (zbA rfl dc rfl Tryd.underlying9 (zaz rfl dc rfl rfl zdC (zap (zaj ?_)))))))))
       refine zaM rfl (fun hb4 => ?_) (fun hb4 => ?_)
       ·
        have h := za0 hb4 h
        refine zas ?_
        obtain ⟨hg2, h⟩ := zcb h
        refine zbR 7 [(0, 43, .agg #[.string ByteArray.empty, .slice none 0 0]), (1, 44, zP b4), (2, 45, zI q1.From), (3, 46, zI (q1.From + 1024)), (4, 47, .agg #[zI 3, zI (q1.From + 1024)]), (6, 3, .slice none 0 0)] mixed kr kr dc (by rfl) kr kr (zac ?_ (zac ?_ (zac ?_ (zac ?_ (zac ?_ (zac ?_ (zac ?_ DrawPre.nil))))))) ?_
        ·
         intro D hn hd hcl hu hi
         refine zbe (v := .agg #[.string ByteArray.empty, .slice none 0 0]) (ps := []) rfl dc evP.nil (fun _ => by kernel_rfl) ?_
         exact zaf 0 hu hi rfl
        ·
         intro D hn hd hcl hu hi
         refine zar ze3 rfl dc (zaE (by rfl) rfl) (show _ = 0 from rfl) ?_
         exact zaf 1 hu hi rfl
        ·
         intro D hn hd hcl hu hi
         refine zaN (k := 6) zfb rfl dc (zab (m := 1) hu rfl (hd 1 dc)) rfl rfl ?_
         exact zaf 2 hu hi rfl
        ·
         intro D hn hd hcl hu hi
         refine zaz rfl dc (zab (m := 2) hu rfl (hd 2 dc)) rfl (zbh (r := q1.From + 1024) (IntWalk.i64_in _ hg2)) ?_
         exact zaf 3 hu hi rfl
        ·
         intro D hn hd hcl hu hi
         refine zbe (v := .agg #[zI 3, zI (q1.From + 1024)]) (ps := [(0, .const (zI 3)), (1, .tmp 46)]) rfl dc (evP.cons rfl (evP.cons (zab (m := 3) hu rfl (hd 3 dc)) evP.nil)) (fun _ => by kernel_rfl) ?_
         exact zaf 4 hu hi rfl
        ·
         intro D hn hd hcl hu hi
         refine zaZ (k := 0) (vs := [.string ByteArray.empty, .slice none 0 0]) (l' := [.string ByteArray.empty, .slice none 0 0]) zeG rfl (zaE (by rfl) rfl) (zab (m := 0) hu rfl (hd 0 dc)) rfl rfl (show _ ≤ _ by simp) rfl rfl ?_
         exact zku (by rfl)
        ·
         intro D hn hd hcl hu hi
         refine zak rfl dc rfl ?_
         exact zaf 5 hu hi rfl
        refine zaZ (k := 1) (vs := [zI 3, zI (q1.From + 1024)]) (l' := [zI 3, zI (q1.From + 1024)]) zf7 rfl rfl rfl rfl rfl (show _ ≤ _ by simp) rfl rfl (zap (zaj (zaX (zay (zaI (zay (zay (zaI (zay (zfq (enc := zae) (nest := zag) (e := 48) (size := 1) ?_))))))))))
        show TX _ _ _ _ _ _ _ [cells b1 [.string ByteArray.empty, .slice none 0 0] 56, cells b2 [zI 3, zI (q1.From + 1024)] 26, cells b3 [.string p10, hd9.v] 56, zbx zae zag 48 1 hd9.v p11, vec zam 36 6 hd10.v l4, vec zav 34 2 hd3.v r1, cells b4 [zI q1.From, zI q1.To] 34, zbx zae zag 48 1 (.slice none 0 0) ([] : List (List ByteArray))]
        refine zgk (enc := zam) (e := 36) (size := 6) ?_
        show TX _ _ _ _ _ _ _ [cells b1 [.string ByteArray.empty, .slice none 0 0] 56, cells b2 [zI 3, zI (q1.From + 1024)] 26, cells b3 [.string p10, hd9.v] 56, zbx zae zag 48 1 hd9.v p11, vec zam 36 6 hd10.v l4, vec zav 34 2 hd3.v r1, cells b4 [zI q1.From, zI q1.To] 34, zbx zae zag 48 1 (.slice none 0 0) ([] : List (List ByteArray)), vec zam 36 6 (.slice none 0 0) ([] : List Gapi_Verse)]
        cases h
        exact za3 (rs := [.cell 2 56, .tmp 3, .cell 4 26]) (Hd.nil, (.slice none 0 0)) (.inl rfl) Tryd.results30 (.cons (.cells zcw (k := 0) rfl rfl rfl) (.cons (.tmp rfl) (.cons (.cells zhA (k := 1) rfl rfl rfl) .nil))) rfl (zal [7, 8] kr rfl)
       ·
        have h := za1 hb4 h
        refine zaP (zaj ?_)
        obtain ⟨j3, hj3, h⟩ := zcp h
        refine zbm (β := Unit) 0 rfl (fun b => j3 = some r) (fun b => []) (fun b => [(0, .string s1), (2, zP b1), (4, zP b2), (5, zP b3), (6, hd10.v), (7, hd3.v), (9, .bool row3), (10, zI i3), (11, zP b4), (12, .string (zbn s1 q1.From q1.To))]) (fun b => [cells b1 [.string ByteArray.empty, .slice none 0 0] 56, cells b2 [zI 0, zI 0] 26, cells b3 [.string p10, hd9.v] 56, zbx zae zag 48 1 hd9.v p11, vec zam 36 6 hd10.v l4, vec zav 34 2 hd3.v r1, cells b4 [zI q1.From, zI q1.To] 34]) (fun cut => ?_) ?_
        ·
         refine cut (zas (zai (zah rfl dc rfl (zah rfl dc rfl ?_))))
         refine za6 (s := 49) rfl (fun hb5 => ?_) (fun hb5 => ?_)
         ·
          have h := za0 hb5 h
          refine zah rfl dc rfl ?_
          obtain ⟨r3, hq4, h⟩ := zbN h
          refine zbH (v := .bool r3) (vs := [.string (zbn s1 q1.From q1.To)]) rfl dc rfl rfl rfl zoX (zgc hq4) (zaB (b := true) rfl dc rfl rfl (zap (zaj ?_)))
          refine zaM rfl (fun hb6 => ?_) (fun hb6 => ?_)
          ·
           have h := za0 hb6 h
           obtain ⟨j4, hj4, h⟩ := zcp h
           refine zbm (β := ByteArray) 1 rfl (fun b => j4 b = some r) (fun b => []) (fun b => [(0, .string s1), (2, zP b1), (4, zP b2), (5, zP b3), (6, hd10.v), (7, hd3.v), (8, .bool false), (9, .bool row3), (10, zI i3), (50, .string (zbn s1 q1.From q1.To)), (51, .bool r3)]) (fun b => [cells b1 [.string ByteArray.empty, .slice none 0 0] 56, cells b2 [zI 0, zI 0] 26, cells b3 [.string b, hd9.v] 56, zbx zae zag 48 1 hd9.v p11, vec zam 36 6 hd10.v l4, vec zav 34 2 hd3.v r1]) (fun cut => ?_) ?_
           ·
            refine zas (zai (zak rfl dc rfl (zap (zaj (cut (zas (zai (zah rfl dc rfl (zbA rfl dc rfl Tryd.underlying9 (zaz rfl dc rfl rfl zdC (zap (zaj ?_))))))))))))
            refine zaM rfl (fun hb7 => ?_) (fun hb7 => ?_)
            ·
             have h := za0 hb7 h
             refine zai (zah rfl dc rfl ?_)
             obtain ⟨hg3, h⟩ := zcb h
             refine zeD rfl dc rfl rfl rfl (zcv (i := 2) (j := ((zbn s1 q1.From q1.To).size : Int)) Tryd.underlying9 (.inr rfl) (.inl ⟨rfl, rfl⟩) hg3) (zar zeL rfl dc rfl (show _ = 0 from rfl) ?_)
             refine zbo (k := 2) (l' := [.string (zbn (zbn s1 q1.From q1.To) 2 ((zbn s1 q1.From q1.To).size : Int)), hd9.v]) zlY rfl rfl rfl rfl rfl (fun _ _ => rfl) rfl ?_
             refine zap ?_
             exact zaO (zbn (zbn s1 q1.From q1.To) 2 ((zbn s1 q1.From q1.To).size : Int)) h rfl (zad rfl (zad rfl (zad rfl (zad rfl (zad rfl (zad rfl (zad rfl (zad rfl (zad rfl (zad rfl (zad rfl (zaH)))))))))))) (zal [0, 1, 2, 3, 4, 5] kr rfl)
            ·
             have h := za1 hb7 h
             refine zaP ?_
             exact zaO p10 h rfl (zad rfl (zad rfl (zad rfl (zad rfl (zad rfl (zad rfl (zad rfl (zad rfl (zad rfl (zad rfl (zad rfl (zaH)))))))))))) (zal [0, 1, 2, 3, 4, 5] kr rfl)
           ·
            rintro p14 h
            rw [hj4] at h
            show TC _ _ _ _ _ ([]) _ _ [(0, .string s1), (2, zP b1), (4, zP b2), (5, zP b3), (6, hd10.v), (7, hd3.v), (8, .bool false), (9, .bool row3), (10, zI i3), (50, .string (zbn s1 q1.From q1.To)), (51, .bool r3)] [cells b1 [.string ByteArray.empty, .slice none 0 0] 56, cells b2 [zI 0, zI 0] 26, cells b3 [.string p14, hd9.v] 56, zbx zae zag 48 1 hd9.v p11, vec zam 36 6 hd10.v l4, vec zav 34 2 hd3.v r1]
            refine zby (zaJ (zaV ?_))
            exact zaO (p14, p11, l4, false, row3, hd9, hd10) h rfl (zad rfl (zad rfl (zad rfl (zad rfl (zad rfl (zad rfl (zad rfl (zad rfl (zad rfl (zaH)))))))))) (zal [0, 1, 2, 3, 4, 5] kr rfl)
          ·
           have h := za1 hb6 h
           refine zaP ?_
           exact zaO () h rfl (zad rfl (zad rfl (zad rfl (zad rfl (zad rfl (zad rfl (zad rfl (zad rfl (zad rfl (zad rfl (zaH))))))))))) (zal [0, 1, 2, 3, 4, 5, 6] kr rfl)
         ·
          have h := za1 hb5 h
          refine zan rfl dc (zan rfl dc (zaB (b := false) rfl dc rfl rfl (zap (zaj (zbp rfl (zaP ?_))))))
          exact zaO () h rfl (zad rfl (zad rfl (zad rfl (zad rfl (zad rfl (zad rfl (zad rfl (zad rfl (zad rfl (zad rfl (zaH))))))))))) (zal [0, 1, 2, 3, 4, 5, 6] kr rfl)
        ·
         rintro _ h
         rw [hj3] at h
         show TC _ _ _ _ _ ([]) _ _ [(0, .string s1), (2, zP b1), (4, zP b2), (5, zP b3), (6, hd10.v), (7, hd3.v), (9, .bool row3), (10, zI i3), (11, zP b4), (12, .string (zbn s1 q1.From q1.To))] [cells b1 [.string ByteArray.empty, .slice none 0 0] 56, cells b2 [zI 0, zI 0] 26, cells b3 [.string p10, hd9.v] 56, zbx zae zag 48 1 hd9.v p11, vec zam 36 6 hd10.v l4, vec zav 34 2 hd3.v r1, cells b4 [zI q1.From, zI q1.To] 34]
         refine zas (zai (zak rfl dc rfl (zap (zaj (zas (zas (zai (zah rfl dc rfl (zdf (k := 4) rfl dc rfl rfl Tryd.underlying57 (zaz rfl dc rfl rfl zb6 (zap (zaj ?_))))))))))))
         refine zaM rfl (fun hb8 => ?_) (fun hb8 => ?_)
         ·
          have h := za0 hb8 h
          refine zas ?_
          refine zbR 6 [(0, 62, .agg #[.string ByteArray.empty, .slice none 0 0]), (1, 63, zP b4), (2, 64, zI q1.From), (3, 65, .agg #[zI 3, zI q1.From]), (5, 3, .slice none 0 0)] mixed kr kr dc (by rfl) kr kr (zac ?_ (zac ?_ (zac ?_ (zac ?_ (zac ?_ (zac ?_ DrawPre.nil)))))) ?_
          ·
           intro D hn hd hcl hu hi
           refine zbe (v := .agg #[.string ByteArray.empty, .slice none 0 0]) (ps := []) rfl dc evP.nil (fun _ => by kernel_rfl) ?_
           exact zaf 0 hu hi rfl
          ·
           intro D hn hd hcl hu hi
           refine zar ze3 rfl dc (zaE (by rfl) rfl) (show _ = 0 from rfl) ?_
           exact zaf 1 hu hi rfl
          ·
           intro D hn hd hcl hu hi
           refine zaN (k := 6) zfb rfl dc (zab (m := 1) hu rfl (hd 1 dc)) rfl rfl ?_
           exact zaf 2 hu hi rfl
          ·
           intro D hn hd hcl hu hi
           refine zbe (v := .agg #[zI 3, zI q1.From]) (ps := [(0, .const (zI 3)), (1, .tmp 64)]) rfl dc (evP.cons rfl (evP.cons (zab (m := 2) hu rfl (hd 2 dc)) evP.nil)) (fun _ => by kernel_rfl) ?_
           exact zaf 3 hu hi rfl
          ·
           intro D hn hd hcl hu hi
           refine zaZ (k := 0) (vs := [.string ByteArray.empty, .slice none 0 0]) (l' := [.string ByteArray.empty, .slice none 0 0]) zeG rfl (zaE (by rfl) rfl) (zab (m := 0) hu rfl (hd 0 dc)) rfl rfl (show _ ≤ _ by simp) rfl rfl ?_
           exact zku (by rfl)
          ·
           intro D hn hd hcl hu hi
           refine zak rfl dc rfl ?_
           exact zaf 4 hu hi rfl
          refine zaZ (k := 1) (vs := [zI 3, zI q1.From]) (l' := [zI 3, zI q1.From]) zf7 rfl rfl rfl rfl rfl (show _ ≤ _ by simp) rfl rfl (zap (zaj (zaX (zay (zaI (zay (zay (zaI (zay (zfq (enc := zae) (nest := zag) (e := 48) (size := 1) ?_))))))))))
          show TX _ _ _ _ _ _ _ [cells b1 [.string ByteArray.empty, .slice none 0 0] 56, cells b2 [zI 3, zI q1.From] 26, cells b3 [.string p10, hd9.v] 56, zbx zae zag 48 1 hd9.v p11, vec zam 36 6 hd10.v l4, vec zav 34 2 hd3.v r1, cells b4 [zI q1.From, zI q1.To] 34, zbx zae zag 48 1 (.slice none 0 0) ([] : List (List ByteArray))]
          refine zgk (enc := zam) (e := 36) (size := 6) ?_
          show TX _ _ _ _ _ _ _ [cells b1 [.string ByteArray.empty, .slice none 0 0] 56, cells b2 [zI 3, zI q1.From] 26, cells b3 [.string p10, hd9.v] 56, zbx zae zag 48 1 hd9.v p11, vec zam 36 6 hd10.v l4, vec zav 34 2 hd3.v r1, cells b4 [zI q1.From, zI q1.To] 34, zbx zae zag 48 1 (.slice none 0 0) ([] : List (List ByteArray)), vec zam 36 6 (.slice none 0 0) ([] : List Gapi_Verse)]
          cases h
          exact za3 (rs := [.cell 2 56, .tmp 3, .cell 4 26]) (Hd.nil, (.slice none 0 0)) (.inl rfl) Tryd.results30 (.cons (.cells zcw (k := 0) rfl rfl rfl) (.cons (.tmp rfl) (.cons (.cells zhA (k := 1) rfl rfl rfl) .nil))) rfl (zal [7, 8] kr rfl)
         ·
          have h := za1 hb8 h
          refine zaP (zaj ?_)
          obtain ⟨j5, hj5, h⟩ := zcp h
          refine zbm (β := (List (List ByteArray)) × Hd) 0 rfl (fun b => j5 b.1 = some r) (fun b => []) (fun b => [(0, .string s1), (2, zP b1), (4, zP b2), (5, zP b3), (6, hd10.v), (7, hd3.v), (8, .bool false), (10, zI i3), (11, zP b4), (12, .string (zbn s1 q1.From q1.To))]) (fun b => [cells b1 [.string ByteArray.empty, .slice none 0 0] 56, cells b2 [zI 0, zI 0] 26, cells b3 [.string p10, b.2.v] 56, zbx zae zag 48 1 b.2.v b.1, vec zam 36 6 hd10.v l4, vec zav 34 2 hd3.v r1, cells b4 [zI q1.From, zI q1.To] 34]) (fun cut => ?_) ?_
          ·
           refine cut (zas (zai (zah rfl dc rfl (zhJ rfl dc rfl zfX (zap (zaj ?_))))))
           refine zaM rfl (fun hb9 => ?_) (fun hb9 => ?_)
           ·
            have h := za0 hb9 h
            refine zai (zar zbC rfl dc rfl (show _ = 1 from rfl) (zaN (k := 2) zc7 rfl dc rfl rfl rfl ?_))
            refine zbg (cs := [.slice none 0 0]) (te := 48) (ps := [(0, .const (.slice none 0 0))]) rfl dc rfl (fun _ => by kernel_rfl) (fun b5 => ?_)
            refine zkv (enc := zbT) (e := 9) (size := 1) ?_
            show TO _ _ _ _ _ _ _ _ _ _ [cells b1 [.string ByteArray.empty, .slice none 0 0] 56, cells b2 [zI 0, zI 0] 26, cells b3 [.string p10, hd9.v] 56, zbx zae zag 48 1 hd9.v p11, vec zam 36 6 hd10.v l4, vec zav 34 2 hd3.v r1, cells b4 [zI q1.From, zI q1.To] 34, cells b5 [.slice none 0 0] 48, vec zbT 9 1 (.slice none 0 0) ([] : List ByteArray)]
            refine zes (k := 3) rfl zhC (fun zs1 hz1 => ?_)
            show TO _ _ _ _ _ _ _ _ _ _ [cells b1 [.string ByteArray.empty, .slice none 0 0] 56, cells b2 [zI 0, zI 0] 26, cells b3 [.string p10, hd9.v] 56, vec zae 48 1 hd9.v zs1, vec zam 36 6 hd10.v l4, vec zav 34 2 hd3.v r1, cells b4 [zI q1.From, zI q1.To] 34, cells b5 [.slice none 0 0] 48, vec zbT 9 1 (.slice none 0 0) ([] : List ByteArray), own zag zs1]
            obtain ⟨hg4, h⟩ := zcb h
            refine zbr (k := 3) (k2 := 7) (ys := [(([] : List ByteArray), Hd.nil)]) Tryd.underlying54 zkS zaL zcI rfl dc rfl rfl rfl rfl rfl rfl (by rw [zm3 hz1]; exact hg4) (fun v2 => ?_)
            show TO _ _ _ _ _ _ _ _ _ _ [cells b1 [.string ByteArray.empty, .slice none 0 0] 56, cells b2 [zI 0, zI 0] 26, cells b3 [.string p10, hd9.v] 56, vec zae 48 1 v2 (zs1 ++ [(([] : List ByteArray), Hd.nil)]), vec zam 36 6 hd10.v l4, vec zav 34 2 hd3.v r1, cells b4 [zI q1.From, zI q1.To] 34, cells b5 [.slice none 0 0] 48, vec zbT 9 1 (.slice none 0 0) ([] : List ByteArray), own zag zs1]
            refine zb7 (k := 3) rfl (fun hd14 he2 => ?_)
            subst he2
            refine zei (k := 9) rfl (zal [8] kr rfl) rfl (zlc (nest := zag) (zs := zs1) (z := (([] : List ByteArray), Hd.nil))) ?_
            show TO _ _ _ _ _ _ _ _ _ _ [cells b1 [.string ByteArray.empty, .slice none 0 0] 56, cells b2 [zI 0, zI 0] 26, cells b3 [.string p10, hd9.v] 56, vec zae 48 1 hd14.v (zs1 ++ [(([] : List ByteArray), Hd.nil)]), vec zam 36 6 hd10.v l4, vec zav 34 2 hd3.v r1, cells b4 [zI q1.From, zI q1.To] 34, cells b5 [.slice none 0 0] 48, emp, own zag (zs1 ++ [(([] : List ByteArray), Hd.nil)])]
            refine zei (k := 3) rfl (zal [9] kr rfl) rfl (zit (enc := zae) (nest := zag) (zoA hz1)) ?_
            show TO _ _ _ _ _ _ _ _ _ _ [cells b1 [.string ByteArray.empty, .slice none 0 0] 56, cells b2 [zI 0, zI 0] 26, cells b3 [.string p10, hd9.v] 56, zbx zae zag 48 1 hd14.v (p11 ++ [([] : List ByteArray)]), vec zam 36 6 hd10.v l4, vec zav 34 2 hd3.v r1, cells b4 [zI q1.From, zI q1.To] 34, cells b5 [.slice none 0 0] 48, emp, emp]
            refine zbw (L' := [cells b1 [.string ByteArray.empty, .slice none 0 0] 56, cells b2 [zI 0, zI 0] 26, cells b3 [.string p10, hd9.v] 56, zbx zae zag 48 1 hd14.v (p11 ++ [([] : List ByteArray)]), vec zam 36 6 hd10.v l4, vec zav 34 2 hd3.v r1, cells b4 [zI q1.From, zI q1.To] 34, cells b5 [.slice none 0 0] 48]) (zal [0, 1, 2, 3, 4, 5, 6, 7] kr rfl) (zar zbC rfl dc rfl (show _ = 1 from rfl) ?_)
            refine zbo (k := 2) (l' := [.string p10, hd14.v]) zlx rfl rfl rfl rfl rfl (fun _ _ => rfl) rfl ?_
            show TO _ _ _ _ _ _ _ _ _ _ [cells b1 [.string ByteArray.empty, .slice none 0 0] 56, cells b2 [zI 0, zI 0] 26, cells b3 [.string p10, hd14.v] 56, zbx zae zag 48 1 hd14.v (p11 ++ [([] : List ByteArray)]), vec zam 36 6 hd10.v l4, vec zav 34 2 hd3.v r1, cells b4 [zI q1.From, zI q1.To] 34, cells b5 [.slice none 0 0] 48]
            refine zap ?_
            exact zaO (p11 ++ [([] : List ByteArray)], hd14) h rfl (zad rfl (zad rfl (zad rfl (zad rfl (zad rfl (zad rfl (zad rfl (zad rfl (zad rfl (zad rfl (zaH))))))))))) (zal [0, 1, 2, 3, 4, 5, 6] kr rfl)
           ·
            have h := za1 hb9 h
            refine zaP ?_
            exact zaO (p11, hd9) h rfl (zad rfl (zad rfl (zad rfl (zad rfl (zad rfl (zad rfl (zad rfl (zad rfl (zad rfl (zad rfl (zaH))))))))))) (zal [0, 1, 2, 3, 4, 5, 6] kr rfl)
          ·
           rintro ⟨p15, hd13⟩ h
           rw [hj5] at h
           show TC _ _ _ _ _ ([]) _ _ [(0, .string s1), (2, zP b1), (4, zP b2), (5, zP b3), (6, hd10.v), (7, hd3.v), (8, .bool false), (10, zI i3), (11, zP b4), (12, .string (zbn s1 q1.From q1.To))] [cells b1 [.string ByteArray.empty, .slice none 0 0] 56, cells b2 [zI 0, zI 0] 26, cells b3 [.string p10, hd13.v] 56, zbx zae zag 48 1 hd13.v p15, vec zam 36 6 hd10.v l4, vec zav 34 2 hd3.v r1, cells b4 [zI q1.From, zI q1.To] 34]
           refine zas (zai (zak rfl dc rfl (zap (zaj (zas (zai (zar zbC rfl dc rfl (show _ = 1 from rfl) (zaN (k := 2) zc7 rfl dc rfl rfl rfl (zi9 (k := 3) rfl dc rfl rfl Tryd.underlying54 ?_)))))))))
           obtain ⟨hg5, h⟩ := zcb h
           refine zaz rfl dc rfl rfl (zec (r := (p15.length : Int) - 1) (IntWalk.i64_in _ hg5)) (zak rfl dc rfl (zap (zaj (zas ?_))))
           refine zeN (k := 3) rfl zhC (fun zs2 hz2 => ?_)
           show TC _ _ _ _ _ _ _ _ _ [cells b1 [.string ByteArray.empty, .slice none 0 0] 56, cells b2 [zI 0, zI 0] 26, cells b3 [.string p10, hd13.v] 56, vec zae 48 1 hd13.v zs2, vec zam 36 6 hd10.v l4, vec zav 34 2 hd3.v r1, cells b4 [zI q1.From, zI q1.To] 34, own zag zs2]
           obtain ⟨r4, hq5, h⟩ := zbN h
           obtain ⟨hg6, h⟩ := zcb h
           obtain ⟨r5, hq6, h⟩ := zbN h
           obtain ⟨x1, hq7, h⟩ := zbN h
           obtain ⟨eh1, eq1⟩ := zeb hz2 hq7
           obtain ⟨r6, hq8, h⟩ := zbN h
           obtain ⟨hg7, h⟩ := zcb h
           refine zeN (k := 7) rfl (znd (zcq eq1)) (fun _ _ => ?_)
           show TC _ _ _ _ _ _ _ _ _ [cells b1 [.string ByteArray.empty, .slice none 0 0] 56, cells b2 [zI 0, zI 0] 26, cells b3 [.string p10, hd13.v] 56, vec zae 48 1 hd13.v zs2, vec zam 36 6 hd10.v l4, vec zav 34 2 hd3.v r1, cells b4 [zI q1.From, zI q1.To] 34, own zag (zs2.eraseIdx (((p15.length : Int) - 1 : Int).toNat)), vec zbT 9 1 eh1.v x1]
           refine zhb (β := Nat) 23 22 _ [(0, 77, .string (zbn s1 q1.From q1.To)), (1, 78, .string (zbn s1 q1.From q1.To)), (2, 79, zI r4), (3, 80, .string (zbn (zbn s1 q1.From q1.To) r4 ((zbn s1 q1.From q1.To).size : Int))), (4, 81, .string (zbn s1 q1.From q1.To)), (5, 82, zI r5), (6, 83, zI ((p15.length : Int) - 1)), (7, 84, .pointer (some ⟨b3, 1, none⟩)), (8, 85, hd13.v), (9, 86, zI ((p15.length : Int) - 1)), (10, 87, .pointer (some ⟨zff hd13.v, ((p15.length : Int) - 1 : Int).toNat * 1, none⟩)), (11, 88, eh1.v), (12, 89, zI (x1.length : Int)), (13, 90, zP b4), (14, 91, zI q1.From), (15, 92, .string (zbn s1 q1.From q1.To)), (16, 93, zI r6), (17, 94, zI (q1.From + r6)), (18, 95, .pointer (some ⟨b4, 1, none⟩)), (19, 96, zI q1.To), (20, 97, .agg #[zI (q1.From + r6), zI q1.To]), (21, 98, .agg #[.string (zbn (zbn s1 q1.From q1.To) r4 ((zbn s1 q1.From q1.To).size : Int)), zI r5, zI ((p15.length : Int) - 1), zI (x1.length : Int), zI (q1.From + r6), zI q1.To])] (fun b6 => [(14, zP b6)]) (fun b6 => [cells b1 [.string ByteArray.empty, .slice none 0 0] 56, cells b2 [zI 0, zI 0] 26, cells b3 [.string p10, hd13.v] 56, vec zae 48 1 hd13.v zs2, vec zam 36 6 hd10.v l4, vec zav 34 2 hd3.v r1, cells b4 [zI q1.From, zI q1.To] 34, own zag (zs2.eraseIdx (((p15.length : Int) - 1 : Int).toNat)), vec zbT 9 1 eh1.v x1, cells b6 [.string ByteArray.empty, zI 0, zI 0, zI 0, zI 0, zI 0] 36]) mixed kr kr rfl dc dc (by rfl) kr kr (DrawPreX.cons ?_ (DrawPreX.cons ?_ (DrawPreX.cons ?_ (DrawPreX.cons ?_ (DrawPreX.cons ?_ (DrawPreX.cons ?_ (DrawPreX.cons ?_ (DrawPreX.cons ?_ (DrawPreX.cons ?_ (DrawPreX.cons ?_ (DrawPreX.cons ?_ (DrawPreX.cons ?_ (DrawPreX.cons ?_ (DrawPreX.cons ?_ (DrawPreX.cons ?_ (DrawPreX.cons ?_ (DrawPreX.cons ?_ (DrawPreX.cons ?_ (DrawPreX.cons ?_ (DrawPreX.cons ?_ (DrawPreX.cons ?_ (DrawPreX.cons ?_ (zcO DrawPreX.nil))))))))))))))))))))))) (fun b6 => (DrawPreX.cons ?_ (DrawPreX.cons ?_ (DrawPreX.cons ?_ (DrawPreX.cons ?_ (DrawPreX.cons ?_ (DrawPreX.cons ?_ (DrawPreX.cons ?_ (DrawPreX.cons ?_ (DrawPreX.cons ?_ (DrawPreX.cons ?_ (DrawPreX.cons ?_ (DrawPreX.cons ?_ (DrawPreX.cons ?_ (DrawPreX.cons ?_ (DrawPreX.cons ?_ (DrawPreX.cons ?_ (DrawPreX.cons ?_ (DrawPreX.cons ?_ (DrawPreX.cons ?_ (DrawPreX.cons ?_ (DrawPreX.cons ?_ (DrawPreX.cons ?_ (zcO DrawPreX.nil)))))))))))))))))))))))) ?_ ?_
           ·
            intro D hn hd hcl hu hi
            refine zah rfl dc (zaE (by rfl) rfl) ?_
            exact zaf 0 hu hi rfl
           ·
            intro D hn hd hcl hu hi
            refine zah rfl dc (zaE (by rfl) rfl) ?_
            exact zaf 1 hu hi rfl
           ·
            intro D hn hd hcl hu hi
            refine zbH (v := zI r4) (vs := [.string (zbn s1 q1.From q1.To)]) rfl dc rfl (evL.cons (zab (m := 1) hu rfl (hd 1 dc)) evL.nil) rfl zlT (zdE hq5) ?_
            exact zaf 2 hu hi rfl
           ·
            intro D hn hd hcl hu hi
            refine zeD rfl dc (zab (m := 0) hu rfl (hd 0 dc)) (evO.some (zab (m := 2) hu rfl (hd 2 dc))) zg3 (zcv (i := r4) (j := ((zbn s1 q1.From q1.To).size : Int)) Tryd.underlying9 (.inr rfl) (.inl ⟨rfl, rfl⟩) hg6) ?_
            exact zaf 3 hu hi rfl
           ·
            intro D hn hd hcl hu hi
            refine zah rfl dc (zaE (by rfl) rfl) ?_
            exact zaf 4 hu hi rfl
           ·
            intro D hn hd hcl hu hi
            refine zbH (v := zI r5) (vs := [.string (zbn s1 q1.From q1.To)]) rfl dc rfl (evL.cons (zab (m := 4) hu rfl (hd 4 dc)) evL.nil) rfl zlT (zdE hq6) ?_
            exact zaf 5 hu hi rfl
           ·
            intro D hn hd hcl hu hi
            refine zah rfl dc (zaE (by rfl) rfl) ?_
            exact zaf 6 hu hi rfl
           ·
            intro D hn hd hcl hu hi
            refine zar zbC rfl dc (zaE (by rfl) rfl) (show _ = 1 from rfl) ?_
            exact zaf 7 hu hi rfl
           ·
            intro D hn hd hcl hu hi
            refine zaN (k := 2) zc7 rfl dc (zab (m := 7) hu rfl (hd 7 dc)) rfl rfl ?_
            exact zaf 8 hu hi rfl
           ·
            intro D hn hd hcl hu hi
            refine zah rfl dc (zaE (by rfl) rfl) ?_
            exact zaf 9 hu hi rfl
           ·
            intro D hn hd hcl hu hi
            refine zce (k := 3) eq1 Tryd.underlying54 zet rfl dc (zab (m := 8) hu rfl (hd 8 dc)) (zab (m := 9) hu rfl (hd 9 dc)) rfl rfl ?_
            exact zaf 10 hu hi rfl
           ·
            intro D hn hd hcl hu hi
            refine zd2 (i := ((p15.length : Int) - 1 : Int).toNat) (j := 0) (k := 3) (q := (x1, eh1)) zeR zaL rfl dc (zab (m := 10) hu rfl (hd 10 dc)) rfl (zcq eq1) rfl dc rfl ?_
            exact zaf 11 hu hi rfl
           ·
            intro D hn hd hcl hu hi
            refine zdf (k := 8) rfl dc (zab (m := 11) hu rfl (hd 11 dc)) rfl Tryd.underlying48 ?_
            exact zaf 12 hu hi rfl
           ·
            intro D hn hd hcl hu hi
            refine zar ze3 rfl dc (zaE (by rfl) rfl) (show _ = 0 from rfl) ?_
            exact zaf 13 hu hi rfl
           ·
            intro D hn hd hcl hu hi
            refine zaN (k := 6) zfb rfl dc (zab (m := 13) hu rfl (hd 13 dc)) rfl rfl ?_
            exact zaf 14 hu hi rfl
           ·
            intro D hn hd hcl hu hi
            refine zah rfl dc (zaE (by rfl) rfl) ?_
            exact zaf 15 hu hi rfl
           ·
            intro D hn hd hcl hu hi
            refine zbH (v := zI r6) (vs := [.string (zbn s1 q1.From q1.To)]) rfl dc rfl (evL.cons (zab (m := 15) hu rfl (hd 15 dc)) evL.nil) rfl zlT (zdE hq8) ?_
            exact zaf 16 hu hi rfl
           ·
            intro D hn hd hcl hu hi
            refine zaz rfl dc (zab (m := 14) hu rfl (hd 14 dc)) (zab (m := 16) hu rfl (hd 16 dc)) (zbh (r := q1.From + r6) (IntWalk.i64_in _ hg7)) ?_
            exact zaf 17 hu hi rfl
           ·
            intro D hn hd hcl hu hi
            refine zar zfC rfl dc (zaE (by rfl) rfl) (show _ = 1 from rfl) ?_
            exact zaf 18 hu hi rfl
           ·
            intro D hn hd hcl hu hi
            refine zaN (k := 6) zfb rfl dc (zab (m := 18) hu rfl (hd 18 dc)) rfl rfl ?_
            exact zaf 19 hu hi rfl
           ·
            intro D hn hd hcl hu hi
            refine zbe (v := .agg #[zI (q1.From + r6), zI q1.To]) (ps := [(0, .tmp 94), (1, .tmp 96)]) rfl dc (evP.cons (zab (m := 17) hu rfl (hd 17 dc)) (evP.cons (zab (m := 19) hu rfl (hd 19 dc)) evP.nil)) (fun _ => by kernel_rfl) ?_
            exact zaf 20 hu hi rfl
           ·
            intro D hn hd hcl hu hi
            refine zbe (v := .agg #[.string (zbn (zbn s1 q1.From q1.To) r4 ((zbn s1 q1.From q1.To).size : Int)), zI r5, zI ((p15.length : Int) - 1), zI (x1.length : Int), zI (q1.From + r6), zI q1.To]) (ps := [(0, .tmp 80), (1, .tmp 82), (2, .tmp 83), (3, .tmp 89), (4, .tmp 97)]) rfl dc (evP.cons (zab (m := 3) hu rfl (hd 3 dc)) (evP.cons (zab (m := 5) hu rfl (hd 5 dc)) (evP.cons (zab (m := 6) hu rfl (hd 6 dc)) (evP.cons (zab (m := 12) hu rfl (hd 12 dc)) (evP.cons (zab (m := 20) hu rfl (hd 20 dc)) evP.nil))))) (fun _ => by kernel_rfl) ?_
            exact zaf 21 hu hi rfl
           ·
            intro D hn hd hcl hu hi
            refine zah rfl dc (zaE (by rfl) rfl) ?_
            exact zaf 0 hu hi rfl
           ·
            intro D hn hd hcl hu hi
            refine zah rfl dc (zaE (by rfl) rfl) ?_
            exact zaf 1 hu hi rfl
           ·
            intro D hn hd hcl hu hi
            refine zbH (v := zI r4) (vs := [.string (zbn s1 q1.From q1.To)]) rfl dc rfl (evL.cons (zab (m := 1) hu rfl (hd 1 dc)) evL.nil) rfl zlT (zdE hq5) ?_
            exact zaf 2 hu hi rfl
           ·
            intro D hn hd hcl hu hi
            refine zeD rfl dc (zab (m := 0) hu rfl (hd 0 dc)) (evO.some (zab (m := 2) hu rfl (hd 2 dc))) zg3 (zcv (i := r4) (j := ((zbn s1 q1.From q1.To).size : Int)) Tryd.underlying9 (.inr rfl) (.inl ⟨rfl, rfl⟩) hg6) ?_
            exact zaf 3 hu hi rfl
           ·
            intro D hn hd hcl hu hi
            refine zah rfl dc (zaE (by rfl) rfl) ?_
            exact zaf 4 hu hi rfl
           ·
            intro D hn hd hcl hu hi
            refine zbH (v := zI r5) (vs := [.string (zbn s1 q1.From q1.To)]) rfl dc rfl (evL.cons (zab (m := 4) hu rfl (hd 4 dc)) evL.nil) rfl zlT (zdE hq6) ?_
            exact zaf 5 hu hi rfl
           ·
            intro D hn hd hcl hu hi
            refine zah rfl dc (zaE (by rfl) rfl) ?_
            exact zaf 6 hu hi rfl
           ·
            intro D hn hd hcl hu hi
            refine zar zbC rfl dc (zaE (by rfl) rfl) (show _ = 1 from rfl) ?_
            exact zaf 7 hu hi rfl
           ·
            intro D hn hd hcl hu hi
            refine zaN (k := 2) zc7 rfl dc (zab (m := 7) hu rfl (hd 7 dc)) rfl rfl ?_
            exact zaf 8 hu hi rfl
           ·
            intro D hn hd hcl hu hi
            refine zah rfl dc (zaE (by rfl) rfl) ?_
            exact zaf 9 hu hi rfl
           ·
            intro D hn hd hcl hu hi
            refine zce (k := 3) eq1 Tryd.underlying54 zet rfl dc (zab (m := 8) hu rfl (hd 8 dc)) (zab (m := 9) hu rfl (hd 9 dc)) rfl rfl ?_
            exact zaf 10 hu hi rfl
           ·
            intro D hn hd hcl hu hi
            refine zd2 (i := ((p15.length : Int) - 1 : Int).toNat) (j := 0) (k := 3) (q := (x1, eh1)) zeR zaL rfl dc (zab (m := 10) hu rfl (hd 10 dc)) rfl (zcq eq1) rfl dc rfl ?_
            exact zaf 11 hu hi rfl
           ·
            intro D hn hd hcl hu hi
            refine zdf (k := 8) rfl dc (zab (m := 11) hu rfl (hd 11 dc)) rfl Tryd.underlying48 ?_
            exact zaf 12 hu hi rfl
           ·
            intro D hn hd hcl hu hi
            refine zar ze3 rfl dc (zaE (by rfl) rfl) (show _ = 0 from rfl) ?_
            exact zaf 13 hu hi rfl
           ·
            intro D hn hd hcl hu hi
            refine zaN (k := 6) zfb rfl dc (zab (m := 13) hu rfl (hd 13 dc)) rfl rfl ?_
            exact zaf 14 hu hi rfl
           ·
            intro D hn hd hcl hu hi
            refine zah rfl dc (zaE (by rfl) rfl) ?_
            exact zaf 15 hu hi rfl
           ·
            intro D hn hd hcl hu hi
            refine zbH (v := zI r6) (vs := [.string (zbn s1 q1.From q1.To)]) rfl dc rfl (evL.cons (zab (m := 15) hu rfl (hd 15 dc)) evL.nil) rfl zlT (zdE hq8) ?_
            exact zaf 16 hu hi rfl
           ·
            intro D hn hd hcl hu hi
            refine zaz rfl dc (zab (m := 14) hu rfl (hd 14 dc)) (zab (m := 16) hu rfl (hd 16 dc)) (zbh (r := q1.From + r6) (IntWalk.i64_in _ hg7)) ?_
            exact zaf 17 hu hi rfl
           ·
            intro D hn hd hcl hu hi
            refine zar zfC rfl dc (zaE (by rfl) rfl) (show _ = 1 from rfl) ?_
            exact zaf 18 hu hi rfl
           ·
            intro D hn hd hcl hu hi
            refine zaN (k := 6) zfb rfl dc (zab (m := 18) hu rfl (hd 18 dc)) rfl rfl ?_
            exact zaf 19 hu hi rfl
           ·
            intro D hn hd hcl hu hi
            refine zbe (v := .agg #[zI (q1.From + r6), zI q1.To]) (ps := [(0, .tmp 94), (1, .tmp 96)]) rfl dc (evP.cons (zab (m := 17) hu rfl (hd 17 dc)) (evP.cons (zab (m := 19) hu rfl (hd 19 dc)) evP.nil)) (fun _ => by kernel_rfl) ?_
            exact zaf 20 hu hi rfl
           ·
            intro D hn hd hcl hu hi
            refine zbe (v := .agg #[.string (zbn (zbn s1 q1.From q1.To) r4 ((zbn s1 q1.From q1.To).size : Int)), zI r5, zI ((p15.length : Int) - 1), zI (x1.length : Int), zI (q1.From + r6), zI q1.To]) (ps := [(0, .tmp 80), (1, .tmp 82), (2, .tmp 83), (3, .tmp 89), (4, .tmp 97)]) rfl dc (evP.cons (zab (m := 3) hu rfl (hd 3 dc)) (evP.cons (zab (m := 5) hu rfl (hd 5 dc)) (evP.cons (zab (m := 6) hu rfl (hd 6 dc)) (evP.cons (zab (m := 12) hu rfl (hd 12 dc)) (evP.cons (zab (m := 20) hu rfl (hd 20 dc)) evP.nil))))) (fun _ => by kernel_rfl) ?_
            exact zaf 21 hu hi rfl
           ·
            intro D hn hd hcl
            refine zbl ziF rfl dc (fun b6 => ?_)
            exact fun a w ha hw => ⟨b6, zjN (by rfl) _ _ _ ha, hw⟩
           intro b6
           show TO _ _ _ _ _ _ _ _ _ _ [cells b1 [.string ByteArray.empty, .slice none 0 0] 56, cells b2 [zI 0, zI 0] 26, cells b3 [.string p10, hd13.v] 56, vec zae 48 1 hd13.v zs2, vec zam 36 6 hd10.v l4, vec zav 34 2 hd3.v r1, cells b4 [zI q1.From, zI q1.To] 34, own zag (zs2.eraseIdx (((p15.length : Int) - 1 : Int).toNat)), vec zbT 9 1 eh1.v x1, cells b6 [.string ByteArray.empty, zI 0, zI 0, zI 0, zI 0, zI 0] 36]
           refine zaZ (k := 9) (vs := [.string (zbn (zbn s1 q1.From q1.To) r4 ((zbn s1 q1.From q1.To).size : Int)), zI r5, zI ((p15.length : Int) - 1), zI (x1.length : Int), zI (q1.From + r6), zI q1.To]) (l' := [.string (zbn (zbn s1 q1.From q1.To) r4 ((zbn s1 q1.From q1.To).size : Int)), zI r5, zI ((p15.length : Int) - 1), zI (x1.length : Int), zI (q1.From + r6), zI q1.To]) zf3 rfl rfl rfl rfl rfl (show _ ≤ _ by simp) rfl rfl (zap (zaj (zas (zai (zah rfl dc rfl (zbc (k := 9) (cs := [.string (zbn (zbn s1 q1.From q1.To) r4 ((zbn s1 q1.From q1.To).size : Int)), zI r5, zI ((p15.length : Int) - 1), zI (x1.length : Int), zI (q1.From + r6), zI q1.To]) zgF rfl dc rfl rfl rfl rfl ?_))))))
           refine zbg (cs := [.string (zbn (zbn s1 q1.From q1.To) r4 ((zbn s1 q1.From q1.To).size : Int)), zI r5, zI ((p15.length : Int) - 1), zI (x1.length : Int), zI (q1.From + r6), zI q1.To]) (te := 36) (ps := [(0, .tmp 100)]) rfl dc rfl (fun _ => by kernel_rfl) (fun b7 => ?_)
           show TO _ _ _ _ _ _ _ _ _ _ [cells b1 [.string ByteArray.empty, .slice none 0 0] 56, cells b2 [zI 0, zI 0] 26, cells b3 [.string p10, hd13.v] 56, vec zae 48 1 hd13.v zs2, vec zam 36 6 hd10.v l4, vec zav 34 2 hd3.v r1, cells b4 [zI q1.From, zI q1.To] 34, own zag (zs2.eraseIdx (((p15.length : Int) - 1 : Int).toNat)), vec zbT 9 1 eh1.v x1, cells b6 [.string (zbn (zbn s1 q1.From q1.To) r4 ((zbn s1 q1.From q1.To).size : Int)), zI r5, zI ((p15.length : Int) - 1), zI (x1.length : Int), zI (q1.From + r6), zI q1.To] 36, cells b7 [.string (zbn (zbn s1 q1.From q1.To) r4 ((zbn s1 q1.From q1.To).size : Int)), zI r5, zI ((p15.length : Int) - 1), zI (x1.length : Int), zI (q1.From + r6), zI q1.To] 36]
           obtain ⟨hg8, h⟩ := zcb h
           refine zbr (k := 4) (k2 := 10) (ys := [(⟨zbn (zbn s1 q1.From q1.To) r4 ((zbn s1 q1.From q1.To).size : Int), r5, (p15.length : Int) - 1, (x1.length : Int), q1.From + r6, q1.To⟩ : Gapi_Verse)]) Tryd.underlying57 zo9 zbI zfx rfl dc rfl rfl rfl rfl rfl rfl hg8 (fun v3 => ?_)
           refine zb7 (k := 4) rfl (fun hd15 he3 => ?_)
           subst he3
           refine zak rfl dc rfl (zap (zaj (znE (k := 7) rfl (zal [8] kr rfl) rfl (znc (nest := zag) (zcq eq1) rfl) ?_)))
           show TC _ _ _ _ _ _ _ _ _ [cells b1 [.string ByteArray.empty, .slice none 0 0] 56, cells b2 [zI 0, zI 0] 26, cells b3 [.string p10, hd13.v] 56, vec zae 48 1 hd13.v zs2, vec zam 36 6 hd15.v (l4 ++ [(⟨zbn (zbn s1 q1.From q1.To) r4 ((zbn s1 q1.From q1.To).size : Int), r5, (p15.length : Int) - 1, (x1.length : Int), q1.From + r6, q1.To⟩ : Gapi_Verse)]), vec zav 34 2 hd3.v r1, cells b4 [zI q1.From, zI q1.To] 34, own zag zs2, emp, cells b6 [.string (zbn (zbn s1 q1.From q1.To) r4 ((zbn s1 q1.From q1.To).size : Int)), zI r5, zI ((p15.length : Int) - 1), zI (x1.length : Int), zI (q1.From + r6), zI q1.To] 36, cells b7 [.string (zbn (zbn s1 q1.From q1.To) r4 ((zbn s1 q1.From q1.To).size : Int)), zI r5, zI ((p15.length : Int) - 1), zI (x1.length : Int), zI (q1.From + r6), zI q1.To] 36]
           obtain ⟨x2, hq9, h⟩ := zbN h
           obtain ⟨eh2, eq2⟩ := zeb hz2 hq9
           obtain ⟨hg9, h⟩ := zcb h
           refine zeN (k := 7) rfl (znd (zcq eq2)) (fun _ _ => ?_)
           show TC _ _ _ _ _ _ _ _ _ [cells b1 [.string ByteArray.empty, .slice none 0 0] 56, cells b2 [zI 0, zI 0] 26, cells b3 [.string p10, hd13.v] 56, vec zae 48 1 hd13.v zs2, vec zam 36 6 hd15.v (l4 ++ [(⟨zbn (zbn s1 q1.From q1.To) r4 ((zbn s1 q1.From q1.To).size : Int), r5, (p15.length : Int) - 1, (x1.length : Int), q1.From + r6, q1.To⟩ : Gapi_Verse)]), vec zav 34 2 hd3.v r1, cells b4 [zI q1.From, zI q1.To] 34, own zag (zs2.eraseIdx (((p15.length : Int) - 1 : Int).toNat)), emp, cells b6 [.string (zbn (zbn s1 q1.From q1.To) r4 ((zbn s1 q1.From q1.To).size : Int)), zI r5, zI ((p15.length : Int) - 1), zI (x1.length : Int), zI (q1.From + r6), zI q1.To] 36, cells b7 [.string (zbn (zbn s1 q1.From q1.To) r4 ((zbn s1 q1.From q1.To).size : Int)), zI r5, zI ((p15.length : Int) - 1), zI (x1.length : Int), zI (q1.From + r6), zI q1.To] 36, vec zbT 9 1 eh2.v x2]
           refine zha 1 ?_
           show TC _ _ _ _ _ _ _ _ _ [cells b1 [.string ByteArray.empty, .slice none 0 0] 56, cells b2 [zI 0, zI 0] 26, cells b3 [.string p10, hd13.v] 56, vec zae 48 1 hd13.v zs2, vec zam 36 6 hd15.v (l4 ++ [(⟨zbn (zbn s1 q1.From q1.To) r4 ((zbn s1 q1.From q1.To).size : Int), r5, (p15.length : Int) - 1, (x1.length : Int), q1.From + r6, q1.To⟩ : Gapi_Verse)]), vec zav 34 2 hd3.v r1, cells b4 [zI q1.From, zI q1.To] 34, own zag (zs2.eraseIdx (((p15.length : Int) - 1 : Int).toNat)), emp, cells b6 [.string (zbn (zbn s1 q1.From q1.To) r4 ((zbn s1 q1.From q1.To).size : Int)), zI r5, zI ((p15.length : Int) - 1), zI (x1.length : Int), zI (q1.From + r6), zI q1.To] 36, cells b7 [.string (zbn (zbn s1 q1.From q1.To) r4 ((zbn s1 q1.From q1.To).size : Int)), zI r5, zI ((p15.length : Int) - 1), zI (x1.length : Int), zI (q1.From + r6), zI q1.To] 36, vec zbT 9 1 eh2.v x2, emp]
           refine let vals1 : (Nat × Hd) → List (Nat × Nat × Value) := fun b => [(0, 103, .pointer (some ⟨b3, 1, none⟩)), (1, 104, hd13.v), (2, 105, zI ((p15.length : Int) - 1)), (3, 106, .pointer (some ⟨b3, 1, none⟩)), (4, 107, hd13.v), (5, 108, zI ((p15.length : Int) - 1)), (6, 109, .pointer (some ⟨zff hd13.v, ((p15.length : Int) - 1 : Int).toNat * 1, none⟩)), (7, 110, eh2.v), (8, 111, .string (zbn s1 q1.From q1.To)), (9, 112, .slice (some ⟨b.1, 0, none⟩) 1 1), (10, 113, b.2.v)]; let LL1 : (Nat → Prop) → (Nat × Hd) → List Asn := fun D b => [cells b1 [.string ByteArray.empty, .slice none 0 0] 56, cells b2 [zI 0, zI 0] 26, cells b3 [.string p10, hd13.v] 56, vec zae 48 1 hd13.v zs2, vec zam 36 6 hd15.v (l4 ++ [(⟨zbn (zbn s1 q1.From q1.To) r4 ((zbn s1 q1.From q1.To).size : Int), r5, (p15.length : Int) - 1, (x1.length : Int), q1.From + r6, q1.To⟩ : Gapi_Verse)]), vec zav 34 2 hd3.v r1, cells b4 [zI q1.From, zI q1.To] 34, own zag (zs2.eraseIdx (((p15.length : Int) - 1 : Int).toNat)), emp, cells b6 [.string (zbn (zbn s1 q1.From q1.To) r4 ((zbn s1 q1.From q1.To).size : Int)), zI r5, zI ((p15.length : Int) - 1), zI (x1.length : Int), zI (q1.From + r6), zI q1.To] 36, cells b7 [.string (zbn (zbn s1 q1.From q1.To) r4 ((zbn s1 q1.From q1.To).size : Int)), zI r5, zI ((p15.length : Int) - 1), zI (x1.length : Int), zI (q1.From + r6), zI q1.To] 36, eD D (vec zbT 9 1 eh2.v x2) [(10, vec zbT 9 1 b.2.v (x2 ++ [zbn s1 q1.From q1.To]))], eD D emp [(9, cells b.1 [.string (zbn s1 q1.From q1.To)] 9)]]; ?_
           refine zfa (β := Nat × Hd) 11 ((0 : Nat), Hd.nil) vals1 LL1 mixed kr kr dc (fun _ => rfl) (zaa rfl (zaa rfl (zaa rfl (zaa rfl (zaa rfl (zaa rfl (zaa rfl (zaa rfl (zaa rfl (zaa rfl (zaa rfl (zaa zdi (zaa zdi rfl))))))))))))) (zaC ?_ (zaC ?_ (zaC ?_ (zaC ?_ (zaC ?_ (zaC ?_ (zaC ?_ (zaC ?_ (zaC ?_ (zaC ?_ (zaC ?_ DrawG.nil))))))))))) ?_
           ·
            intro D b hn hd hcl
            obtain ⟨b8, hd16⟩ := b
            refine zaQ rfl (zar zbC rfl dc (zaE (by rfl) rfl) (show _ = 1 from rfl) ?_)
            exact zaR (b8, hd16) 0 (by rfl) (by rfl) rfl (congrArg (dl D) rfl) (zaa rfl (zaa rfl (zaa rfl (zaa rfl (zaa rfl (zaa rfl (zaa rfl (zaa rfl (zaa rfl (zaa rfl (zaa rfl (zaa ((zax (by rfl)).trans rfl) (zaa ((zax (by rfl)).trans rfl) rfl)))))))))))))
           ·
            intro D b hn hd hcl
            obtain ⟨b8, hd16⟩ := b
            refine zaQ rfl (zaN (k := 2) zc7 rfl dc (zab (m := 0) rfl rfl (hd 0 dc)) rfl rfl ?_)
            exact zaR (b8, hd16) 1 (by rfl) (by rfl) rfl (congrArg (dl D) rfl) (zaa rfl (zaa rfl (zaa rfl (zaa rfl (zaa rfl (zaa rfl (zaa rfl (zaa rfl (zaa rfl (zaa rfl (zaa rfl (zaa ((zax (by rfl)).trans rfl) (zaa ((zax (by rfl)).trans rfl) rfl)))))))))))))
           ·
            intro D b hn hd hcl
            obtain ⟨b8, hd16⟩ := b
            refine zaQ rfl (zah rfl dc (zaE (by rfl) rfl) ?_)
            exact zaR (b8, hd16) 2 (by rfl) (by rfl) rfl (congrArg (dl D) rfl) (zaa rfl (zaa rfl (zaa rfl (zaa rfl (zaa rfl (zaa rfl (zaa rfl (zaa rfl (zaa rfl (zaa rfl (zaa rfl (zaa ((zax (by rfl)).trans rfl) (zaa ((zax (by rfl)).trans rfl) rfl)))))))))))))
           ·
            intro D b hn hd hcl
            obtain ⟨b8, hd16⟩ := b
            refine zaQ (zaa rfl (zaa rfl (zaa rfl (zaa rfl (zaa rfl (zaa rfl (zaa rfl (zaa rfl (zaa rfl (zaa rfl (zaa rfl (zaa (zaq (fun hD => hn (hcl 4 _ rfl (hcl 6 _ rfl (hcl 7 _ rfl (hcl 10 _ rfl hD 7 dc) 6 dc) 4 dc) 3 dc)) zaw) rfl)))))))))))) ?_
            refine zar zbC rfl dc (zaE (by rfl) rfl) (show _ = 1 from rfl) ?_
            exact zaR (b8, hd16) 3 (by rfl) (by rfl) rfl (congrArg (dl D) rfl) (zaa rfl (zaa rfl (zaa rfl (zaa rfl (zaa rfl (zaa rfl (zaa rfl (zaa rfl (zaa rfl (zaa rfl (zaa rfl (zaa ((zax (by rfl)).trans (zaq (fun hD => hn (hcl 4 _ rfl (hcl 6 _ rfl (hcl 7 _ rfl (hcl 10 _ rfl hD 7 dc) 6 dc) 4 dc) 3 dc)) zaw)) (zaa ((zax (by rfl)).trans rfl) rfl)))))))))))))
           ·
            intro D b hn hd hcl
            obtain ⟨b8, hd16⟩ := b
            refine zaQ (zaa rfl (zaa rfl (zaa rfl (zaa rfl (zaa rfl (zaa rfl (zaa rfl (zaa rfl (zaa rfl (zaa rfl (zaa rfl (zaa (zaq (fun hD => hn (hcl 6 _ rfl (hcl 7 _ rfl (hcl 10 _ rfl hD 7 dc) 6 dc) 4 dc)) zaw) rfl)))))))))))) ?_
            refine zaN (k := 2) zc7 rfl dc (zab (m := 3) rfl rfl (hd 3 dc)) rfl rfl ?_
            exact zaR (b8, hd16) 4 (by rfl) (by rfl) rfl (congrArg (dl D) rfl) (zaa rfl (zaa rfl (zaa rfl (zaa rfl (zaa rfl (zaa rfl (zaa rfl (zaa rfl (zaa rfl (zaa rfl (zaa rfl (zaa ((zax (by rfl)).trans (zaq (fun hD => hn (hcl 6 _ rfl (hcl 7 _ rfl (hcl 10 _ rfl hD 7 dc) 6 dc) 4 dc)) zaw)) (zaa ((zax (by rfl)).trans rfl) rfl)))))))))))))
           ·
            intro D b hn hd hcl
            obtain ⟨b8, hd16⟩ := b
            refine zaQ (zaa rfl (zaa rfl (zaa rfl (zaa rfl (zaa rfl (zaa rfl (zaa rfl (zaa rfl (zaa rfl (zaa rfl (zaa rfl (zaa (zaq (fun hD => hn (hcl 6 _ rfl (hcl 7 _ rfl (hcl 10 _ rfl hD 7 dc) 6 dc) 5 dc)) zaw) rfl)))))))))))) ?_
            refine zah rfl dc (zaE (by rfl) rfl) ?_
            exact zaR (b8, hd16) 5 (by rfl) (by rfl) rfl (congrArg (dl D) rfl) (zaa rfl (zaa rfl (zaa rfl (zaa rfl (zaa rfl (zaa rfl (zaa rfl (zaa rfl (zaa rfl (zaa rfl (zaa rfl (zaa ((zax (by rfl)).trans (zaq (fun hD => hn (hcl 6 _ rfl (hcl 7 _ rfl (hcl 10 _ rfl hD 7 dc) 6 dc) 5 dc)) zaw)) (zaa ((zax (by rfl)).trans rfl) rfl)))))))))))))
           ·
            intro D b hn hd hcl
            obtain ⟨b8, hd16⟩ := b
            refine zaQ (zaa rfl (zaa rfl (zaa rfl (zaa rfl (zaa rfl (zaa rfl (zaa rfl (zaa rfl (zaa rfl (zaa rfl (zaa rfl (zaa (zaq (fun hD => hn (hcl 7 _ rfl (hcl 10 _ rfl hD 7 dc) 6 dc)) zaw) rfl)))))))))))) ?_
            refine zce (k := 3) eq2 Tryd.underlying54 zet rfl dc (zab (m := 4) rfl rfl (hd 4 dc)) (zab (m := 5) rfl rfl (hd 5 dc)) rfl rfl ?_
            exact zaR (b8, hd16) 6 (by rfl) (by rfl) rfl (congrArg (dl D) rfl) (zaa rfl (zaa rfl (zaa rfl (zaa rfl (zaa rfl (zaa rfl (zaa rfl (zaa rfl (zaa rfl (zaa rfl (zaa rfl (zaa ((zax (by rfl)).trans (zaq (fun hD => hn (hcl 7 _ rfl (hcl 10 _ rfl hD 7 dc) 6 dc)) zaw)) (zaa ((zax (by rfl)).trans rfl) rfl)))))))))))))
           ·
            intro D b hn hd hcl
            obtain ⟨b8, hd16⟩ := b
            refine zaQ (zaa rfl (zaa rfl (zaa rfl (zaa rfl (zaa rfl (zaa rfl (zaa rfl (zaa rfl (zaa rfl (zaa rfl (zaa rfl (zaa (zaq (fun hD => hn (hcl 10 _ rfl hD 7 dc)) zaw) rfl)))))))))))) ?_
            refine zd2 (i := ((p15.length : Int) - 1 : Int).toNat) (j := 0) (k := 3) (q := (x2, eh2)) zeR zaL rfl dc (zab (m := 6) rfl rfl (hd 6 dc)) rfl (zcq eq2) rfl dc rfl ?_
            exact zaR (b8, hd16) 7 (by rfl) (by rfl) rfl (congrArg (dl D) rfl) (zaa rfl (zaa rfl (zaa rfl (zaa rfl (zaa rfl (zaa rfl (zaa rfl (zaa rfl (zaa rfl (zaa rfl (zaa rfl (zaa ((zax (by rfl)).trans (zaq (fun hD => hn (hcl 10 _ rfl hD 7 dc)) zaw)) (zaa ((zax (by rfl)).trans rfl) rfl)))))))))))))
           ·
            intro D b hn hd hcl
            obtain ⟨b8, hd16⟩ := b
            refine zaQ (zaa rfl (zaa rfl (zaa rfl (zaa rfl (zaa rfl (zaa rfl (zaa rfl (zaa rfl (zaa rfl (zaa rfl (zaa rfl (zaa (zaq (fun hD => hn (hcl 9 _ rfl (hcl 10 _ rfl hD 9 dc) 8 dc)) zaw) (zaa (zaq (fun hD => hn (hcl 9 _ rfl hD 8 dc)) zaw) rfl))))))))))))) ?_
            refine zah rfl dc (zaE (by rfl) rfl) ?_
            exact zaR (b8, hd16) 8 (by rfl) (by rfl) rfl (congrArg (dl D) rfl) (zaa rfl (zaa rfl (zaa rfl (zaa rfl (zaa rfl (zaa rfl (zaa rfl (zaa rfl (zaa rfl (zaa rfl (zaa rfl (zaa ((zax (by rfl)).trans (zaq (fun hD => hn (hcl 9 _ rfl (hcl 10 _ rfl hD 9 dc) 8 dc)) zaw)) (zaa ((zax (by rfl)).trans (zaq (fun hD => hn (hcl 9 _ rfl hD 8 dc)) zaw)) rfl)))))))))))))
           ·
            intro D b hn hd hcl
            obtain ⟨_, hd16⟩ := b
            refine zaQ (zaa rfl (zaa rfl (zaa rfl (zaa rfl (zaa rfl (zaa rfl (zaa rfl (zaa rfl (zaa rfl (zaa rfl (zaa rfl (zaa (zaq (fun hD => hn (hcl 10 _ rfl hD 9 dc)) zaw) (zaa (zaq hn zaw) rfl))))))))))))) ?_
            refine zbg (cs := [.string (zbn s1 q1.From q1.To)]) (te := 9) (ps := [(0, .tmp 111)]) rfl dc (evP.cons (zab (m := 8) rfl rfl (hd 8 dc)) evP.nil) (fun _ => by kernel_rfl) (fun b8 => ?_)
            refine zd5 12 rfl rfl ?_
            show TO _ _ _ _ _ _ _ _ _ _ [cells b1 [.string ByteArray.empty, .slice none 0 0] 56, cells b2 [zI 0, zI 0] 26, cells b3 [.string p10, hd13.v] 56, vec zae 48 1 hd13.v zs2, vec zam 36 6 hd15.v (l4 ++ [(⟨zbn (zbn s1 q1.From q1.To) r4 ((zbn s1 q1.From q1.To).size : Int), r5, (p15.length : Int) - 1, (x1.length : Int), q1.From + r6, q1.To⟩ : Gapi_Verse)]), vec zav 34 2 hd3.v r1, cells b4 [zI q1.From, zI q1.To] 34, own zag (zs2.eraseIdx (((p15.length : Int) - 1 : Int).toNat)), emp, cells b6 [.string (zbn (zbn s1 q1.From q1.To) r4 ((zbn s1 q1.From q1.To).size : Int)), zI r5, zI ((p15.length : Int) - 1), zI (x1.length : Int), zI (q1.From + r6), zI q1.To] 36, cells b7 [.string (zbn (zbn s1 q1.From q1.To) r4 ((zbn s1 q1.From q1.To).size : Int)), zI r5, zI ((p15.length : Int) - 1), zI (x1.length : Int), zI (q1.From + r6), zI q1.To] 36, vec zbT 9 1 eh2.v x2, cells b8 [.string (zbn s1 q1.From q1.To)] 9]
            exact zaR (b8, hd16) 9 (by rfl) (by rfl) rfl (zao (fun _ => rfl) (zao (fun _ => rfl) (zao (fun _ => rfl) (zao (fun _ => rfl) (zao (fun _ => rfl) (zao (fun _ => rfl) (zao (fun _ => rfl) (zao (fun _ => rfl) (zao (fun _ => rfl) (zao (fun hD => absurd hD hn) (zao (fun _ => rfl) rfl))))))))))) (zaa rfl (zaa rfl (zaa rfl (zaa rfl (zaa rfl (zaa rfl (zaa rfl (zaa rfl (zaa rfl (zaa rfl (zaa rfl (zaa ((zax (by rfl)).trans (zaq (fun hD => hn (hcl 10 _ rfl hD 9 dc)) zaw)) (zaa (zbb (Or.inr rfl) rfl) rfl)))))))))))))
           ·
            intro D b hn hd hcl
            obtain ⟨b8, _⟩ := b
            refine zaQ (zaa rfl (zaa rfl (zaa rfl (zaa rfl (zaa rfl (zaa rfl (zaa rfl (zaa rfl (zaa rfl (zaa rfl (zaa rfl (zaa (zaq hn zaw) (zaa (zbb (hd 9 dc) rfl) rfl))))))))))))) ?_
            refine zbr (k := 11) (k2 := 12) (ys := [zbn s1 q1.From q1.To]) Tryd.underlying48 zpl zgp zhQ rfl dc (zab (m := 7) rfl rfl (hd 7 dc)) (zab (m := 9) rfl rfl (hd 9 dc)) rfl rfl rfl rfl hg9 (fun v4 => ?_)
            refine zb7 (k := 11) rfl (fun hd16 he4 => ?_)
            subst he4
            exact zaR (b8, hd16) 10 (by rfl) (by rfl) rfl (zao (fun _ => rfl) (zao (fun _ => rfl) (zao (fun _ => rfl) (zao (fun _ => rfl) (zao (fun _ => rfl) (zao (fun _ => rfl) (zao (fun _ => rfl) (zao (fun _ => rfl) (zao (fun _ => rfl) (zao (fun _ => rfl) (zao (fun hD => absurd hD hn) rfl))))))))))) (zaa rfl (zaa rfl (zaa rfl (zaa rfl (zaa rfl (zaa rfl (zaa rfl (zaa rfl (zaa rfl (zaa rfl (zaa rfl (zaa (zbb (Or.inr rfl) rfl) (zaa ((zax (by rfl)).trans (zbb (hd 9 dc) rfl)) rfl)))))))))))))
           intro D b hall
           obtain ⟨b8, hd16⟩ := b
           refine zaQ (zaa rfl (zaa rfl (zaa rfl (zaa rfl (zaa rfl (zaa rfl (zaa rfl (zaa rfl (zaa rfl (zaa rfl (zaa rfl (zaa (zbb (hall 10 dc) rfl) (zaa (zbb (hall 9 dc) rfl) rfl))))))))))))) (zce (k := 3) eq2 Tryd.underlying54 zet rfl dc rfl rfl rfl rfl ?_)
           refine zfW (i := ((p15.length : Int) - 1 : Int).toNat) (j := 0) (k := 3) (q := (x2, eh2)) (q' := (x2 ++ [zbn s1 q1.From q1.To], hd16)) zet zaL rfl rfl rfl rfl (zcq eq2) rfl dc rfl (fun _ _ => rfl) ?_
           show TO _ _ _ _ _ _ _ _ _ _ [cells b1 [.string ByteArray.empty, .slice none 0 0] 56, cells b2 [zI 0, zI 0] 26, cells b3 [.string p10, hd13.v] 56, vec zae 48 1 hd13.v (zs2.set (((p15.length : Int) - 1 : Int).toNat) (x2 ++ [zbn s1 q1.From q1.To], hd16)), vec zam 36 6 hd15.v (l4 ++ [(⟨zbn (zbn s1 q1.From q1.To) r4 ((zbn s1 q1.From q1.To).size : Int), r5, (p15.length : Int) - 1, (x1.length : Int), q1.From + r6, q1.To⟩ : Gapi_Verse)]), vec zav 34 2 hd3.v r1, cells b4 [zI q1.From, zI q1.To] 34, own zag (zs2.eraseIdx (((p15.length : Int) - 1 : Int).toNat)), emp, cells b6 [.string (zbn (zbn s1 q1.From q1.To) r4 ((zbn s1 q1.From q1.To).size : Int)), zI r5, zI ((p15.length : Int) - 1), zI (x1.length : Int), zI (q1.From + r6), zI q1.To] 36, cells b7 [.string (zbn (zbn s1 q1.From q1.To) r4 ((zbn s1 q1.From q1.To).size : Int)), zI r5, zI ((p15.length : Int) - 1), zI (x1.length : Int), zI (q1.From + r6), zI q1.To] 36, vec zbT 9 1 hd16.v (x2 ++ [zbn s1 q1.From q1.To]), cells b8 [.string (zbn s1 q1.From q1.To)] 9]
           refine zei (k := 7) rfl (zal [11] kr rfl) rfl (znc (nest := zag) (zs := zs2) (z := (x2 ++ [zbn s1 q1.From q1.To], hd16)) (zkB (zcq eq2)) zh2) ?_
           show TO _ _ _ _ _ _ _ _ _ _ [cells b1 [.string ByteArray.empty, .slice none 0 0] 56, cells b2 [zI 0, zI 0] 26, cells b3 [.string p10, hd13.v] 56, vec zae 48 1 hd13.v (zs2.set (((p15.length : Int) - 1 : Int).toNat) (x2 ++ [zbn s1 q1.From q1.To], hd16)), vec zam 36 6 hd15.v (l4 ++ [(⟨zbn (zbn s1 q1.From q1.To) r4 ((zbn s1 q1.From q1.To).size : Int), r5, (p15.length : Int) - 1, (x1.length : Int), q1.From + r6, q1.To⟩ : Gapi_Verse)]), vec zav 34 2 hd3.v r1, cells b4 [zI q1.From, zI q1.To] 34, own zag (zs2.set (((p15.length : Int) - 1 : Int).toNat) (x2 ++ [zbn s1 q1.From q1.To], hd16)), emp, cells b6 [.string (zbn (zbn s1 q1.From q1.To) r4 ((zbn s1 q1.From q1.To).size : Int)), zI r5, zI ((p15.length : Int) - 1), zI (x1.length : Int), zI (q1.From + r6), zI q1.To] 36, cells b7 [.string (zbn (zbn s1 q1.From q1.To) r4 ((zbn s1 q1.From q1.To).size : Int)), zI r5, zI ((p15.length : Int) - 1), zI (x1.length : Int), zI (q1.From + r6), zI q1.To] 36, emp, cells b8 [.string (zbn s1 q1.From q1.To)] 9]
           refine zap (zaA (zlp (k := 3) rfl (zal [7] kr rfl) rfl (zit (enc := zae) (nest := zag) (zps hz2)) ?_))
           show TX _ _ _ _ _ _ _ [cells b1 [.string ByteArray.empty, .slice none 0 0] 56, cells b2 [zI 0, zI 0] 26, cells b3 [.string p10, hd13.v] 56, zbx zae zag 48 1 hd13.v (p15.set ((p15.length : Int) - 1 : Int).toNat (x2 ++ [zbn s1 q1.From q1.To])), vec zam 36 6 hd15.v (l4 ++ [(⟨zbn (zbn s1 q1.From q1.To) r4 ((zbn s1 q1.From q1.To).size : Int), r5, (p15.length : Int) - 1, (x1.length : Int), q1.From + r6, q1.To⟩ : Gapi_Verse)]), vec zav 34 2 hd3.v r1, cells b4 [zI q1.From, zI q1.To] 34, emp, emp, cells b6 [.string (zbn (zbn s1 q1.From q1.To) r4 ((zbn s1 q1.From q1.To).size : Int)), zI r5, zI ((p15.length : Int) - 1), zI (x1.length : Int), zI (q1.From + r6), zI q1.To] 36, cells b7 [.string (zbn (zbn s1 q1.From q1.To) r4 ((zbn s1 q1.From q1.To).size : Int)), zI r5, zI ((p15.length : Int) - 1), zI (x1.length : Int), zI (q1.From + r6), zI q1.To] 36, emp, cells b8 [.string (zbn s1 q1.From q1.To)] 9]
           exact zaO (p10, p15.set ((p15.length : Int) - 1 : Int).toNat (x2 ++ [zbn s1 q1.From q1.To]), l4 ++ [(⟨zbn (zbn s1 q1.From q1.To) r4 ((zbn s1 q1.From q1.To).size : Int), r5, (p15.length : Int) - 1, (x1.length : Int), q1.From + r6, q1.To⟩ : Gapi_Verse)], false, true, hd13, hd15) h rfl (zad rfl (zad rfl (zad rfl (zad rfl (zad rfl (zad rfl (zad rfl (zad rfl (zad rfl (zaH)))))))))) (zal [0, 1, 2, 3, 4, 5] kr rfl)
     ·
      rintro ⟨p12, p13, l5, first4, row4, hd11, hd12⟩ h
      rw [hj2] at h
      show TC _ _ _ _ _ ([]) _ _ [(0, .string s1), (2, zP b1), (4, zP b2), (5, zP b3), (6, hd12.v), (7, hd3.v), (8, .bool first4), (9, .bool row4), (10, zI i3)] [cells b1 [.string ByteArray.empty, .slice none 0 0] 56, cells b2 [zI 0, zI 0] 26, cells b3 [.string p12, hd11.v] 56, zbx zae zag 48 1 hd11.v p13, vec zam 36 6 hd12.v l5, vec zav 34 2 hd3.v r1]
      refine zai (zah rfl dc rfl ?_)
      obtain ⟨hg10, h⟩ := zcb h
      refine zaz rfl dc rfl rfl (zbh (r := i3 + 1) (IntWalk.i64_in _ hg10)) (zak rfl dc rfl (zap ?_))
      subst hag1
      exact zbj (n1, p12, p13, l5, first4, row4, i3 + 1, hd11, hd12) h (Nat.lt_succ_self _) rfl (zad rfl (zad rfl (zad rfl (zad rfl (zad rfl (zad rfl (zad rfl (zad rfl (zad rfl (zaH)))))))))) (zal [0, 1, 2, 3, 4, 5] kr rfl)
    ·
     have h := za1 hb2 h
     refine zby (zaJ (zaJ (zaV ?_)))
     exact zaO (p10, p11, l4, hd9, hd10) h rfl (zad rfl (zad rfl (zad rfl (zad rfl (zaH))))) (zal [0, 1, 2, 3, 4] kr rfl)
  ·
   rintro ⟨p1, p2, l1, hd1, hd2⟩ h
   rw [hj1] at h
   show TC _ _ _ _ _ ([]) _ _ [(2, zP b1), (4, zP b2), (5, zP b3), (6, hd2.v)] [cells b1 [.string ByteArray.empty, .slice none 0 0] 56, cells b2 [zI 0, zI 0] 26, cells b3 [.string p1, hd1.v] 56, zbx zae zag 48 1 hd1.v p2, vec zam 36 6 hd2.v l1]
   refine zas (zai (zbc (k := 2) (cs := [.string p1, hd1.v]) zcw rfl dc rfl rfl rfl rfl (zah rfl dc rfl ?_)))
   refine zbe (v := .agg #[zI 0, zI 0]) (ps := []) rfl dc rfl (fun _ => by kernel_rfl) ?_
   refine zaZ (k := 0) (vs := [.string p1, hd1.v]) (l' := [.string p1, hd1.v]) zeG rfl rfl rfl rfl rfl (show _ ≤ _ by simp) rfl rfl (zak rfl dc rfl (zaZ (k := 1) (vs := [zI 0, zI 0]) (l' := [zI 0, zI 0]) zf7 rfl rfl rfl rfl rfl (show _ ≤ _ by simp) rfl rfl ?_))
   show TO _ _ _ _ _ _ _ _ _ _ [cells b1 [.string p1, hd1.v] 56, cells b2 [zI 0, zI 0] 26, cells b3 [.string p1, hd1.v] 56, zbx zae zag 48 1 hd1.v p2, vec zam 36 6 hd2.v l1]
   refine zap (zaj (zaX ?_))
   cases h
   exact za3 (rs := [.cell 2 56, .tmp 3, .cell 4 26]) (hd1, hd2.v) (.inl rfl) Tryd.results30 (.cons (.cells zcw (k := 0) rfl rfl rfl) (.cons (.tmp rfl) (.cons (.cells zhA (k := 1) rfl rfl rfl) .nil))) rfl (zal [3, 4] kr rfl)
end Go.Proofs.YtgfkogafkhbgnaaDoor
namespace Go.Proofs.YtgfkogafkhbgnaaDoor
open Go.RowKit Go.Lib
set_option linter.unusedVariables false
set_option linter.unusedSimpArgs false
/-! ### Texts of bytes -/
def mkB (l : List UInt8) : ByteArray := ⟨l.toArray⟩
theorem zgn (l : List UInt8) : (mkB l).data.toList = l := rfl
theorem za7 (l : List UInt8) : (mkB l).size = l.length := by rw [← ziu, zgn]
theorem zfm {a b : List UInt8} (h : mkB a = mkB b) : a = b := by
  have := congrArg (fun s : ByteArray => s.data.toList) h
  exact this
theorem zjE (l : List UInt8) (i j : Nat) : zbn (mkB l) (i : Int) (j : Int) = mkB ((l.drop i).take (j - i)) := by
  unfold zbn
  have h : ∀ a b : ByteArray, a.data.toList = b.data.toList → a = b := fun a b h => by
    have : mkB a.data.toList = mkB b.data.toList := by rw [h]
    exact this
  apply h
  rw [zgn]
  simp only [Int.toNat_natCast, ByteArray.data_extract, Array.toList_extract, List.extract, zgn]
theorem zis (l : List UInt8) (i : Nat) : zbn (mkB l) (i : Int) ((mkB l).size : Int) = mkB (l.drop i) := by
  rw [zjE, za7, List.take_of_length_le (by rw [List.length_drop]; omega)]

/-! ### Blank lines -/
def isB (b : UInt8) : Bool := b == 32 || b == 9
def zg9 (l : List UInt8) : Bool := l.all isB
theorem zgB {p : UInt8 → Bool} : ∀ {l : List UInt8} {c : UInt8} {t : List UInt8}, l.dropWhile p = c :: t → p c = false
  | [], c, t, h => by cases h
  | b :: l, c, t, h => by
    rw [List.dropWhile_cons] at h
    split at h
    · exact zgB h
    · rename_i hb
      rw [← (List.cons.inj h).1]; simpa using hb
theorem ze8 {p : UInt8 → Bool} : ∀ (l : List UInt8), l.dropWhile p = [] ↔ l.all p = true
  | [] => by simp
  | b :: l => by
    rw [List.dropWhile_cons, List.all_cons]
    split
    · rename_i h; rw [ze8 l, h, Bool.true_and]
    · rename_i h; rw [Bool.not_eq_true] at h; rw [h]; simp
theorem ziR (l : List UInt8) : Lib.trimS l [32, 9] = [] ↔ zg9 l = true := by
  have hc : (fun x => ([32, 9] : List UInt8).contains x) = isB := by
    funext x; unfold isB; simp only [List.contains_cons, List.contains_nil, Bool.or_false]
  unfold Lib.trimS Lib.trimLeftS Lib.trimRightS zg9
  rw [hc]
  cases hd : l.reverse.dropWhile isB with
  | nil =>
    have := (ze8 l.reverse).1 hd
    rw [List.all_reverse] at this
    rw [this]; simp
  | cons c t =>
    have h1 := zgB hd
    rw [ze8, List.all_reverse, List.all_cons, h1]
    have h2 : l.all isB = false := by
      cases h : l.all isB with
      | false => rfl
      | true =>
        rw [← List.all_reverse, ← ze8, hd] at h; cases h
    rw [h2]; simp
theorem zkR (l : List UInt8) (h : l.length ≤ 9223372036854775807) : zd8 (mkB l) = some (zg9 l) := by
  unfold zd8
  refine zcD (by rw [za7]; exact h) (congrArg some ?_)
  unfold zk4
  rw [zgn]
  have : (⟨(Lib.trimS l [32, 9]).toArray⟩ : ByteArray) = mkB (Lib.trimS l [32, 9]) := rfl
  rw [this, show (⟨#[]⟩ : ByteArray) = mkB [] from rfl]
  cases hb : zg9 l with
  | true => exact decide_eq_true (by rw [(ziR l).2 hb])
  | false => exact decide_eq_false (fun e => by have := (ziR l).1 (zfm e); rw [hb] at this; cases this)
/-- A loop that looks at a text's bytes one by one. -/
theorem zkn {R : Type} {F : (Int → Option R) → Int → Option R} {bot : Int → Option R} (l : List UInt8) (g : UInt8 → Option (Option R)) (J : Option R)
    (hs : ∀ ag (i : Nat) b t, l.drop i = b :: t → F ag (i : Int) = (g b).getD (ag ((i + 1 : Nat) : Int))) (he : ∀ ag, F ag (l.length : Int) = J) :
    ∀ (n i : Nat), i ≤ l.length → l.length - i < n → za8 bot F n (i : Int) = ((l.drop i).findSome? g).getD J := by
  intro n
  induction n with
  | zero => intro i h1 h2; omega
  | succ n ih =>
    intro i hi hn
    rw [zbt]
    cases hd : l.drop i with
    | nil =>
      have : l.length ≤ i := List.drop_eq_nil_iff.1 hd
      obtain rfl : i = l.length := by omega
      rw [he]; rfl
    | cons b t =>
      have hlt : i < l.length := by
        rcases Nat.lt_or_ge i l.length with h | h
        · exact h
        · rw [List.drop_eq_nil_of_le h] at hd; cases hd
      rw [hs _ i b t hd, List.findSome?_cons]
      cases hg : g b with
      | some x => rfl
      | none =>
        show za8 bot F n _ = _
        rw [ih (i + 1) (by omega) (by omega), zeU hd]
theorem zp1 {l : List UInt8} (h : l.length ≤ 1073741824) : l.length - 0 < zb0 := by unfold zb0; omega
theorem ziZ (l : List UInt8) (h : l.length ≤ 1073741824) : zdo (mkB l) = some (zg9 l) := by
  unfold zdo
  refine zcC ?_
  refine (zkn l (fun b => if isB b then none else some (some false)) (some true) (fun ag i b t hd => ?_) (fun ag => ?_) zb0 0 (Nat.zero_le _) (zp1 h)).trans ?_
  · unfold zdx
    obtain ⟨hb, hlt⟩ := ze1 (s := mkB l) hd
    refine zaY (decide_eq_true (by omega)) (zcC (za9 hb ?_))
    rw [za7] at hlt
    have go : (grd (I64 ((i : Int) + 1)) <| ag ((i : Int) + 1)) = ag ((i + 1 : Nat) : Int) := zcD ⟨by omega, by omega⟩ (by rw [show (i : Int) + 1 = ((i + 1 : Nat) : Int) by omega])
    unfold isB
    by_cases h32 : b = 32
    · refine zaT (by unfold bne; rw [n32, decide_eq_true h32]; rfl) ?_
      rw [h32]; exact go
    · refine zaY (by unfold bne; rw [n32, decide_eq_false h32]; rfl) ?_
      rw [beq_eq_false_iff_ne.2 h32, Bool.false_or]
      by_cases h9 : b = 9
      · refine zaT (by unfold bne; rw [n9, decide_eq_true h9]; rfl) ?_
        rw [h9]; exact go
      · refine zaY (by unfold bne; rw [n9, decide_eq_false h9]; rfl) ?_
        rw [beq_eq_false_iff_ne.2 h9]; rfl
  · unfold zdx
    exact zaT (decide_eq_false (by rw [za7]; omega)) rfl
  · rw [List.drop_zero]
    unfold zg9
    clear h
    induction l with
    | nil => rfl
    | cons b l ih =>
      rw [List.findSome?_cons, List.all_cons]
      cases hb : isB b with
      | true => simpa using ih
      | false => rfl

/-! ### Title lines -/
def ziE : List UInt8 → Bool
  | [] => false
  | [b] => b == 35
  | b :: c :: _ => b == 35 && c == 32
theorem zoO (l p : List UInt8) : zbB (mkB l) (mkB p) = some (decide (p.length ≤ l.length) && decide (l.take p.length = p)) := by
  unfold zbB
  rw [za7, za7]
  by_cases h : p.length ≤ l.length
  · refine zaY (decide_eq_true (by omega)) (zcD ⟨by omega, by omega, by omega⟩ (congrArg some ?_))
    have := zjE l 0 p.length
    rw [show ((0 : Nat) : Int) = 0 from rfl] at this
    rw [this, List.drop_zero, Nat.sub_zero, decide_eq_true h, Bool.true_and]
    by_cases e : l.take p.length = p
    · rw [decide_eq_true e, decide_eq_true (by rw [e])]
    · rw [decide_eq_false e, decide_eq_false (fun x => e (zfm x))]
  · refine zaT (decide_eq_false (by omega)) ?_
    rw [decide_eq_false h]; rfl
theorem zk6 (l : List UInt8) : zee (mkB l) = some (ziE l) := by
  unfold zee zdS
  rw [show (⟨#[35]⟩ : ByteArray) = mkB [35] from rfl, show (⟨#[35, 32]⟩ : ByteArray) = mkB [35, 32] from rfl]
  by_cases h : l = [35]
  · subst h; exact zaY (decide_eq_true rfl) rfl
  · refine zaT (decide_eq_false (fun e => h (zfm e))) (za9 (za9 (zoO _ _) rfl) (congrArg some ?_))
    match l with
    | [] => rfl
    | [b] =>
      have hb : b ≠ 35 := fun e => h (by rw [e])
      show _ = (b == 35)
      rw [beq_eq_false_iff_ne.2 hb]; rfl
    | b :: c :: t =>
      show _ = (b == 35 && c == 32)
      rw [decide_eq_true (by simp), Bool.true_and]
      show decide ([b, c] = [35, 32]) = _
      by_cases hb : b = 35 <;> by_cases hc : c = 32 <;> simp [hb, hc]
theorem zh9 (l : List UInt8) : zd0 (mkB l) = some (ziE l) := by
  unfold zd0
  rw [show (⟨#[35]⟩ : ByteArray) = mkB [35] from rfl]
  by_cases h : l = [35]
  · subst h; exact zaY (decide_eq_true rfl) rfl
  · refine zaT (decide_eq_false (fun e => h (zfm e))) ?_
    match l with
    | [] => exact zaT (decide_eq_false (by rw [za7]; simp)) rfl
    | [b] =>
      have hb : b ≠ 35 := fun e => h (by rw [e])
      refine zaT (decide_eq_false (by rw [za7]; simp)) ?_
      show _ = some (b == 35)
      rw [beq_eq_false_iff_ne.2 hb]
    | b :: c :: t =>
      have h0 := (ze1 (s := mkB (b :: c :: t)) (i := 0) (b := b) (t := c :: t) rfl).1
      have h1 := (ze1 (s := mkB (b :: c :: t)) (i := 1) (b := c) (t := t) rfl).1
      refine zaY (decide_eq_true (by rw [za7]; simp; omega)) (za9 h0 ?_)
      show _ = some (b == 35 && c == 32)
      by_cases hb : b = 35
      · refine zaY (by rw [n35]; exact decide_eq_true hb) (za9 h1 (congrArg some ?_))
        rw [n32, beq_iff_eq.2 hb, Bool.true_and]
        by_cases hc : c = 32
        · rw [decide_eq_true hc, hc]; rfl
        · rw [decide_eq_false hc, beq_eq_false_iff_ne.2 hc]
      · refine zaT (by rw [n35]; exact decide_eq_false hb) ?_
        rw [beq_eq_false_iff_ne.2 hb]; rfl
theorem zn3 (l : List UInt8) (h : ziE l = true) : zcW (mkB (l.drop 1)) (mkB [32]) = some (mkB (l.drop 2)) := by
  unfold zcW zb1
  refine za9 (za9 (zoO _ _) (?_ : _ = some (mkB (l.drop 2)))) rfl
  match l with
  | [] => cases h
  | [b] => exact zaT (by simp) rfl
  | b :: c :: t =>
    have hc : c = 32 := by
      unfold ziE at h; rw [Bool.and_eq_true] at h; exact beq_iff_eq.1 h.2
    subst hc
    refine zaY (by simp) (zcD ⟨by omega, by rw [za7, za7, List.drop_one, List.tail_cons, List.length_cons]; simp only [List.length_cons, List.length_nil]; omega, by omega⟩ (congrArg some ?_))
    exact zis (32 :: t) 1

/-! ### Indents -/
def ind (l : List UInt8) : Nat := (l.takeWhile (· == 32)).length
theorem zhM (b : UInt8) (l : List UInt8) : ind (b :: l) = if b = 32 then ind l + 1 else 0 := by
  unfold ind
  rw [List.takeWhile_cons]
  by_cases h : b = 32
  · subst h; simp
  · rw [if_neg h, beq_eq_false_iff_ne.2 h]; rfl
theorem zmx (l : List UInt8) : ind l ≤ l.length := by
  induction l with
  | nil => exact Nat.le_refl _
  | cons b l ih => rw [zhM, List.length_cons]; split <;> omega
theorem zgG (l : List UInt8) (h : l.length ≤ 1073741824) : zbZ (mkB l) = some (ind l : Int) := by
  unfold zbZ
  refine zcC ?_
  have key : ∀ (n i : Nat), i ≤ l.length → l.length - i < n → za8 (fun _ => none) (zcP (mkB l) (fun (n1 : Int) => some n1)) n (i : Int) = some ((i + ind (l.drop i) : Nat) : Int) := by
    intro n
    induction n with
    | zero => intro i h1 h2; omega
    | succ n ih =>
      intro i hi hn
      rw [zbt]
      obtain ⟨ag, hag⟩ : ∃ ag, ag = za8 (fun _ => none) (zcP (mkB l) (fun (n1 : Int) => some n1)) n := ⟨_, rfl⟩
      rw [← hag] at ih ⊢
      unfold zcP
      cases hd : l.drop i with
      | nil =>
        have : l.length ≤ i := List.drop_eq_nil_iff.1 hd
        exact zaT (decide_eq_false (by rw [za7]; omega)) rfl
      | cons b t =>
        obtain ⟨hb, hlt⟩ := ze1 (s := mkB l) hd
        rw [za7] at hlt
        refine zaY (decide_eq_true (by rw [za7]; omega)) (za9 hb ?_)
        rw [zhM]
        by_cases h32 : b = 32
        · refine zaY (by rw [n32]; exact decide_eq_true h32) (zcD ⟨by omega, by omega⟩ ?_)
          have := ih (i + 1) (by omega) (by omega)
          rw [zeU hd] at this
          rw [if_pos h32, show (i : Int) + 1 = ((i + 1 : Nat) : Int) by omega, this]
          congr 1; omega
        · refine zaT (by rw [n32]; exact decide_eq_false h32) ?_
          rw [if_neg h32]; rfl
  have := key zb0 0 (Nat.zero_le _) (by unfold zb0; omega)
  rw [List.drop_zero, Nat.zero_add] at this
  exact this
theorem zni (l : List UInt8) (h : l.length ≤ 1073741824) : zdT (mkB l) = some (ind l : Int) := by
  unfold zdT
  refine zcC ?_
  have key : ∀ (n i : Nat), i ≤ l.length → l.length - i < n → (pcs l).drop i = zdz i (l.drop i) → za8 (fun _ _ => none) (zc2 (mkB l) (fun (n1 : Int) => some n1)) n (i : Int) i = some ((i + ind (l.drop i) : Nat) : Int) := by
    intro n
    induction n with
    | zero => intro i h1 h2; omega
    | succ n ih =>
      intro i hi hn hp
      rw [zbt]
      obtain ⟨ag, hag⟩ : ∃ ag, ag = za8 (fun _ _ => none) (zc2 (mkB l) (fun (n1 : Int) => some n1)) n := ⟨_, rfl⟩
      rw [← hag] at ih ⊢
      unfold zc2
      rw [zgn]
      cases hd : l.drop i with
      | nil =>
        rw [hd, zcH] at hp
        have := List.drop_eq_nil_iff.1 hp
        exact zaT (decide_eq_false (by omega)) rfl
      | cons b t =>
        obtain ⟨hb, hlt⟩ := ze1 (s := mkB l) hd
        rw [za7] at hlt
        rw [hd, zc5 i (b :: t) (by simp)] at hp
        have hlm : i < (pcs l).length := by
          rcases Nat.lt_or_ge i (pcs l).length with h | h
          · exact h
          · rw [List.drop_eq_nil_of_le h] at hp; cases hp
        have hq : (pcs l)[i]? = some ⟨i, (decodeL (b :: t)).2, (decodeL (b :: t)).1⟩ := by
          have hp2 := hp
          rw [List.drop_eq_getElem_cons hlm] at hp2
          rw [List.getElem?_eq_getElem hlm, (List.cons.inj hp2).1]
        refine zaY (decide_eq_true hlm) (za9 hq ?_)
        rw [zhM]
        by_cases h32 : b = 32
        · subst h32
          have hdec := decodeL_ascii 32 t (by decide)
          rw [hdec] at hp ⊢
          refine zaT rfl (zcD ⟨by omega, by omega⟩ ?_)
          have := ih (i + 1) (by omega) (by omega) (by
            rw [← List.drop_drop, hp, zeU hd]; rfl)
          rw [zeU hd] at this
          rw [if_pos rfl, show (i : Int) + 1 = ((i + 1 : Nat) : Int) by omega]
          refine this.trans ?_
          congr 2; omega
        · refine zaY ?_ (by rw [if_neg h32]; rfl)
          show (((decodeL (b :: t)).1 : Int) != 32) = true
          refine bne_iff_ne.2 (fun e => ?_)
          by_cases hbig : 128 ≤ b.toNat
          · have := (zko (t := t) hbig).1; omega
          · rw [decodeL_ascii b t (by omega)] at e
            exact h32 (UInt8.toNat.inj (by show b.toNat = 32; have : ((b.toNat : Nat) : Int) = 32 := e; omega))
  have := key zb0 0 (Nat.zero_le _) (by unfold zb0; omega) (by rw [List.drop_zero, List.drop_zero]; rfl)
  rw [List.drop_zero, Nat.zero_add] at this
  exact this
end Go.Proofs.YtgfkogafkhbgnaaDoor
namespace Go.Proofs.YtgfkogafkhbgnaaDoor
open Go.RowKit Go.Lib
set_option linter.unusedVariables false
set_option linter.unusedSimpArgs false
/-! ### What lines are -/
theorem zjS (T : List UInt8) : ∀ (l : List UInt8) (p : Bool) (f a : Nat), T.drop a = l → f ≤ a → (p = true → l.head? = some 10 → f + 1 ≤ a) →
    (∀ b ∈ (T.drop f).take ((if p = true ∧ l.head? = some 10 then a - 1 else a) - f), isE b = false) → a ≤ T.length →
    ∀ x ∈ spP p f a l, x.1 ≤ x.2 ∧ x.2 ≤ T.length ∧ ∀ b ∈ (T.drop x.1).take (x.2 - x.1), isE b = false
  | [], p, f, a, hd, hf, hp, hb, ha => by
    intro x hx
    rw [spP, List.mem_singleton] at hx
    subst hx
    have : T.length ≤ a := List.drop_eq_nil_iff.1 hd
    refine ⟨hf, ha, ?_⟩
    rw [if_neg (by simp)] at hb
    exact hb
  | b :: t, p, f, a, hd, hf, hp, hb, ha => by
    intro x hx
    have hlt : a < T.length := by
      rcases Nat.lt_or_ge a T.length with h | h
      · exact h
      · rw [List.drop_eq_nil_of_le h] at hd; cases hd
    have hd1 := zeU hd
    have hsnoc : ∀ f', f' ≤ a → (T.drop f').take (a + 1 - f') = (T.drop f').take (a - f') ++ [b] := fun f' hf' => by
      rw [show a + 1 - f' = (a - f') + 1 by omega, List.take_add_one, List.getElem?_drop, show f' + (a - f') = a by omega]
      have : T[a]? = some b := by
        have h0 : (T.drop a)[0]? = some b := by rw [hd]; rfl
        rw [List.getElem?_drop] at h0; exact h0
      rw [this]; rfl
    rw [spP] at hx
    by_cases h13 : b = 13
    · rw [if_pos h13] at hx
      have hne : ¬ (p = true ∧ (b :: t).head? = some 10) := by rw [h13]; simp
      rw [if_neg hne] at hb
      by_cases ht : t.head? = some 10
      · rw [if_pos ht] at hx
        refine zjS T t true f (a + 1) hd1 (by omega) (fun _ _ => by omega) ?_ (by omega) x hx
        rw [if_pos ⟨rfl, ht⟩]; exact hb
      · rw [if_neg ht] at hx
        rcases List.mem_cons.1 hx with rfl | hx
        · exact ⟨hf, ha, hb⟩
        · refine zjS T t true (a + 1) (a + 1) hd1 (Nat.le_refl _) (fun _ h => absurd h ht) ?_ (by omega) x hx
          rw [if_neg (fun h => ht h.2), Nat.sub_self, List.take_zero]
          intro y hy; cases hy
    · rw [if_neg h13] at hx
      by_cases h10 : b = 10
      · rw [if_pos h10] at hx
        rcases List.mem_cons.1 hx with rfl | hx
        · cases p with
          | true =>
            have := hp rfl (by rw [h10]; rfl)
            rw [if_pos ⟨rfl, by rw [h10]; rfl⟩] at hb
            exact ⟨by show f ≤ a - 1; omega, by show a - 1 ≤ _; omega, hb⟩
          | false =>
            rw [if_neg (by simp)] at hb
            exact ⟨hf, ha, hb⟩
        · refine zjS T t false (a + 1) (a + 1) hd1 (Nat.le_refl _) (fun h => by cases h) ?_ (by omega) x hx
          rw [if_neg (by simp), Nat.sub_self, List.take_zero]
          intro y hy; cases hy
      · rw [if_neg h10] at hx
        refine zjS T t false f (a + 1) hd1 (by omega) (fun h => by cases h) ?_ (by omega) x hx
        rw [if_neg (by simp), hsnoc f hf]
        have hne : ¬ (p = true ∧ (b :: t).head? = some 10) := fun h => h10 (Option.some.inj h.2)
        rw [if_neg hne] at hb
        intro y hy
        rcases List.mem_append.1 hy with hy | hy
        · exact hb y hy
        · rw [List.mem_singleton] at hy
          subst hy
          unfold isE
          rw [beq_eq_false_iff_ne.2 h13, beq_eq_false_iff_ne.2 h10]; rfl
theorem zjj (T : List UInt8) : ∀ x ∈ zcE T, x.1 ≤ x.2 ∧ x.2 ≤ T.length ∧ ∀ b ∈ (T.drop x.1).take (x.2 - x.1), isE b = false :=
  zjS T T false 0 0 (List.drop_zero) (Nat.le_refl _) (fun h => by cases h) (by intro b hb; simp at hb) (Nat.zero_le _)
theorem zf9 : ∀ (l : List UInt8) (p : Bool) (f a : Nat), (spP p f a l).length ≤ l.length + 1
  | [], p, f, a => Nat.le_refl _
  | b :: t, p, f, a => by
    rw [spP, List.length_cons]
    split
    · split
      · have := zf9 t true f (a + 1); omega
      · rw [List.length_cons]; have := zf9 t true (a + 1) (a + 1); omega
    · split
      · rw [List.length_cons]; have := zf9 t false (a + 1) (a + 1); omega
      · have := zf9 t false f (a + 1); omega
/-- A text's lines: where each begins, and its bytes. -/
def zfI (T : List UInt8) : List (Nat × List UInt8) := (zcE T).map fun x => (x.1, (T.drop x.1).take (x.2 - x.1))

/-! ### The fold -/
structure RS where
  t : List UInt8
  stz : List (List (List UInt8))
  vs : List Gapi_Verse
  first : Bool
  row : Bool
def ze0 (z : List (List (List UInt8))) : List (List UInt8) := z.getLastD []
def zcG (st : RS) : List (List (List UInt8)) := if st.row then st.stz else st.stz ++ [[]]
def zf6 (f : Nat) (x : List UInt8) (z : List (List (List UInt8))) : Gapi_Verse := ⟨mkB (x.drop (ind x)), ind x, (z.length : Int) - 1, (ze0 z).length, (f : Int) + ind x, ((f + x.length : Nat) : Int)⟩
def ziw (st : RS) (f : Nat) (x : List UInt8) : RS :=
  ⟨st.t, (zcG st).dropLast ++ [ze0 (zcG st) ++ [x]], st.vs ++ [zf6 f x (zcG st)], false, true⟩
def zfs (st : RS) (x : Nat × List UInt8) : Except Gapi_Spot RS :=
  if zg9 x.2 = true then .ok { st with row := false }
  else if 1024 < x.2.length then .error ⟨3, (x.1 : Int) + 1024⟩
  else if st.first = true ∧ ziE x.2 = true then .ok { st with first := false, t := x.2.drop 2 }
  else if st.vs.length = 512 then .error ⟨3, x.1⟩
  else .ok (ziw st x.1 x.2)
def zex : RS → List (Nat × List UInt8) → Except Gapi_Spot RS
  | st, [] => .ok st
  | st, x :: xs => match zfs st x with
    | .ok st' => zex st' xs
    | .error e => .error e
def rs0 : RS := ⟨[], [], [], true, false⟩
def rd (T : List UInt8) : Except Gapi_Spot RS := if 65536 < T.length then .error ⟨3, 65536⟩ else zex rs0 (zfI T)
def tot (z : List (List (List UInt8))) : Nat := (z.map List.length).sum
def zhc : Nat → List (List (List UInt8)) → List Gapi_Span
  | _, [] => []
  | n, r :: rs => ⟨n, ((n + r.length : Nat) : Int)⟩ :: zhc (n + r.length) rs
theorem zhL : ∀ (a b : List (List (List UInt8))) (n : Nat), zhc n (a ++ b) = zhc n a ++ zhc (n + tot a) b
  | [], b, n => rfl
  | r :: a, b, n => by
    show _ :: zhc (n + r.length) (a ++ b) = _
    rw [zhL a b]
    have : n + tot (r :: a) = n + r.length + tot a := by unfold tot; rw [List.map_cons, List.sum_cons]; omega
    rw [this]; rfl
theorem ze6 : ∀ (a : List (List (List UInt8))) (n : Nat), (zhc n a).length = a.length
  | [], n => rfl
  | r :: a, n => by rw [zhc, List.length_cons, List.length_cons, ze6 a]
theorem zgE (a b : List (List (List UInt8))) : tot (a ++ b) = tot a + tot b := by unfold tot; rw [List.map_append, List.sum_append]
theorem zhe (r : List (List UInt8)) : tot [r] = r.length := by unfold tot; simp
theorem zii {z : List (List (List UInt8))} (h : z ≠ []) : z = z.dropLast ++ [ze0 z] := by
  unfold ze0
  rw [List.getLastD_eq_getLast?, List.getLast?_eq_some_getLast h]
  exact (List.dropLast_concat_getLast h).symm
structure RInv (st : RS) : Prop where
  tot : st.vs.length = tot st.stz
  row : st.row = true → st.stz ≠ []
  most : st.vs.length ≤ 512
  ne : ∀ r ∈ st.stz, r ≠ []
  t0 : st.first = true → st.t = []
theorem zfu : ∀ (z : List (List (List UInt8))), (∀ r ∈ z, r ≠ []) → z.length ≤ tot z
  | [], h => Nat.le_refl _
  | r :: z, h => by
    have h1 := zfu z fun y hy => h y (by simp [hy])
    have h2 : 0 < r.length := List.length_pos_iff.2 (h r (by simp))
    have : tot (r :: z) = r.length + tot z := by unfold tot; rw [List.map_cons, List.sum_cons]
    rw [this, List.length_cons]; omega
theorem RInv.stzLen {st : RS} (h : RInv st) : st.stz.length ≤ 512 := Nat.le_trans (zfu _ h.ne) (h.tot ▸ h.most)
theorem zld {st : RS} (h : RInv st) : zcG st ≠ [] := by
  unfold zcG
  split
  · rename_i hr; exact h.row hr
  · simp
theorem zj7 {st : RS} {n : Nat} (h : st.stz.length ≤ n) : (zcG st).length ≤ n + 1 := by
  unfold zcG
  split
  · omega
  · rw [List.length_append, List.length_singleton]; omega
theorem zie (st : RS) : tot (zcG st) = tot st.stz := by
  unfold zcG
  split
  · rfl
  · rw [zgE, zhe]; rfl
theorem RInv.step {st st' : RS} {x : Nat × List UInt8} (h : RInv st) (hs : zfs st x = .ok st') : RInv st' := by
  unfold zfs at hs
  split at hs
  · cases hs; exact ⟨h.tot, (fun e => by cases e), h.most, h.ne, h.t0⟩
  · split at hs
    · cases hs
    · split at hs
      · cases hs; exact ⟨h.tot, h.row, h.most, h.ne, (fun e => by cases e)⟩
      · split at hs
        · cases hs
        · rename_i h512
          cases hs
          have e := zii (zld h)
          refine ⟨?_, (fun _ => by simp [ziw]), ?_, ?_, (fun e => by cases e)⟩
          · show (st.vs ++ [_]).length = Go.Proofs.YtgfkogafkhbgnaaDoor.tot ((zcG st).dropLast ++ [ze0 (zcG st) ++ [x.2]])
            have h2 := zie st
            rw [e, zgE, zhe] at h2
            rw [zgE, zhe, List.length_append, List.length_append, List.length_singleton, List.length_singleton, h.tot, ← h2]
            omega
          · show (st.vs ++ [_]).length ≤ 512
            rw [List.length_append, List.length_singleton]
            have := h.most; omega
          · intro r hr
            rcases List.mem_append.1 hr with hr | hr
            · have hm : r ∈ zcG st := (List.dropLast_sublist _).mem hr
              unfold zcG at hm hr
              split at hm
              · exact h.ne r hm
              · rename_i hrow
                rw [if_neg hrow, List.dropLast_concat] at hr
                exact h.ne r hr
            · rw [List.mem_singleton] at hr
              subst hr; simp
theorem zkD : RInv rs0 := ⟨rfl, (fun e => by cases e), Nat.zero_le _, (fun r hr => by cases hr), (fun _ => rfl)⟩
theorem RInv.fold : ∀ {xs : List (Nat × List UInt8)} {st st' : RS}, RInv st → zex st xs = .ok st' → RInv st'
  | [], st, st', h, hs => by cases hs; exact h
  | x :: xs, st, st', h, hs => by
    unfold zex at hs
    cases he : zfs st x with
    | ok s1 => rw [he] at hs; exact RInv.fold (h.step he) hs
    | error e => rw [he] at hs; cases hs
theorem zjk {α : Type} (a : List α) (x y : α) : (a ++ [x]).set a.length y = a ++ [y] := by simp
/-! ### The program -/
def mkZ (z : List (List (List UInt8))) : List (List ByteArray) := z.map (·.map mkB)
section
variable {T : List UInt8} {st : RS} {sp : Nat × Nat} {k : Nat}
theorem zjp {st : RS} (h : RInv st) : ∃ init r, zcG st = init ++ [r] ∧ ze0 (zcG st) = r ∧ (zcG st).dropLast = init ∧ tot init + r.length = st.vs.length ∧ zhc 0 (zcG st) = zhc 0 init ++ [⟨(tot init : Int), (st.vs.length : Int)⟩] := by
  have e := zii (zld h)
  refine ⟨_, _, e, rfl, rfl, ?_, ?_⟩
  · have h2 := zie st
    rw [e, zgE, zhe] at h2
    rw [h.tot]; exact h2
  · have h2 := zie st
    rw [e, zgE, zhe] at h2
    conv => lhs; rw [e]
    rw [zhL, Nat.zero_add]
    show _ ++ [(⟨(tot (zcG st).dropLast : Int), ((tot (zcG st).dropLast + (ze0 (zcG st)).length : Nat) : Int)⟩ : Gapi_Span)] = _
    rw [h2, h.tot]
theorem zmg {J : ByteArray → (List Gapi_Verse) → (List Gapi_Span) → Option ((Option Gpoem_Poem) × Gapi_Spot)} {m : Gplace_Map} {n : Int} {ag : ByteArray → (List Gapi_Verse) → (List Gapi_Span) → Bool → Bool → Int → Option ((Option Gpoem_Poem) × Gapi_Spot)}
    (hT : T.length ≤ 65536) (hI : RInv st) (hk : (zcE T)[k]? = some sp) (hm : m.lines.map spE = (zcE T).map mkS) (hn : (k : Int) < n) :
    zc3 (mkB T) J m n ag (mkB st.t) st.vs (zhc 0 st.stz) st.first st.row (k : Int) =
      match zfs st (sp.1, (T.drop sp.1).take (sp.2 - sp.1)) with
      | .error e => some (none, e)
      | .ok st' => ag (mkB st'.t) st'.vs (zhc 0 st'.stz) st'.first st'.row ((k + 1 : Nat) : Int) := by
  obtain ⟨h1, h2, _⟩ := zjj T sp (List.mem_of_getElem? hk)
  have hkl := (List.getElem?_eq_some_iff.1 hk).1
  have hkb := zf9 T false 0 0
  have hkb2 : (zcE T).length ≤ T.length + 1 := hkb
  obtain ⟨q, hq, hqs⟩ : ∃ q, m.lines[k]? = some q ∧ spE q = mkS sp := by
    have h3 : (m.lines.map spE)[k]? = some (mkS sp) := by rw [hm, List.getElem?_map, hk]; rfl
    rw [List.getElem?_map] at h3
    obtain ⟨q, a, b⟩ := Option.map_eq_some_iff.1 h3
    exact ⟨q, a, b⟩
  have hlen : m.lines.length = (zcE T).length := by have := congrArg List.length hm; simpa using this
  have hq1 : q.span_From = (sp.1 : Int) := congrArg Gapi_Span.From hqs
  have hq2 : q.span_To = (sp.2 : Int) := congrArg Gapi_Span.To hqs
  have hspan : zdZ m (k : Int) = some ((⟨(sp.1 : Int), (sp.2 : Int)⟩ : Gapi_Span), q.end_, 0) := by
    unfold zdZ
    refine zaT (decide_eq_false (by omega)) (zaT (decide_eq_false (by omega)) (za9 (zbV hq) ?_))
    rw [hq1, hq2]
  have hcut : zbn (mkB T) (sp.1 : Int) (sp.2 : Int) = mkB ((T.drop sp.1).take (sp.2 - sp.1)) := zjE T sp.1 sp.2
  generalize hx : (T.drop sp.1).take (sp.2 - sp.1) = x at hcut ⊢
  have hxl : x.length = sp.2 - sp.1 := by rw [← hx, List.length_take, List.length_drop]; omega
  unfold zc3
  refine zaY (decide_eq_true hn) (zcC (zcC (za9 hspan (zcD ⟨by show (0 : Int) ≤ (sp.1 : Int); omega, by show (sp.1 : Int) ≤ sp.2; omega, by show (sp.2 : Int) ≤ _; rw [za7]; omega⟩ ?_))))
  show zaG (zd8 (zbn (mkB T) (sp.1 : Int) (sp.2 : Int))) _ = _
  rw [hcut]
  refine za9 (zkR x (by omega)) ?_
  unfold zfs
  have goOn : ∀ (a : ByteArray) (b : List Gapi_Verse) (c : List Gapi_Span) (d e : Bool), (grd (I64 ((k : Int) + 1)) <| ag a b c d e ((k : Int) + 1)) = ag a b c d e ((k + 1 : Nat) : Int) := fun a b c d e => zcD ⟨by omega, by omega⟩ (by rw [show (k : Int) + 1 = ((k + 1 : Nat) : Int) by omega])
  cases hb : zg9 x with
  | true =>
    rw [if_pos rfl]
    exact zaY rfl (goOn _ _ _ _ _)
  | false =>
    rw [if_neg (by decide)]
    refine zaT rfl ?_
    by_cases hbig : 1024 < x.length
    · rw [if_pos hbig]
      exact zaY (decide_eq_true (by rw [za7]; omega)) (zcD ⟨by show _ ≤ (sp.1 : Int) + 1024; omega, by show (sp.1 : Int) + 1024 ≤ _; omega⟩ rfl)
    · rw [if_neg hbig]
      refine zaT (decide_eq_false (by rw [za7]; omega)) ?_
      have h512 := hI.most
      -- the line is one of verse
      have verse : ¬ (st.first = true ∧ ziE x = true) → (zaU (((st.vs.length : Int) : Int) == 512) (some (none, (⟨3, (sp.1 : Int)⟩ : Gapi_Spot))) (zbO (fun (j4 : (List Gapi_Span) → Option ((Option Gpoem_Poem) × Gapi_Spot)) =>
          zaU (!st.row) (grd ((zhc 0 st.stz).length + 1 ≤ 2147483648) <| j4 (zhc 0 st.stz ++ [(⟨(st.vs.length : Int), (st.vs.length : Int)⟩ : Gapi_Span)])) (j4 (zhc 0 st.stz))) (fun (p20 : List Gapi_Span) =>
            grd (I64 ((p20.length : Int) - 1)) <|
            zaG (zdh p20 ((p20.length : Int) - 1)) fun (q1 : Gapi_Span) =>
            zaG (zdT (mkB x)) fun (r7 : Int) =>
            grd (0 ≤ (r7 : Int) ∧ (r7 : Int) ≤ ((mkB x).size : Int) ∧ (((mkB x).size : Int) : Int) ≤ ((mkB x).size : Int)) <|
            grd (I64 ((p20.length : Int) - 1)) <|
            grd (I64 ((st.vs.length : Int) - q1.From)) <|
            grd (I64 ((sp.1 : Int) + r7)) <|
            grd (st.vs.length + 1 ≤ 2147483648) <|
            grd (I64 ((st.vs.length : Int) + 1)) <|
            (grd (I64 ((k : Int) + 1)) <| ag (mkB st.t) (st.vs ++ [(⟨zbn (mkB x) r7 ((mkB x).size : Int), r7, (p20.length : Int) - 1, (st.vs.length : Int) - q1.From, (sp.1 : Int) + r7, (sp.2 : Int)⟩ : Gapi_Verse)]) (p20.set ((p20.length : Int) - 1 : Int).toNat (⟨q1.From, (st.vs.length : Int) + 1⟩ : Gapi_Span)) false true ((k : Int) + 1))))) =
          match (if st.vs.length = 512 then Except.error (⟨3, (sp.1 : Int)⟩ : Gapi_Spot) else Except.ok (ziw st sp.1 x)) with
          | .error e => some (none, e)
          | .ok st' => ag (mkB st'.t) st'.vs (zhc 0 st'.stz) st'.first st'.row ((k + 1 : Nat) : Int) := fun hnt => by
        by_cases hfull : st.vs.length = 512
        · rw [if_pos hfull]; exact zaY (beq_iff_eq.2 (by omega)) rfl
        · rw [if_neg hfull]
          refine zaT (beq_eq_false_iff_ne.2 (by omega)) (zcC ?_)
          obtain ⟨init, r, he, hl, hdl, htot, hsp⟩ := zjp hI
          have hzl := hI.stzLen
          have hol : (zcG st).length ≤ 513 := zj7 hzl
          have hil : init.length + 1 = (zcG st).length := by rw [he]; simp
          have tail : ∀ p20 : List Gapi_Span, p20 = zhc 0 (zcG st) → (grd (I64 ((p20.length : Int) - 1)) <|
            zaG (zdh p20 ((p20.length : Int) - 1)) fun (q1 : Gapi_Span) =>
            zaG (zdT (mkB x)) fun (r7 : Int) =>
            grd (0 ≤ (r7 : Int) ∧ (r7 : Int) ≤ ((mkB x).size : Int) ∧ (((mkB x).size : Int) : Int) ≤ ((mkB x).size : Int)) <|
            grd (I64 ((p20.length : Int) - 1)) <|
            grd (I64 ((st.vs.length : Int) - q1.From)) <|
            grd (I64 ((sp.1 : Int) + r7)) <|
            grd (st.vs.length + 1 ≤ 2147483648) <|
            grd (I64 ((st.vs.length : Int) + 1)) <|
            (grd (I64 ((k : Int) + 1)) <| ag (mkB st.t) (st.vs ++ [(⟨zbn (mkB x) r7 ((mkB x).size : Int), r7, (p20.length : Int) - 1, (st.vs.length : Int) - q1.From, (sp.1 : Int) + r7, (sp.2 : Int)⟩ : Gapi_Verse)]) (p20.set ((p20.length : Int) - 1 : Int).toNat (⟨q1.From, (st.vs.length : Int) + 1⟩ : Gapi_Span)) false true ((k : Int) + 1))) =
              ag (mkB (ziw st sp.1 x).t) (ziw st sp.1 x).vs (zhc 0 (ziw st sp.1 x).stz) (ziw st sp.1 x).first (ziw st sp.1 x).row ((k + 1 : Nat) : Int) := fun p20 hp => by
            have hpl : p20.length = (zcG st).length := by rw [hp, ze6]
            have hg : zdh p20 ((p20.length : Int) - 1) = some ⟨(tot init : Int), (st.vs.length : Int)⟩ := by
              refine zkM (n := init.length) (by omega) ?_
              rw [hp, hsp, List.getElem?_append_right (by rw [ze6]; exact Nat.le_refl _), ze6, Nat.sub_self]; rfl
            have hind := zmx x
            refine zcD ⟨by omega, by omega⟩ (za9 hg (za9 (zni x (by omega)) (zcD ⟨by omega, by rw [za7]; omega, by omega⟩ (zcD ⟨by omega, by omega⟩ (zcD ⟨by show _ ≤ (st.vs.length : Int) - (tot init : Int); omega, by show (st.vs.length : Int) - (tot init : Int) ≤ _; omega⟩ (zcD ⟨by omega, by omega⟩ (zcD (by omega) (zcD ⟨by omega, by omega⟩ ?_))))))))
            refine (goOn _ _ _ _ _).trans ?_
            have e1 : (p20.set ((p20.length : Int) - 1 : Int).toNat (⟨(tot init : Int), (st.vs.length : Int) + 1⟩ : Gapi_Span)) = zhc 0 (ziw st sp.1 x).stz := by
              rw [show ((p20.length : Int) - 1 : Int).toNat = (zhc 0 init).length by rw [ze6]; omega, hp, hsp, zjk]
              show _ = zhc 0 ((zcG st).dropLast ++ [ze0 (zcG st) ++ [x]])
              rw [hdl, hl, zhL, Nat.zero_add]
              show _ = _ ++ [(⟨(tot init : Int), ((tot init + (r ++ [x]).length : Nat) : Int)⟩ : Gapi_Span)]
              rw [List.length_append, List.length_singleton]
              congr 3
              omega
            have e2 : (⟨zbn (mkB x) (ind x : Int) ((mkB x).size : Int), (ind x : Int), (p20.length : Int) - 1, (st.vs.length : Int) - (tot init : Int), (sp.1 : Int) + (ind x : Int), (sp.2 : Int)⟩ : Gapi_Verse) = zf6 sp.1 x (zcG st) := by
              unfold zf6
              rw [zis, hpl, hl]
              congr 1
              · omega
              · omega
            show ag _ (st.vs ++ [_]) _ _ _ _ = _
            rw [e2]
            show ag _ _ (p20.set _ _) _ _ _ = _
            rw [e1]
            rfl
          cases hr : st.row with
          | true =>
            refine zaT rfl ?_
            exact tail _ (by unfold zcG; rw [hr]; rfl)
          | false =>
            refine zaY rfl (zcD (by rw [ze6]; omega) ?_)
            refine tail _ ?_
            unfold zcG; rw [hr, if_neg (by decide), zhL, Nat.zero_add, ← hI.tot]
            rfl
      cases hf : st.first with
      | true =>
        refine zaY rfl (za9 (zk6 x) ?_)
        cases ht : ziE x with
        | true =>
          rw [if_pos ⟨rfl, rfl⟩]
          have hx1 : 1 ≤ x.length := by
            cases x with
            | nil => cases ht
            | cons b t => simp
          refine zaY rfl (zcD ⟨by omega, by rw [za7]; omega, by omega⟩ (za9 (a := mkB (x.drop 2)) ?_ (goOn _ _ _ _ _)))
          have := zis x 1
          rw [show ((1 : Nat) : Int) = 1 from rfl] at this
          rw [this]
          exact zn3 x ht
        | false =>
          rw [if_neg (by simp)]
          refine zaT rfl ?_
          exact verse (by rw [ht]; simp)
      | false =>
        rw [if_neg (by simp)]
        refine zaT rfl ?_
        exact verse (by rw [hf]; simp)
end
theorem zmh {T : List UInt8} {J : ByteArray → (List Gapi_Verse) → (List Gapi_Span) → Option ((Option Gpoem_Poem) × Gapi_Spot)} {m : Gplace_Map} (hT : T.length ≤ 65536) (hm : m.lines.map spE = (zcE T).map mkS) :
    ∀ (n k : Nat) (st : RS), RInv st → k ≤ (zcE T).length → (zcE T).length - k < n →
      za8 (fun _ _ _ _ _ _ => none) (zc3 (mkB T) J m (m.lines.length : Int)) n (mkB st.t) st.vs (zhc 0 st.stz) st.first st.row (k : Int) =
        match zex st ((zfI T).drop k) with
        | .error e => some (none, e)
        | .ok st' => J (mkB st'.t) st'.vs (zhc 0 st'.stz) := by
  have hlen : m.lines.length = (zcE T).length := by have := congrArg List.length hm; simpa using this
  intro n
  induction n with
  | zero => intro k st h1 h2 h3; omega
  | succ n ih =>
    intro k st hI hk hn
    rw [zbt]
    obtain ⟨ag, hag⟩ : ∃ ag, ag = za8 (fun _ _ _ _ _ _ => none) (zc3 (mkB T) J m (m.lines.length : Int)) n := ⟨_, rfl⟩
    rw [← hag] at ih ⊢
    rcases Nat.lt_or_ge k (zcE T).length with h | h
    · obtain ⟨sp, hsp⟩ : ∃ sp, (zcE T)[k]? = some sp := ⟨_, List.getElem?_eq_getElem h⟩
      rw [zmg hT hI hsp hm (by omega)]
      have hi : (zfI T).drop k = (sp.1, (T.drop sp.1).take (sp.2 - sp.1)) :: (zfI T).drop (k + 1) := by
        have hl : k < (zfI T).length := by unfold zfI; rw [List.length_map]; exact h
        rw [List.drop_eq_getElem_cons hl]
        congr 1
        have : (zfI T)[k]? = some (sp.1, (T.drop sp.1).take (sp.2 - sp.1)) := by unfold zfI; rw [List.getElem?_map, hsp]; rfl
        rw [List.getElem?_eq_getElem hl] at this
        exact Option.some.inj this
      rw [hi, zex]
      cases hs : zfs st (sp.1, (T.drop sp.1).take (sp.2 - sp.1)) with
      | error e => rfl
      | ok st' => exact ih (k + 1) st' (hI.step hs) (by omega) (by omega)
    · rw [List.drop_eq_nil_of_le (by unfold zfI; rw [List.length_map]; exact h)]
      unfold zc3
      exact zaT (decide_eq_false (by omega)) rfl
/-- What poem.Read answers. -/
theorem zmf (T : List UInt8) : zcU (mkB T) = match rd T with
    | .error e => some (none, e)
    | .ok st => some (some (⟨mkB st.t, st.vs, zhc 0 st.stz, mkB T⟩ : Gpoem_Poem), (⟨0, 0⟩ : Gapi_Spot)) := by
  unfold zcU rd
  by_cases h : 65536 < T.length
  · rw [if_pos h]
    exact za9 (zng _ (by rw [za7]; exact h)) (zaY rfl rfl)
  · rw [if_neg h]
    obtain ⟨m, h1, h2, h3⟩ := zpz (mkB T) (by rw [za7]; omega)
    refine za9 h1 (zaT rfl (zcC (za9 rfl (za9 rfl ?_))))
    have hl := zf9 T false 0 0
    have hl2 : (zcE T).length ≤ T.length + 1 := hl
    have := zmh (J := fun (p1 : ByteArray) (p2 : List Gapi_Verse) (p3 : List Gapi_Span) => some ((some (⟨p1, p2, p3, mkB T⟩ : Gpoem_Poem)), (⟨0, 0⟩ : Gapi_Spot))) (T := T) (m := m) (by omega) h3 zb0 0 rs0 zkD (Nat.zero_le _) (by unfold zb0; omega)
    rw [List.drop_zero] at this
    exact this
end Go.Proofs.YtgfkogafkhbgnaaDoor
namespace Go.Proofs.YtgfkogafkhbgnaaDoor
open Go.RowKit Go.Lib
set_option linter.unusedVariables false
set_option linter.unusedSimpArgs false
theorem zeY (a b : List (List (List UInt8))) : mkZ (a ++ b) = mkZ a ++ mkZ b := List.map_append
theorem zbL (a : List (List (List UInt8))) : (mkZ a).length = a.length := List.length_map ..
section
variable {T : List UInt8} {st : RS} {sp : Nat × Nat} {k : Nat}
theorem zjZ {J : ByteArray → (List (List ByteArray)) → (List Gapi_Verse) → Option (Gref17_Poem × (List Gapi_Verse) × Gapi_Spot)} {ag : ByteArray → (List (List ByteArray)) → (List Gapi_Verse) → Bool → Bool → Int → Option (Gref17_Poem × (List Gapi_Verse) × Gapi_Spot)}
    (hT : T.length ≤ 65536) (hI : RInv st) (hk : (zcE T)[k]? = some sp) :
    zcL (mkB T) J ((zcE T).map mkS) ag (mkB st.t) (mkZ st.stz) st.vs st.first st.row (k : Int) =
      match zfs st (sp.1, (T.drop sp.1).take (sp.2 - sp.1)) with
      | .error e => some ((⟨ByteArray.empty, ([] : List (List ByteArray))⟩ : Gref17_Poem), ([] : List Gapi_Verse), e)
      | .ok st' => ag (mkB st'.t) (mkZ st'.stz) st'.vs st'.first st'.row ((k + 1 : Nat) : Int) := by
  obtain ⟨h1, h2, _⟩ := zjj T sp (List.mem_of_getElem? hk)
  have hkl := (List.getElem?_eq_some_iff.1 hk).1
  have hkb := zf9 T false 0 0
  have hkb2 : (zcE T).length ≤ T.length + 1 := hkb
  have hq : zdh ((zcE T).map mkS) (k : Int) = some (mkS sp) := zbV (by rw [List.getElem?_map, hk]; rfl)
  have hcut : zbn (mkB T) (sp.1 : Int) (sp.2 : Int) = mkB ((T.drop sp.1).take (sp.2 - sp.1)) := zjE T sp.1 sp.2
  generalize hx : (T.drop sp.1).take (sp.2 - sp.1) = x at hcut ⊢
  have hxl : x.length = sp.2 - sp.1 := by rw [← hx, List.length_take, List.length_drop]; omega
  unfold zcL
  refine zaY (decide_eq_true (by rw [List.length_map]; omega)) (zcC (za9 hq (zcD ⟨by show (0 : Int) ≤ (sp.1 : Int); omega, by show (sp.1 : Int) ≤ sp.2; omega, by show (sp.2 : Int) ≤ _; rw [za7]; omega⟩ ?_)))
  show zaG (zdo (zbn (mkB T) (sp.1 : Int) (sp.2 : Int))) _ = _
  have hcut2 : zbn (mkB T) (mkS sp).From (mkS sp).To = mkB x := hcut
  rw [hcut, hcut2]
  refine za9 (ziZ x (by omega)) ?_
  unfold zfs
  have goOn : ∀ (a : ByteArray) (b : List (List ByteArray)) (c : List Gapi_Verse) (d e : Bool), (grd (I64 ((k : Int) + 1)) <| ag a b c d e ((k : Int) + 1)) = ag a b c d e ((k + 1 : Nat) : Int) := fun a b c d e => zcD ⟨by omega, by omega⟩ (by rw [show (k : Int) + 1 = ((k + 1 : Nat) : Int) by omega])
  cases hb : zg9 x with
  | true =>
    rw [if_pos rfl]
    exact zaY rfl (goOn _ _ _ _ _)
  | false =>
    rw [if_neg (by decide)]
    refine zaT rfl ?_
    by_cases hbig : 1024 < x.length
    · rw [if_pos hbig]
      exact zaY (decide_eq_true (by rw [za7]; omega)) (zcD ⟨by show _ ≤ (sp.1 : Int) + 1024; omega, by show (sp.1 : Int) + 1024 ≤ _; omega⟩ rfl)
    · rw [if_neg hbig]
      refine zaT (decide_eq_false (by rw [za7]; omega)) ?_
      have h512 := hI.most
      have verse : ∀ Z : Option (Gref17_Poem × (List Gapi_Verse) × Gapi_Spot), Z = (zaU (((st.vs.length : Int) : Int) == 512) (some ((⟨ByteArray.empty, ([] : List (List ByteArray))⟩ : Gref17_Poem), ([] : List Gapi_Verse), (⟨3, (mkS sp).From⟩ : Gapi_Spot))) (zbO (fun (j5 : (List (List ByteArray)) → Option (Gref17_Poem × (List Gapi_Verse) × Gapi_Spot)) =>
          zaU (!st.row) (grd ((mkZ st.stz).length + 1 ≤ 2147483648) <| j5 (mkZ st.stz ++ [([] : List ByteArray)])) (j5 (mkZ st.stz))) (fun (p15 : List (List ByteArray)) =>
            grd (I64 ((p15.length : Int) - 1)) <|
            zaG (zbZ (mkB x)) fun (r4 : Int) =>
            grd (0 ≤ (r4 : Int) ∧ (r4 : Int) ≤ ((mkB x).size : Int) ∧ (((mkB x).size : Int) : Int) ≤ ((mkB x).size : Int)) <|
            zaG (zbZ (mkB x)) fun (r5 : Int) =>
            zaG (zdh p15 ((p15.length : Int) - 1)) fun (x1 : List ByteArray) =>
            zaG (zbZ (mkB x)) fun (r6 : Int) =>
            grd (I64 ((mkS sp).From + r6)) <|
            grd (st.vs.length + 1 ≤ 2147483648) <|
            zaG (zdh p15 ((p15.length : Int) - 1)) fun (x2 : List ByteArray) =>
            grd (x2.length + 1 ≤ 2147483648) <|
            (grd (I64 ((k : Int) + 1)) <| ag (mkB st.t) (p15.set ((p15.length : Int) - 1 : Int).toNat (x2 ++ [mkB x])) (st.vs ++ [(⟨zbn (mkB x) r4 ((mkB x).size : Int), r5, (p15.length : Int) - 1, (x1.length : Int), (mkS sp).From + r6, (mkS sp).To⟩ : Gapi_Verse)]) false true ((k : Int) + 1))))) →
          ¬ (st.first = true ∧ ziE x = true) → Z =
          match (if st.vs.length = 512 then Except.error (⟨3, (sp.1 : Int)⟩ : Gapi_Spot) else Except.ok (ziw st sp.1 x)) with
          | .error e => some ((⟨ByteArray.empty, ([] : List (List ByteArray))⟩ : Gref17_Poem), ([] : List Gapi_Verse), e)
          | .ok st' => ag (mkB st'.t) (mkZ st'.stz) st'.vs st'.first st'.row ((k + 1 : Nat) : Int) := fun Z hZ hnt => by
        rw [hZ]
        by_cases hfull : st.vs.length = 512
        · rw [if_pos hfull]; exact zaY (beq_iff_eq.2 (by omega)) rfl
        · rw [if_neg hfull]
          refine zaT (beq_eq_false_iff_ne.2 (by omega)) (zcC ?_)
          obtain ⟨init, r, he, hl, hdl, htot, hsp⟩ := zjp hI
          have hzl := hI.stzLen
          have hol : (zcG st).length ≤ 513 := zj7 hzl
          have hil : init.length + 1 = (zcG st).length := by rw [he]; simp
          have tail : ∀ p15 : List (List ByteArray), p15 = mkZ (zcG st) → (grd (I64 ((p15.length : Int) - 1)) <|
            zaG (zbZ (mkB x)) fun (r4 : Int) =>
            grd (0 ≤ (r4 : Int) ∧ (r4 : Int) ≤ ((mkB x).size : Int) ∧ (((mkB x).size : Int) : Int) ≤ ((mkB x).size : Int)) <|
            zaG (zbZ (mkB x)) fun (r5 : Int) =>
            zaG (zdh p15 ((p15.length : Int) - 1)) fun (x1 : List ByteArray) =>
            zaG (zbZ (mkB x)) fun (r6 : Int) =>
            grd (I64 ((mkS sp).From + r6)) <|
            grd (st.vs.length + 1 ≤ 2147483648) <|
            zaG (zdh p15 ((p15.length : Int) - 1)) fun (x2 : List ByteArray) =>
            grd (x2.length + 1 ≤ 2147483648) <|
            (grd (I64 ((k : Int) + 1)) <| ag (mkB st.t) (p15.set ((p15.length : Int) - 1 : Int).toNat (x2 ++ [mkB x])) (st.vs ++ [(⟨zbn (mkB x) r4 ((mkB x).size : Int), r5, (p15.length : Int) - 1, (x1.length : Int), (mkS sp).From + r6, (mkS sp).To⟩ : Gapi_Verse)]) false true ((k : Int) + 1))) =
              ag (mkB (ziw st sp.1 x).t) (mkZ (ziw st sp.1 x).stz) (ziw st sp.1 x).vs (ziw st sp.1 x).first (ziw st sp.1 x).row ((k + 1 : Nat) : Int) := fun p15 hp => by
            have hpl : p15.length = (zcG st).length := by rw [hp, zbL]
            have hg : zdh p15 ((p15.length : Int) - 1) = some (r.map mkB) := by
              refine zkM (n := init.length) (by omega) ?_
              rw [hp, he, zeY, List.getElem?_append_right (by rw [zbL]; exact Nat.le_refl _), zbL, Nat.sub_self]; rfl
            have hind := zmx x
            refine zcD ⟨by omega, by omega⟩ (za9 (zgG x (by omega)) (zcD ⟨by omega, by rw [za7]; omega, by omega⟩ (za9 (zgG x (by omega)) (za9 hg (za9 (zgG x (by omega)) (zcD ⟨by show _ ≤ (sp.1 : Int) + _; omega, by show (sp.1 : Int) + _ ≤ _; omega⟩ (zcD (by omega) (za9 hg (zcD (by rw [List.length_map]; omega) ?_)))))))))
            refine (goOn _ _ _ _ _).trans ?_
            have e1 : (p15.set ((p15.length : Int) - 1 : Int).toNat (r.map mkB ++ [mkB x])) = mkZ (ziw st sp.1 x).stz := by
              rw [show ((p15.length : Int) - 1 : Int).toNat = (mkZ init).length by rw [zbL]; omega, hp, he, zeY]
              show ((mkZ init ++ [r.map mkB]).set _ _) = mkZ ((zcG st).dropLast ++ [ze0 (zcG st) ++ [x]])
              rw [zjk, hdl, hl, zeY]
              show _ = _ ++ [(r ++ [x]).map mkB]
              rw [List.map_append]; rfl
            have e2 : (⟨zbn (mkB x) (ind x : Int) ((mkB x).size : Int), (ind x : Int), (p15.length : Int) - 1, ((r.map mkB).length : Int), (mkS sp).From + (ind x : Int), (mkS sp).To⟩ : Gapi_Verse) = zf6 sp.1 x (zcG st) := by
              unfold zf6
              rw [zis, hpl, hl, List.length_map]
              congr 1
              show (sp.2 : Int) = _
              omega
            rw [e2, e1]
            rfl
          cases hr : st.row with
          | true =>
            refine zaT rfl ?_
            exact tail _ (by unfold zcG; rw [hr]; rfl)
          | false =>
            refine zaY rfl (zcD (by rw [zbL]; omega) ?_)
            refine tail _ ?_
            unfold zcG; rw [hr, if_neg (by decide), zeY]
            rfl
      refine zcC ?_
      cases hf : st.first with
      | true =>
        refine zaY rfl (za9 (zh9 x) ?_)
        cases ht : ziE x with
        | true =>
          rw [if_pos ⟨rfl, rfl⟩]
          refine zaY rfl (zcC ?_)
          by_cases h2l : 2 < x.length
          · refine zaY (decide_eq_true (by rw [za7]; omega)) (zcD ⟨by omega, by rw [za7]; omega, by omega⟩ ?_)
            have := zis x 2
            rw [show ((2 : Nat) : Int) = 2 from rfl] at this
            rw [this]
            exact goOn _ _ _ _ _
          · refine zaT (decide_eq_false (by rw [za7]; omega)) ?_
            rw [hI.t0 hf, List.drop_eq_nil_of_le (by show x.length ≤ 2; omega)]
            exact goOn _ _ _ _ _
        | false =>
          rw [if_neg (by simp)]
          refine zaT rfl ?_
          exact verse _ rfl (by rw [ht]; simp)
      | false =>
        rw [if_neg (by simp)]
        refine zaT rfl ?_
        exact verse _ rfl (by rw [hf]; simp)
end
theorem zj0 {T : List UInt8} {J : ByteArray → (List (List ByteArray)) → (List Gapi_Verse) → Option (Gref17_Poem × (List Gapi_Verse) × Gapi_Spot)} (hT : T.length ≤ 65536) :
    ∀ (n k : Nat) (st : RS), RInv st → k ≤ (zcE T).length → (zcE T).length - k < n →
      za8 (fun _ _ _ _ _ _ => none) (zcL (mkB T) J ((zcE T).map mkS)) n (mkB st.t) (mkZ st.stz) st.vs st.first st.row (k : Int) =
        match zex st ((zfI T).drop k) with
        | .error e => some ((⟨ByteArray.empty, ([] : List (List ByteArray))⟩ : Gref17_Poem), ([] : List Gapi_Verse), e)
        | .ok st' => J (mkB st'.t) (mkZ st'.stz) st'.vs := by
  intro n
  induction n with
  | zero => intro k st h1 h2 h3; omega
  | succ n ih =>
    intro k st hI hk hn
    rw [zbt]
    obtain ⟨ag, hag⟩ : ∃ ag, ag = za8 (fun _ _ _ _ _ _ => none) (zcL (mkB T) J ((zcE T).map mkS)) n := ⟨_, rfl⟩
    rw [← hag] at ih ⊢
    rcases Nat.lt_or_ge k (zcE T).length with h | h
    · obtain ⟨sp, hsp⟩ : ∃ sp, (zcE T)[k]? = some sp := ⟨_, List.getElem?_eq_getElem h⟩
      rw [zjZ hT hI hsp]
      have hi : (zfI T).drop k = (sp.1, (T.drop sp.1).take (sp.2 - sp.1)) :: (zfI T).drop (k + 1) := by
        have hl : k < (zfI T).length := by unfold zfI; rw [List.length_map]; exact h
        rw [List.drop_eq_getElem_cons hl]
        congr 1
        have : (zfI T)[k]? = some (sp.1, (T.drop sp.1).take (sp.2 - sp.1)) := by unfold zfI; rw [List.getElem?_map, hsp]; rfl
        rw [List.getElem?_eq_getElem hl] at this
        exact Option.some.inj this
      rw [hi, zex]
      cases hs : zfs st (sp.1, (T.drop sp.1).take (sp.2 - sp.1)) with
      | error e => rfl
      | ok st' => exact ih (k + 1) st' (hI.step hs) (by omega) (by omega)
    · rw [List.drop_eq_nil_of_le (by unfold zfI; rw [List.length_map]; exact h)]
      unfold zcL
      exact zaT (decide_eq_false (by rw [List.length_map]; omega)) rfl
/-- What reference 17's Read answers. -/
theorem zia (T : List UInt8) : zcZ (mkB T) = match rd T with
    | .error e => some ((⟨ByteArray.empty, ([] : List (List ByteArray))⟩ : Gref17_Poem), ([] : List Gapi_Verse), e)
    | .ok st => some ((⟨mkB st.t, mkZ st.stz⟩ : Gref17_Poem), st.vs, (⟨0, 0⟩ : Gapi_Spot)) := by
  unfold zcZ rd
  by_cases h : 65536 < T.length
  · rw [if_pos h]
    exact zaY (decide_eq_true (by rw [za7]; omega)) rfl
  · rw [if_neg h]
    refine zaT (decide_eq_false (by rw [za7]; omega)) (zcC (za9 (zlB _ (by rw [za7]; omega)) ?_))
    have hl := zf9 T false 0 0
    have hl2 : (zcE T).length ≤ T.length + 1 := hl
    have := zj0 (J := fun (p1 : ByteArray) (p2 : List (List ByteArray)) (l1 : List Gapi_Verse) => some ((⟨p1, p2⟩ : Gref17_Poem), l1, (⟨0, 0⟩ : Gapi_Spot))) (T := T) (by omega) zb0 0 rs0 zkD (Nat.zero_le _) (by unfold zb0; omega)
    rw [List.drop_zero] at this
    exact this
end Go.Proofs.YtgfkogafkhbgnaaDoor
namespace Go.Proofs.YtgfkogafkhbgnaaDoor
open Go.RowKit Go.Lib
set_option linter.unusedVariables false
set_option linter.unusedSimpArgs false
def zb5 (c0 : Gpoem_Poem) (ag1 : Int → Option (List (Int × Gapi_Verse))) (x3 : Int) : Option (List (Int × Gapi_Verse)) := zaU (decide ((x3 : Int) < (c0.told_lines.length : Int))) ( zaG (zdh c0.told_lines x3) fun (q1 : Gapi_Verse) => zpb (x3, q1) <| grd (I64 (x3 + 1)) <| ag1 (x3 + 1)
) ( some []
)
def zcT (c0 : Gpoem_Poem) : Option (List (Int × Gapi_Verse)) := za8 (fun _ => none) (zb5 c0) zb0 0
theorem ze4 {b_c0 p_c0 : Nat} {c0 : Gpoem_Poem} {c0_h0 c0_h1 : Hd} {xs : (List (Int × Gapi_Verse))} (h : zcT c0 = some xs) : ItrR Tryd.prog 52 [zP b_c0] (fun q : Int × Gapi_Verse => [zI q.1, .agg #[.string q.2.Text, zI q.2.Indent, zI q.2.Stanza, zI q.2.In, zI q.2.Span_From, zI q.2.Span_To]]) xs [cells b_c0 [zP p_c0] 23, cells p_c0 [.string c0.told_title, c0_h0.v, c0_h1.v, .string c0.source] 93, vec zam 36 6 c0_h0.v c0.told_lines, vec zav 34 2 c0_h1.v c0.told_stanzas] := by
 unfold zcT at h
 refine ItrR.intro Tryd.func52 rfl Tryd.ntmps52 (by simp) ?_
 intro l w0 K I X hrd hy
 obtain ⟨r0, hx0⟩ : ∃ r, xs = [] ++ r := ⟨xs, rfl⟩
 have hr0 : xs = r0 := hx0
 rw [hr0] at h
 refine zas (zas (zai (zbq (i := 0) hrd rfl zeF rfl dc rfl rfl (zaz rfl dc rfl rfl (zbf Tryd.underlying23) (zap (zaj (zbp rfl (zaP (zaj (zas (zai (zbq (i := 0) hrd rfl zeF rfl dc rfl rfl (zaW rfl dc rfl ?_)))))))))))))
 refine zar zbS rfl dc rfl (show _ = 0 from rfl) (zar zdB rfl dc rfl (show _ = 1 from rfl) (zbq (i := 1) hrd rfl zew rfl dc rfl rfl (zbG (hrd.vw (i := 2) rfl) rfl dc rfl Tryd.underlying57 (zah rfl dc rfl (zap (zaj (za2 ?_)))))))
 refine zbJ (β := Nat × Int × (List (Int × Gapi_Verse)) × (List (Int × Gapi_Verse))) (fun b => za8 (fun _ => none) (zb5 c0) b.1 b.2.1 = some b.2.2.2 ∧ xs = b.2.2.1 ++ b.2.2.2) (fun b => []) (fun b => [(0, .func (.yield l) #[] #[]), (11, c0_h0.v), (12, zI (c0.told_lines.length : Int)), (13, zI b.2.1)]) (fun b => [I b.2.2.1]) (fun b => b.1) (zb0, 0, ([] : List (Int × Gapi_Verse)), r0) ⟨h, hx0⟩ rfl (zad rfl (zad rfl (zad rfl (zad rfl (zaH))))) (zal [0] kr rfl) ?_
 rintro ⟨n1, x3, acc3, rr3⟩ ⟨h, hx3⟩
 cases n1 with
 | zero => exact zdV h
 | succ n1 =>
  obtain ⟨ag1, hag1⟩ : ∃ ag, ag = za8 (fun _ => none) (zb5 c0) n1 := ⟨_, rfl⟩
  have h : zb5 c0 ag1 x3 = some rr3 := by rw [hag1]; exact h
  unfold zb5 at h
  show TC _ _ _ _ _ ([]) _ _ [(0, .func (.yield l) #[] #[]), (11, c0_h0.v), (12, zI (c0.told_lines.length : Int)), (13, zI x3)] [I acc3]
  refine zas (zai (zaz rfl dc rfl rfl zbF (zap (zaj (zas ?_)))))
  refine zaM rfl (fun hb1 => ?_) (fun hb1 => ?_)
  ·
   have h := za0 hb1 h
   refine zaP (zaj (zas (za2 (zas (zai (zah rfl dc rfl ?_))))))
   obtain ⟨q1, hq1, h⟩ := zbN h
   refine zbd (hrd.vw (i := 2) rfl) hq1 Tryd.underlying57 zf3 rfl dc rfl rfl rfl (zdv (m := 0 + (x3 : Int).toNat) (j := 0) (i := 2) (q := q1) (cs := [.string q1.Text, zI q1.Indent, zI q1.Stanza, zI q1.In, zI q1.Span_From, zI q1.Span_To]) hrd rfl zgF zbI rfl dc rfl (Vw.get (hrd.vw (i := 2) rfl) hq1) rfl rfl rfl ?_)
   refine zbl ziF rfl dc (fun b1 => ?_)
   refine zak rfl dc rfl (zaZ (k := 1) (vs := [.string q1.Text, zI q1.Indent, zI q1.Stanza, zI q1.In, zI q1.Span_From, zI q1.Span_To]) (l' := [.string q1.Text, zI q1.Indent, zI q1.Stanza, zI q1.In, zI q1.Span_From, zI q1.Span_To]) zf3 rfl rfl rfl rfl rfl (show _ ≤ _ by simp) rfl rfl ?_)
   show TO _ _ _ _ _ _ _ _ _ _ [I acc3, cells b1 [.string q1.Text, zI q1.Indent, zI q1.Stanza, zI q1.In, zI q1.Span_From, zI q1.Span_To] 36]
   refine zap (zaj (zas (zai (zah rfl dc rfl (zah rfl dc rfl (zbc (k := 1) (cs := [.string q1.Text, zI q1.Indent, zI q1.Stanza, zI q1.In, zI q1.Span_From, zI q1.Span_To]) zgF rfl dc rfl rfl rfl rfl ?_))))))
   obtain ⟨rr4, hr1, h⟩ := zp0 h
   have hx4 : xs = acc3 ++ (x3, q1) :: rr4 := by rw [hx3, hr1]
   refine znC hy rfl dc rfl hx4 rfl (k := 0) rfl ?_ ?_
   ·
    have hx5 : xs = (acc3 ++ [(x3, q1)]) ++ rr4 := by rw [hx4]; simp
    show TO _ _ _ _ _ _ _ _ _ _ [I (acc3 ++ [(x3, q1)]), cells b1 [.string q1.Text, zI q1.Indent, zI q1.Stanza, zI q1.In, zI q1.Span_From, zI q1.Span_To] 36]
    refine zhJ rfl dc rfl zfX (zap (zaj (zbp rfl (zaP (zaA (zaj (zai ?_)))))))
    obtain ⟨hg1, h⟩ := zcb h
    refine zaz rfl dc rfl rfl (zbh (r := x3 + 1) (IntWalk.i64_in _ hg1)) (zah rfl dc rfl (zap ?_))
    subst hag1
    exact zbj (n1, x3 + 1, acc3 ++ [(x3, q1)], rr4) ⟨h, hx5⟩ (Nat.lt_succ_self _) rfl (zad rfl (zad rfl (zad rfl (zad rfl (zaH))))) (zal [0] kr rfl)
   ·
    show TO _ _ _ _ _ _ _ _ _ _ [X (acc3 ++ [(x3, q1)]), cells b1 [.string q1.Text, zI q1.Indent, zI q1.Stanza, zI q1.In, zI q1.Span_From, zI q1.Span_To] 36]
    refine zhJ rfl dc rfl zfX (zap (zaj (zbu rfl (zaX (zaI (zay (zay (zaI ?_))))))))
    exact zox (ds := []) acc3 (x3, q1) rr4 hx4 (.inl rfl) Splits.nil Tryd.results52 (zal [0] kr rfl)
  ·
   have h := za1 hb1 h
   refine zby (zaJ (zaJ (zaV ?_)))
   cases h
   exact zow (ds := []) (.inr rfl) Splits.nil Tryd.results52 (congrArg I (hx3.trans (List.append_nil _))) (zal [0] kr rfl)
def zem (p1 : Gpoem_Poem) : Option Unit := some ()
theorem zfH {bp1 : Nat} {p1 : Gpoem_Poem} {p1_h0 p1_h1 : Hd} {r : Unit} (h : zem p1 = some r) : FnR Tryd.prog 14 [zP bp1] [cells bp1 [.string p1.told_title, p1_h0.v, p1_h1.v, .string p1.source] 93, vec zam 36 6 p1_h0.v p1.told_lines, vec zav 34 2 p1_h1.v p1.told_stanzas] [] (fun v0 : Nat => .func (.func 52) #[] #[zP v0]) (fun v0 => [cells v0 [zP bp1] 23]) := by
 unfold zem at h
 refine FnR.intro Tryd.func14 rfl Tryd.ntmps14 (by simp) ?_
 intro w0 K hrd
 refine zas (zai ?_)
 refine zeE rfl dc rfl (fun b1 => ?_)
 refine zak rfl dc rfl (zap (zaj (zas (zai (zkW (x1 := []) (x2 := [.tmp 1]) rfl dc rfl rfl (zak rfl dc rfl (zap (zaj (zaX ?_)))))))))
 cases h
 exact za3 (rs := [.tmp 2]) b1 (.inl rfl) Tryd.results14 (.cons (.tmp rfl) .nil) rfl (zal [0] kr rfl)
end Go.Proofs.YtgfkogafkhbgnaaDoor
namespace Go.Proofs.YtgfkogafkhbgnaaDoor
open Go.RowKit Go.Lib
set_option linter.unusedVariables false
set_option linter.unusedSimpArgs false
def zcd (s1 : ByteArray) : Option Bool := grd (s1.size ≤ 4294967280) <| some (decide ((0 : Int) ≤ (iaV s1)))
theorem zfh {s1 : ByteArray} {r : Bool} (h : zcd s1 = some r) : FnP Tryd.prog 17 [.string s1, .string (⟨#[13, 10]⟩ : ByteArray)] (.bool r) := by
 unfold zcd at h
 refine FnP.intro Tryd.func17 rfl Tryd.ntmps17 (by simp) ?_
 intro w0 K
 refine zas (zai (zak rfl dc rfl (zap (zaj (zas (zai (zah rfl dc rfl (zah rfl dc rfl ?_))))))))
 obtain ⟨hg1, h⟩ := zcb h
 refine zbH (v := zI (iaV s1)) (vs := [.string s1, .string (⟨#[13, 10]⟩ : ByteArray)]) rfl dc rfl rfl rfl zpK (zoS s1 hg1) (zaz rfl dc rfl rfl zeC (zak rfl dc rfl (zap (zaj (zaX ?_)))))
 cases h
 exact za3 (rs := [.tmp 4]) () (.inl rfl) Tryd.results17 (.cons (.tmp rfl) .nil) rfl Splits.nil
def zhg (s1 : ByteArray) (most1 : Int) : Option Bool := zaU (decide (((s1.size : Int) : Int) ≤ most1)) ( zaG (zcd s1) fun (r1 : Bool) => some (!r1)
) ( some false
)
theorem zkH {s1 : ByteArray} {most1 : Int} {r : Bool} (h : zhg s1 most1 = some r) : FnP Tryd.prog 63 [.string s1, zI most1] (.bool r) := by
 unfold zhg at h
 refine FnP.intro Tryd.func63 rfl Tryd.ntmps63 (by simp) ?_
 intro w0 K
 refine zas (zai (zak rfl dc rfl (zap (zaj (zas (zai (zah rfl dc rfl (zbA rfl dc rfl Tryd.underlying9 (zah rfl dc rfl (zaz rfl dc rfl rfl zjF (zah rfl dc rfl ?_)))))))))))
 refine za6 (s := 9) rfl (fun hb1 => ?_) (fun hb1 => ?_)
 ·
  have h := za0 hb1 h
  refine zah rfl dc rfl ?_
  obtain ⟨r1, hq1, h⟩ := zbN h
  refine zbH (v := .bool r1) (vs := [.string s1, .string (⟨#[13, 10]⟩ : ByteArray)]) rfl dc rfl rfl rfl zpX (zfh hq1) (zhJ rfl dc rfl zfX (zaB (b := true) rfl dc rfl rfl (zak rfl dc rfl (zap (zaj (zaX ?_))))))
  cases h
  exact za3 (rs := [.tmp 4]) () (.inl rfl) Tryd.results63 (.cons (.tmp rfl) .nil) rfl Splits.nil
 ·
  have h := za1 hb1 h
  refine zan rfl dc (zan rfl dc (zan rfl dc (zaB (b := false) rfl dc rfl rfl (zak rfl dc rfl (zap (zaj (zaX ?_)))))))
  cases h
  exact za3 (rs := [.tmp 4]) () (.inl rfl) Tryd.results63 (.cons (.tmp rfl) .nil) rfl Splits.nil
end Go.Proofs.YtgfkogafkhbgnaaDoor
namespace Go.Proofs.YtgfkogafkhbgnaaDoor
open Go.RowKit Go.Lib Go.Shelf
set_option linter.unusedVariables false
set_option linter.unusedSimpArgs false
def znP (s : ByteArray) (n : Int) : Bool := decide ((s.size : Int) ≤ n) && !zi8 s
theorem zlU (s : ByteArray) (h : s.size ≤ 4294967280) : zcd s = some (zi8 s) := by
  unfold zcd
  exact zcD h (congrArg some (zoT s))
theorem zpB (s : ByteArray) (n : Int) (h : n ≤ 4294967280) : FnP Tryd.prog 63 [.string s, .int .i64 n] (.bool (znP s n)) := by
  refine zkH ?_
  unfold zhg znP
  cases hc : decide ((s.size : Int) ≤ n) with
  | true => exact zaY rfl (za9 (zlU s (by have := of_decide_eq_true hc; omega)) rfl)
  | false => exact zaT rfl rfl
end Go.Proofs.YtgfkogafkhbgnaaDoor
namespace Go.Proofs.YtgfkogafkhbgnaaDoor
open Go.RowKit Go.Lib
set_option linter.unusedVariables false
set_option linter.unusedSimpArgs false
def zeg (p1 : Gpoem_Poem) : Option Int := some (p1.told_lines.length : Int)
theorem zd4 {bp1 : Nat} {p1 : Gpoem_Poem} {p1_h0 p1_h1 : Hd} {r : Int} (h : zeg p1 = some r) : FnR Tryd.prog 21 [zP bp1] [cells bp1 [.string p1.told_title, p1_h0.v, p1_h1.v, .string p1.source] 93, vec zam 36 6 p1_h0.v p1.told_lines, vec zav 34 2 p1_h1.v p1.told_stanzas] [] (fun _ : Unit => (zI r)) (fun _ => []) := by
 unfold zeg at h
 refine FnR.intro Tryd.func21 rfl Tryd.ntmps21 (by simp) ?_
 intro w0 K hrd
 refine zas (zai (zak rfl dc rfl (zap (zaj (zas (zas (zai (zah rfl dc rfl (zaz rfl dc rfl rfl (zbf Tryd.underlying23) (zap (zaj (zbp rfl (zaP ?_)))))))))))))
 refine zaj (zas (zai (zah rfl dc rfl (zaW rfl dc rfl (zar zbS rfl dc rfl (show _ = 0 from rfl) (zar zdB rfl dc rfl (show _ = 1 from rfl) (zbq (i := 0) hrd rfl zew rfl dc rfl rfl (zbG (hrd.vw (i := 1) rfl) rfl dc rfl Tryd.underlying57 (zak rfl dc rfl (zap (zaj (zaX ?_))))))))))))
 cases h
 exact za3 (rs := [.tmp 2]) () (.inl rfl) Tryd.results21 (.cons (.tmp rfl) .nil) rfl Splits.nil
def zdU (p1 : Gpoem_Poem) : Option Int := some (p1.told_stanzas.length : Int)
theorem zek {bp1 : Nat} {p1 : Gpoem_Poem} {p1_h0 p1_h1 : Hd} {r : Int} (h : zdU p1 = some r) : FnR Tryd.prog 23 [zP bp1] [cells bp1 [.string p1.told_title, p1_h0.v, p1_h1.v, .string p1.source] 93, vec zam 36 6 p1_h0.v p1.told_lines, vec zav 34 2 p1_h1.v p1.told_stanzas] [] (fun _ : Unit => (zI r)) (fun _ => []) := by
 unfold zdU at h
 refine FnR.intro Tryd.func23 rfl Tryd.ntmps23 (by simp) ?_
 intro w0 K hrd
 refine zas (zai (zak rfl dc rfl (zap (zaj (zas (zas (zai (zah rfl dc rfl (zaz rfl dc rfl rfl (zbf Tryd.underlying23) (zap (zaj (zbp rfl (zaP ?_)))))))))))))
 refine zaj (zas (zai (zah rfl dc rfl (zaW rfl dc rfl (zar zbS rfl dc rfl (show _ = 0 from rfl) (zar zgg rfl dc rfl (show _ = 2 from rfl) (zbq (i := 0) hrd rfl zkC rfl dc rfl rfl (zbG (hrd.vw (i := 2) rfl) rfl dc rfl Tryd.underlying89 (zak rfl dc rfl (zap (zaj (zaX ?_))))))))))))
 cases h
 exact za3 (rs := [.tmp 2]) () (.inl rfl) Tryd.results23 (.cons (.tmp rfl) .nil) rfl Splits.nil
def zef (p1 : Gpoem_Poem) : Option ByteArray := some p1.told_title
theorem zds {bp1 : Nat} {p1 : Gpoem_Poem} {p1_h0 p1_h1 : Hd} {r : ByteArray} (h : zef p1 = some r) : FnR Tryd.prog 24 [zP bp1] [cells bp1 [.string p1.told_title, p1_h0.v, p1_h1.v, .string p1.source] 93, vec zam 36 6 p1_h0.v p1.told_lines, vec zav 34 2 p1_h1.v p1.told_stanzas] [] (fun _ : Unit => (.string r)) (fun _ => []) := by
 unfold zef at h
 refine FnR.intro Tryd.func24 rfl Tryd.ntmps24 (by simp) ?_
 intro w0 K hrd
 refine zas (zai (zak rfl dc rfl (zap (zaj (zas (zas (zai (zah rfl dc rfl (zaz rfl dc rfl rfl (zbf Tryd.underlying23) (zap (zaj (zbp rfl (zaP ?_)))))))))))))
 refine zaj (zas (zai (zah rfl dc rfl (zaW rfl dc rfl (zar zbS rfl dc rfl (show _ = 0 from rfl) (zar zfn rfl dc rfl (show _ = 0 from rfl) (zbq (i := 0) hrd rfl zgm rfl dc rfl rfl (zak rfl dc rfl (zap (zaj (zaX ?_)))))))))))
 cases h
 exact za3 (rs := [.tmp 2]) () (.inl rfl) Tryd.results24 (.cons (.tmp rfl) .nil) rfl Splits.nil
def zez (p1 : Gpoem_Poem) : Option ByteArray := some p1.source
theorem zda {bp1 : Nat} {p1 : Gpoem_Poem} {p1_h0 p1_h1 : Hd} {r : ByteArray} (h : zez p1 = some r) : FnR Tryd.prog 20 [zP bp1] [cells bp1 [.string p1.told_title, p1_h0.v, p1_h1.v, .string p1.source] 93, vec zam 36 6 p1_h0.v p1.told_lines, vec zav 34 2 p1_h1.v p1.told_stanzas] [] (fun _ : Unit => (.string r)) (fun _ => []) := by
 unfold zez at h
 refine FnR.intro Tryd.func20 rfl Tryd.ntmps20 (by simp) ?_
 intro w0 K hrd
 refine zas (zai (zak rfl dc rfl (zap (zaj (zas (zas (zai (zah rfl dc rfl (zaz rfl dc rfl rfl (zbf Tryd.underlying23) (zap (zaj (zbp rfl (zaP ?_)))))))))))))
 refine zaj (zas (zai (zah rfl dc rfl (zaW rfl dc rfl (zar zog rfl dc rfl (show _ = 3 from rfl) (zbq (i := 0) hrd rfl zgm rfl dc rfl rfl (zak rfl dc rfl (zap (zaj (zaX ?_))))))))))
 cases h
 exact za3 (rs := [.tmp 2]) () (.inl rfl) Tryd.results20 (.cons (.tmp rfl) .nil) rfl Splits.nil
def zca (p1 : Gpoem_Poem) (k1 : Int) : Option (Gapi_Verse × Int) := zaU (decide ((k1 : Int) < 0)) ( some ((⟨ByteArray.empty, 0, 0, 0, 0, 0⟩ : Gapi_Verse), 5)
) ( zaU (decide (((p1.told_lines.length : Int) : Int) ≤ k1)) ( some ((⟨ByteArray.empty, 0, 0, 0, 0, 0⟩ : Gapi_Verse), 5)
) ( zaG (zdh p1.told_lines k1) fun (q1 : Gapi_Verse) => some (q1, 0)
)
)
theorem zfG {bp1 : Nat} {p1 : Gpoem_Poem} {p1_h0 p1_h1 : Hd} {k1 : Int} {r : (Gapi_Verse × Int)} (h : zca p1 k1 = some r) : FnR Tryd.prog 28 [zP bp1, zI k1] [cells bp1 [.string p1.told_title, p1_h0.v, p1_h1.v, .string p1.source] 93, vec zam 36 6 p1_h0.v p1.told_lines, vec zav 34 2 p1_h1.v p1.told_stanzas] [] (fun _ : Unit => (.tuple #[.agg #[.string r.1.Text, zI r.1.Indent, zI r.1.Stanza, zI r.1.In, zI r.1.Span_From, zI r.1.Span_To], zI r.2])) (fun _ => []) := by
 unfold zca at h
 refine FnR.intro Tryd.func28 rfl Tryd.ntmps28 (by simp) ?_
 intro w0 K hrd
 refine zas (zai ?_)
 refine zbl ziF rfl dc (fun b1 => ?_)
 refine zak rfl dc rfl (zap (zaj (zas (za2 (zas (zai (zah rfl dc rfl (zaz rfl dc rfl rfl (zbf Tryd.underlying23) (zak rfl dc rfl (zap (zaj (zbp rfl (zas ?_)))))))))))))
 refine zai (zah rfl dc rfl (zaz rfl dc rfl rfl zbF (zah rfl dc rfl ?_)))
 refine za6 (s := 13) rfl (fun hb1 => ?_) (fun hb1 => ?_)
 ·
  have h := za0 hb1 h
  refine zan rfl dc (zan rfl dc (zan rfl dc (zan rfl dc (zan rfl dc (zan rfl dc (zan rfl dc (zan rfl dc (zaB (b := true) rfl dc rfl rfl (zak rfl dc rfl (zap (zaj (zbu rfl (zas ?_)))))))))))))
  refine zai ?_
  refine zbe (v := .agg #[.string ByteArray.empty, zI 0, zI 0, zI 0, zI 0, zI 0]) (ps := []) rfl dc rfl (fun _ => by kernel_rfl) ?_
  refine zaZ (k := 0) (vs := [.string ByteArray.empty, zI 0, zI 0, zI 0, zI 0, zI 0]) (l' := [.string ByteArray.empty, zI 0, zI 0, zI 0, zI 0, zI 0]) zf3 rfl rfl rfl rfl rfl (show _ ≤ _ by simp) rfl rfl ?_
  show TO _ _ _ _ _ _ _ _ _ _ [cells b1 [.string ByteArray.empty, zI 0, zI 0, zI 0, zI 0, zI 0] 36]
  refine zak rfl dc rfl (zap (zaj (zaX (zaI (zay ?_)))))
  cases h
  exact za3 (rs := [.cell 4 36, .tmp 5]) () (.inl rfl) Tryd.results28 (.cons (.cells zgF (k := 0) rfl rfl rfl) (.cons (.tmp rfl) .nil)) rfl Splits.nil
 ·
  have h := za1 hb1 h
  refine zah rfl dc rfl (zah rfl dc rfl (zaW rfl dc rfl (zar zbS rfl dc rfl (show _ = 0 from rfl) (zar zdB rfl dc rfl (show _ = 1 from rfl) (zbq (i := 0) hrd rfl zew rfl dc rfl rfl (zbG (hrd.vw (i := 1) rfl) rfl dc rfl Tryd.underlying57 (zaz rfl dc rfl rfl zeC (zaB (b := false) rfl dc rfl rfl (zak rfl dc rfl (zap (zaj ?_)))))))))))
  refine zaM rfl (fun hb2 => ?_) (fun hb2 => ?_)
  ·
   have h := za0 hb2 h
   refine zas (zai ?_)
   refine zbe (v := .agg #[.string ByteArray.empty, zI 0, zI 0, zI 0, zI 0, zI 0]) (ps := []) rfl dc rfl (fun _ => by kernel_rfl) ?_
   refine zaZ (k := 0) (vs := [.string ByteArray.empty, zI 0, zI 0, zI 0, zI 0, zI 0]) (l' := [.string ByteArray.empty, zI 0, zI 0, zI 0, zI 0, zI 0]) zf3 rfl rfl rfl rfl rfl (show _ ≤ _ by simp) rfl rfl ?_
   show TO _ _ _ _ _ _ _ _ _ _ [cells b1 [.string ByteArray.empty, zI 0, zI 0, zI 0, zI 0, zI 0] 36]
   refine zak rfl dc rfl (zap (zaj (zaX (zaI (zay ?_)))))
   cases h
   exact za3 (rs := [.cell 4 36, .tmp 5]) () (.inl rfl) Tryd.results28 (.cons (.cells zgF (k := 0) rfl rfl rfl) (.cons (.tmp rfl) .nil)) rfl Splits.nil
  ·
   have h := za1 hb2 h
   refine zaP (zaA (zaj (zas (zai (zah rfl dc rfl (zaW rfl dc rfl (zar zbS rfl dc rfl (show _ = 0 from rfl) (zar zdB rfl dc rfl (show _ = 1 from rfl) (zbq (i := 0) hrd rfl zew rfl dc rfl rfl (zah rfl dc rfl ?_))))))))))
   obtain ⟨q1, hq1, h⟩ := zbN h
   refine zbd (hrd.vw (i := 1) rfl) hq1 Tryd.underlying57 zf3 rfl dc rfl rfl rfl (zdv (m := 0 + (k1 : Int).toNat) (j := 0) (i := 1) (q := q1) (cs := [.string q1.Text, zI q1.Indent, zI q1.Stanza, zI q1.In, zI q1.Span_From, zI q1.Span_To]) hrd rfl zgF zbI rfl dc rfl (Vw.get (hrd.vw (i := 1) rfl) hq1) rfl rfl rfl (zaZ (k := 0) (vs := [.string q1.Text, zI q1.Indent, zI q1.Stanza, zI q1.In, zI q1.Span_From, zI q1.Span_To]) (l' := [.string q1.Text, zI q1.Indent, zI q1.Stanza, zI q1.In, zI q1.Span_From, zI q1.Span_To]) zf3 rfl rfl rfl rfl rfl (show _ ≤ _ by simp) rfl rfl ?_))
   show TO _ _ _ _ _ _ _ _ _ _ [cells b1 [.string q1.Text, zI q1.Indent, zI q1.Stanza, zI q1.In, zI q1.Span_From, zI q1.Span_To] 36]
   refine zak rfl dc rfl (zap (zaj (zaX ?_)))
   cases h
   exact za3 (rs := [.cell 4 36, .tmp 5]) () (.inl rfl) Tryd.results28 (.cons (.cells zgF (k := 0) rfl rfl rfl) (.cons (.tmp rfl) .nil)) rfl Splits.nil
def zbQ (p1 : Gpoem_Poem) (k1 : Int) : Option (Gapi_Span × Int) := zaU (decide ((k1 : Int) < 0)) ( some ((⟨0, 0⟩ : Gapi_Span), 5)
) ( zaU (decide (((p1.told_stanzas.length : Int) : Int) ≤ k1)) ( some ((⟨0, 0⟩ : Gapi_Span), 5)
) ( zaG (zdh p1.told_stanzas k1) fun (q1 : Gapi_Span) => some (q1, 0)
)
)
theorem zfk {bp1 : Nat} {p1 : Gpoem_Poem} {p1_h0 p1_h1 : Hd} {k1 : Int} {r : (Gapi_Span × Int)} (h : zbQ p1 k1 = some r) : FnR Tryd.prog 44 [zP bp1, zI k1] [cells bp1 [.string p1.told_title, p1_h0.v, p1_h1.v, .string p1.source] 93, vec zam 36 6 p1_h0.v p1.told_lines, vec zav 34 2 p1_h1.v p1.told_stanzas] [] (fun _ : Unit => (.tuple #[.agg #[zI r.1.From, zI r.1.To], zI r.2])) (fun _ => []) := by
 unfold zbQ at h
 refine FnR.intro Tryd.func44 rfl Tryd.ntmps44 (by simp) ?_
 intro w0 K hrd
 refine zas (zai ?_)
 refine zbl zky rfl dc (fun b1 => ?_)
 refine zak rfl dc rfl (zap (zaj (zas (za2 (zas (zai (zah rfl dc rfl (zaz rfl dc rfl rfl (zbf Tryd.underlying23) (zak rfl dc rfl (zap (zaj (zbp rfl (zas ?_)))))))))))))
 refine zai (zah rfl dc rfl (zaz rfl dc rfl rfl zbF (zah rfl dc rfl ?_)))
 refine za6 (s := 13) rfl (fun hb1 => ?_) (fun hb1 => ?_)
 ·
  have h := za0 hb1 h
  refine zan rfl dc (zan rfl dc (zan rfl dc (zan rfl dc (zan rfl dc (zan rfl dc (zan rfl dc (zan rfl dc (zaB (b := true) rfl dc rfl rfl (zak rfl dc rfl (zap (zaj (zbu rfl (zas ?_)))))))))))))
  refine zai ?_
  refine zbe (v := .agg #[zI 0, zI 0]) (ps := []) rfl dc rfl (fun _ => by kernel_rfl) ?_
  refine zaZ (k := 0) (vs := [zI 0, zI 0]) (l' := [zI 0, zI 0]) zgt rfl rfl rfl rfl rfl (show _ ≤ _ by simp) rfl rfl ?_
  show TO _ _ _ _ _ _ _ _ _ _ [cells b1 [zI 0, zI 0] 34]
  refine zak rfl dc rfl (zap (zaj (zaX (zaI (zay ?_)))))
  cases h
  exact za3 (rs := [.cell 4 34, .tmp 5]) () (.inl rfl) Tryd.results44 (.cons (.cells zhf (k := 0) rfl rfl rfl) (.cons (.tmp rfl) .nil)) rfl Splits.nil
 ·
  have h := za1 hb1 h
  refine zah rfl dc rfl (zah rfl dc rfl (zaW rfl dc rfl (zar zbS rfl dc rfl (show _ = 0 from rfl) (zar zgg rfl dc rfl (show _ = 2 from rfl) (zbq (i := 0) hrd rfl zkC rfl dc rfl rfl (zbG (hrd.vw (i := 2) rfl) rfl dc rfl Tryd.underlying89 (zaz rfl dc rfl rfl zeC (zaB (b := false) rfl dc rfl rfl (zak rfl dc rfl (zap (zaj ?_)))))))))))
  refine zaM rfl (fun hb2 => ?_) (fun hb2 => ?_)
  ·
   have h := za0 hb2 h
   refine zas (zai ?_)
   refine zbe (v := .agg #[zI 0, zI 0]) (ps := []) rfl dc rfl (fun _ => by kernel_rfl) ?_
   refine zaZ (k := 0) (vs := [zI 0, zI 0]) (l' := [zI 0, zI 0]) zgt rfl rfl rfl rfl rfl (show _ ≤ _ by simp) rfl rfl ?_
   show TO _ _ _ _ _ _ _ _ _ _ [cells b1 [zI 0, zI 0] 34]
   refine zak rfl dc rfl (zap (zaj (zaX (zaI (zay ?_)))))
   cases h
   exact za3 (rs := [.cell 4 34, .tmp 5]) () (.inl rfl) Tryd.results44 (.cons (.cells zhf (k := 0) rfl rfl rfl) (.cons (.tmp rfl) .nil)) rfl Splits.nil
  ·
   have h := za1 hb2 h
   refine zaP (zaA (zaj (zas (zai (zah rfl dc rfl (zaW rfl dc rfl (zar zbS rfl dc rfl (show _ = 0 from rfl) (zar zgg rfl dc rfl (show _ = 2 from rfl) (zbq (i := 0) hrd rfl zkC rfl dc rfl rfl (zah rfl dc rfl ?_))))))))))
   obtain ⟨q1, hq1, h⟩ := zbN h
   refine zbd (hrd.vw (i := 2) rfl) hq1 Tryd.underlying89 zgt rfl dc rfl rfl rfl (zdv (m := 0 + (k1 : Int).toNat) (j := 0) (i := 2) (q := q1) (cs := [zI q1.From, zI q1.To]) hrd rfl zhf zbv rfl dc rfl (Vw.get (hrd.vw (i := 2) rfl) hq1) rfl rfl rfl (zaZ (k := 0) (vs := [zI q1.From, zI q1.To]) (l' := [zI q1.From, zI q1.To]) zgt rfl rfl rfl rfl rfl (show _ ≤ _ by simp) rfl rfl ?_))
   show TO _ _ _ _ _ _ _ _ _ _ [cells b1 [zI q1.From, zI q1.To] 34]
   refine zak rfl dc rfl (zap (zaj (zaX ?_)))
   cases h
   exact za3 (rs := [.cell 4 34, .tmp 5]) () (.inl rfl) Tryd.results44 (.cons (.cells zhf (k := 0) rfl rfl rfl) (.cons (.tmp rfl) .nil)) rfl Splits.nil
def zct (p1 : Gpoem_Poem) (q1 : Gpoem_Poem) (j1 : Option Bool) (ag1 : Int → Option Bool) (x3 : Int) : Option Bool := zaU (decide ((x3 : Int) < (p1.told_lines.length : Int))) ( zaG (zdh p1.told_lines x3) fun (q2 : Gapi_Verse) => zaG (zdh q1.told_lines x3) fun (q3 : Gapi_Verse) => zaU (!decide (q2.Text = q3.Text)) ( some false
) ( zaU ((q2.Indent : Int) != q3.Indent) ( some false
) ( zaU ((q2.Stanza : Int) != q3.Stanza) ( some false
) ( grd (I64 (x3 + 1)) <| ag1 (x3 + 1)
)
)
)
) ( j1
)
def zcV (p1 : Gpoem_Poem) (q1 : Gpoem_Poem) : Option Bool := zaU (!decide (p1.told_title = q1.told_title)) ( some false
) ( zaU (((p1.told_lines.length : Int) : Int) != (q1.told_lines.length : Int)) ( some false
) ( zbO (fun (j1 : Option Bool) => za8 (fun _ => none) (zct p1 q1 j1) zb0 0
) ( some true
)
)
)
theorem zdH {bp1 : Nat} {p1 : Gpoem_Poem} {p1_h0 p1_h1 : Hd} {bq1 : Nat} {q1 : Gpoem_Poem} {q1_h0 q1_h1 : Hd} {r : Bool} (h : zcV p1 q1 = some r) : FnR Tryd.prog 19 [zP bp1, zP bq1] [cells bp1 [.string p1.told_title, p1_h0.v, p1_h1.v, .string p1.source] 93, vec zam 36 6 p1_h0.v p1.told_lines, vec zav 34 2 p1_h1.v p1.told_stanzas, cells bq1 [.string q1.told_title, q1_h0.v, q1_h1.v, .string q1.source] 93, vec zam 36 6 q1_h0.v q1.told_lines, vec zav 34 2 q1_h1.v q1.told_stanzas] [] (fun _ : Unit => (.bool r)) (fun _ => []) := by
 unfold zcV at h
 refine FnR.intro Tryd.func19 rfl Tryd.ntmps19 (by simp) ?_
 intro w0 K hrd
 refine zas (zai (zak rfl dc rfl (zap (zaj (zas (zas ?_))))))
 refine zdk (b := !decide (p1.told_title = q1.told_title)) (fun hb1 => ?_) (fun hb1 => ?_)
 ·
  have h := za0 hb1 h
  refine zbR 32 [(0, 8, zP bp1), (1, 9, .bool false), (2, 10, .bool false), (3, 11, zP bq1), (4, 12, .bool false), (5, 13, .bool false), (6, 14, .bool false), (7, 15, zP bp1), (8, 16, zP bp1), (9, 17, zP bp1), (10, 18, zP bp1), (11, 19, .string p1.told_title), (12, 20, zP bq1), (13, 21, zP bq1), (14, 22, zP bq1), (15, 23, zP bq1), (16, 24, .string q1.told_title), (17, 25, .bool true), (18, 26, .bool true), (19, 27, .bool true), (20, 28, undef), (21, 29, undef), (22, 30, undef), (23, 31, undef), (24, 32, undef), (25, 33, undef), (26, 34, undef), (27, 35, undef), (28, 36, undef), (29, 37, undef), (30, 38, undef), (31, 39, undef)] mixed kr kr dc (by rfl) kr kr (zac ?_ (zac ?_ (zac ?_ (zac ?_ (zac ?_ (zac ?_ (zac ?_ (zac ?_ (zac ?_ (zac ?_ (zac ?_ (zac ?_ (zac ?_ (zac ?_ (zac ?_ (zac ?_ (zac ?_ (zac ?_ (zac ?_ (zac ?_ (zac ?_ (zac ?_ (zac ?_ (zac ?_ (zac ?_ (zac ?_ (zac ?_ (zac ?_ (zac ?_ (zac ?_ (zac ?_ (zac ?_ DrawPre.nil)))))))))))))))))))))))))))))))) ?_
  ·
   intro D hn hd hcl hu hi
   refine zah rfl dc (zaE (by rfl) rfl) ?_
   exact zaf 0 hu hi rfl
  ·
   intro D hn hd hcl hu hi
   refine zaz rfl dc (zab (m := 0) hu rfl (hd 0 dc)) rfl (zbf Tryd.underlying23) ?_
   exact zaf 1 hu hi rfl
  ·
   intro D hn hd hcl hu hi
   refine zah rfl dc (zab (m := 1) hu rfl (hd 1 dc)) ?_
   exact zaf 2 hu hi rfl
  ·
   intro D hn hd hcl hu hi
   refine zah (zbD rfl (zab (m := 2) hu rfl (hd 2 dc))) dc (zaE (by rfl) rfl) ?_
   exact zaf 3 hu hi rfl
  ·
   intro D hn hd hcl hu hi
   refine zaz (zbD rfl (zab (m := 2) hu rfl (hd 2 dc))) dc (zab (m := 3) hu rfl (hd 3 dc)) rfl (zbf Tryd.underlying23) ?_
   exact zaf 4 hu hi rfl
  ·
   intro D hn hd hcl hu hi
   refine zaB (b := false) rfl dc (zab (m := 2) hu rfl (hd 2 dc)) (zab (m := 4) hu rfl (hd 4 dc)) ?_
   exact zaf 5 hu hi rfl
  ·
   intro D hn hd hcl hu hi
   refine zah rfl dc (zab (m := 5) hu rfl (hd 5 dc)) ?_
   exact zaf 6 hu hi rfl
  ·
   intro D hn hd hcl hu hi
   refine zah (zbD rfl (zab (m := 6) hu rfl (hd 6 dc))) dc (zaE (by rfl) rfl) ?_
   exact zaf 7 hu hi rfl
  ·
   intro D hn hd hcl hu hi
   refine zaW (zbD rfl (zab (m := 6) hu rfl (hd 6 dc))) dc (zab (m := 7) hu rfl (hd 7 dc)) ?_
   exact zaf 8 hu hi rfl
  ·
   intro D hn hd hcl hu hi
   refine zar zbS (zbD rfl (zab (m := 6) hu rfl (hd 6 dc))) dc (zab (m := 8) hu rfl (hd 8 dc)) (show _ = 0 from rfl) ?_
   exact zaf 9 hu hi rfl
  ·
   intro D hn hd hcl hu hi
   refine zar zfn (zbD rfl (zab (m := 6) hu rfl (hd 6 dc))) dc (zab (m := 9) hu rfl (hd 9 dc)) (show _ = 0 from rfl) ?_
   exact zaf 10 hu hi rfl
  ·
   intro D hn hd hcl hu hi
   refine zbq (i := 0) hrd rfl zgm (zbD rfl (zab (m := 6) hu rfl (hd 6 dc))) dc (zab (m := 10) hu rfl (hd 10 dc)) rfl ?_
   exact zaf 11 hu hi rfl
  ·
   intro D hn hd hcl hu hi
   refine zah (zbD rfl (zab (m := 6) hu rfl (hd 6 dc))) dc (zaE (by rfl) rfl) ?_
   exact zaf 12 hu hi rfl
  ·
   intro D hn hd hcl hu hi
   refine zaW (zbD rfl (zab (m := 6) hu rfl (hd 6 dc))) dc (zab (m := 12) hu rfl (hd 12 dc)) ?_
   exact zaf 13 hu hi rfl
  ·
   intro D hn hd hcl hu hi
   refine zar zbS (zbD rfl (zab (m := 6) hu rfl (hd 6 dc))) dc (zab (m := 13) hu rfl (hd 13 dc)) (show _ = 0 from rfl) ?_
   exact zaf 14 hu hi rfl
  ·
   intro D hn hd hcl hu hi
   refine zar zfn (zbD rfl (zab (m := 6) hu rfl (hd 6 dc))) dc (zab (m := 14) hu rfl (hd 14 dc)) (show _ = 0 from rfl) ?_
   exact zaf 15 hu hi rfl
  ·
   intro D hn hd hcl hu hi
   refine zbq (i := 3) hrd rfl zgm (zbD rfl (zab (m := 6) hu rfl (hd 6 dc))) dc (zab (m := 15) hu rfl (hd 15 dc)) rfl ?_
   exact zaf 16 hu hi rfl
  ·
   intro D hn hd hcl hu hi
   refine zaz (zbD rfl (zab (m := 6) hu rfl (hd 6 dc))) dc (zab (m := 11) hu rfl (hd 11 dc)) (zab (m := 16) hu rfl (hd 16 dc)) zcY (zbP (show Value.bool (!decide (p1.told_title = q1.told_title)) = Value.bool true from congrArg Value.bool hb1) ?_)
   exact zaf 17 hu hi rfl
  ·
   intro D hn hd hcl hu hi
   refine zaB (b := false) rfl dc (zab (m := 6) hu rfl (hd 6 dc)) (zab (m := 17) hu rfl (hd 17 dc)) ?_
   exact zaf 18 hu hi rfl
  ·
   intro D hn hd hcl hu hi
   refine zah rfl dc (zab (m := 18) hu rfl (hd 18 dc)) ?_
   exact zaf 19 hu hi rfl
  ·
   intro D hn hd hcl hu hi
   refine zan (zb3 rfl (zab (m := 19) hu rfl (hd 19 dc))) dc ?_
   exact zaf 20 hu hi rfl
  ·
   intro D hn hd hcl hu hi
   refine zan (zb3 rfl (zab (m := 19) hu rfl (hd 19 dc))) dc ?_
   exact zaf 21 hu hi rfl
  ·
   intro D hn hd hcl hu hi
   refine zan (zb3 rfl (zab (m := 19) hu rfl (hd 19 dc))) dc ?_
   exact zaf 22 hu hi rfl
  ·
   intro D hn hd hcl hu hi
   refine zan (zb3 rfl (zab (m := 19) hu rfl (hd 19 dc))) dc ?_
   exact zaf 23 hu hi rfl
  ·
   intro D hn hd hcl hu hi
   refine zan (zb3 rfl (zab (m := 19) hu rfl (hd 19 dc))) dc ?_
   exact zaf 24 hu hi rfl
  ·
   intro D hn hd hcl hu hi
   refine zan (zb3 rfl (zab (m := 19) hu rfl (hd 19 dc))) dc ?_
   exact zaf 25 hu hi rfl
  ·
   intro D hn hd hcl hu hi
   refine zan (zb3 rfl (zab (m := 19) hu rfl (hd 19 dc))) dc ?_
   exact zaf 26 hu hi rfl
  ·
   intro D hn hd hcl hu hi
   refine zan (zb3 rfl (zab (m := 19) hu rfl (hd 19 dc))) dc ?_
   exact zaf 27 hu hi rfl
  ·
   intro D hn hd hcl hu hi
   refine zan (zb3 rfl (zab (m := 19) hu rfl (hd 19 dc))) dc ?_
   exact zaf 28 hu hi rfl
  ·
   intro D hn hd hcl hu hi
   refine zan (zb3 rfl (zab (m := 19) hu rfl (hd 19 dc))) dc ?_
   exact zaf 29 hu hi rfl
  ·
   intro D hn hd hcl hu hi
   refine zan (zb3 rfl (zab (m := 19) hu rfl (hd 19 dc))) dc ?_
   exact zaf 30 hu hi rfl
  ·
   intro D hn hd hcl hu hi
   refine zan (zb3 rfl (zab (m := 19) hu rfl (hd 19 dc))) dc ?_
   exact zaf 31 hu hi rfl
  refine zan rfl dc (zaB (b := true) rfl dc rfl rfl (zap (zaj (zbu rfl (zas (zai (zak rfl dc rfl (zap (zaj (zaX (zay ?_)))))))))))
  cases h
  exact za3 (rs := [.tmp 4]) () (.inl rfl) Tryd.results19 (.cons (.tmp rfl) .nil) rfl Splits.nil
 ·
  have h := za1 hb1 h
  refine zbR 32 [(0, 8, zP bp1), (1, 9, .bool false), (2, 10, .bool false), (3, 11, zP bq1), (4, 12, .bool false), (5, 13, .bool false), (6, 14, .bool false), (7, 15, zP bp1), (8, 16, zP bp1), (9, 17, zP bp1), (10, 18, zP bp1), (11, 19, .string p1.told_title), (12, 20, zP bq1), (13, 21, zP bq1), (14, 22, zP bq1), (15, 23, zP bq1), (16, 24, .string q1.told_title), (17, 25, .bool false), (18, 26, .bool false), (19, 27, .bool false), (20, 28, zP bp1), (21, 29, zP bp1), (22, 30, zP bp1), (23, 31, .pointer (some ⟨bp1, 1, none⟩)), (24, 32, p1_h0.v), (25, 33, zI (p1.told_lines.length : Int)), (26, 34, zP bq1), (27, 35, zP bq1), (28, 36, zP bq1), (29, 37, .pointer (some ⟨bq1, 1, none⟩)), (30, 38, q1_h0.v), (31, 39, zI (q1.told_lines.length : Int))] mixed kr kr dc (by rfl) kr kr (zac ?_ (zac ?_ (zac ?_ (zac ?_ (zac ?_ (zac ?_ (zac ?_ (zac ?_ (zac ?_ (zac ?_ (zac ?_ (zac ?_ (zac ?_ (zac ?_ (zac ?_ (zac ?_ (zac ?_ (zac ?_ (zac ?_ (zac ?_ (zac ?_ (zac ?_ (zac ?_ (zac ?_ (zac ?_ (zac ?_ (zac ?_ (zac ?_ (zac ?_ (zac ?_ (zac ?_ (zac ?_ DrawPre.nil)))))))))))))))))))))))))))))))) ?_
  ·
   intro D hn hd hcl hu hi
   refine zah rfl dc (zaE (by rfl) rfl) ?_
   exact zaf 0 hu hi rfl
  ·
   intro D hn hd hcl hu hi
   refine zaz rfl dc (zab (m := 0) hu rfl (hd 0 dc)) rfl (zbf Tryd.underlying23) ?_
   exact zaf 1 hu hi rfl
  ·
   intro D hn hd hcl hu hi
   refine zah rfl dc (zab (m := 1) hu rfl (hd 1 dc)) ?_
   exact zaf 2 hu hi rfl
  ·
   intro D hn hd hcl hu hi
   refine zah (zbD rfl (zab (m := 2) hu rfl (hd 2 dc))) dc (zaE (by rfl) rfl) ?_
   exact zaf 3 hu hi rfl
  ·
   intro D hn hd hcl hu hi
   refine zaz (zbD rfl (zab (m := 2) hu rfl (hd 2 dc))) dc (zab (m := 3) hu rfl (hd 3 dc)) rfl (zbf Tryd.underlying23) ?_
   exact zaf 4 hu hi rfl
  ·
   intro D hn hd hcl hu hi
   refine zaB (b := false) rfl dc (zab (m := 2) hu rfl (hd 2 dc)) (zab (m := 4) hu rfl (hd 4 dc)) ?_
   exact zaf 5 hu hi rfl
  ·
   intro D hn hd hcl hu hi
   refine zah rfl dc (zab (m := 5) hu rfl (hd 5 dc)) ?_
   exact zaf 6 hu hi rfl
  ·
   intro D hn hd hcl hu hi
   refine zah (zbD rfl (zab (m := 6) hu rfl (hd 6 dc))) dc (zaE (by rfl) rfl) ?_
   exact zaf 7 hu hi rfl
  ·
   intro D hn hd hcl hu hi
   refine zaW (zbD rfl (zab (m := 6) hu rfl (hd 6 dc))) dc (zab (m := 7) hu rfl (hd 7 dc)) ?_
   exact zaf 8 hu hi rfl
  ·
   intro D hn hd hcl hu hi
   refine zar zbS (zbD rfl (zab (m := 6) hu rfl (hd 6 dc))) dc (zab (m := 8) hu rfl (hd 8 dc)) (show _ = 0 from rfl) ?_
   exact zaf 9 hu hi rfl
  ·
   intro D hn hd hcl hu hi
   refine zar zfn (zbD rfl (zab (m := 6) hu rfl (hd 6 dc))) dc (zab (m := 9) hu rfl (hd 9 dc)) (show _ = 0 from rfl) ?_
   exact zaf 10 hu hi rfl
  ·
   intro D hn hd hcl hu hi
   refine zbq (i := 0) hrd rfl zgm (zbD rfl (zab (m := 6) hu rfl (hd 6 dc))) dc (zab (m := 10) hu rfl (hd 10 dc)) rfl ?_
   exact zaf 11 hu hi rfl
  ·
   intro D hn hd hcl hu hi
   refine zah (zbD rfl (zab (m := 6) hu rfl (hd 6 dc))) dc (zaE (by rfl) rfl) ?_
   exact zaf 12 hu hi rfl
  ·
   intro D hn hd hcl hu hi
   refine zaW (zbD rfl (zab (m := 6) hu rfl (hd 6 dc))) dc (zab (m := 12) hu rfl (hd 12 dc)) ?_
   exact zaf 13 hu hi rfl
  ·
   intro D hn hd hcl hu hi
   refine zar zbS (zbD rfl (zab (m := 6) hu rfl (hd 6 dc))) dc (zab (m := 13) hu rfl (hd 13 dc)) (show _ = 0 from rfl) ?_
   exact zaf 14 hu hi rfl
  ·
   intro D hn hd hcl hu hi
   refine zar zfn (zbD rfl (zab (m := 6) hu rfl (hd 6 dc))) dc (zab (m := 14) hu rfl (hd 14 dc)) (show _ = 0 from rfl) ?_
   exact zaf 15 hu hi rfl
  ·
   intro D hn hd hcl hu hi
   refine zbq (i := 3) hrd rfl zgm (zbD rfl (zab (m := 6) hu rfl (hd 6 dc))) dc (zab (m := 15) hu rfl (hd 15 dc)) rfl ?_
   exact zaf 16 hu hi rfl
  ·
   intro D hn hd hcl hu hi
   refine zaz (zbD rfl (zab (m := 6) hu rfl (hd 6 dc))) dc (zab (m := 11) hu rfl (hd 11 dc)) (zab (m := 16) hu rfl (hd 16 dc)) zcY (zbP (show Value.bool (!decide (p1.told_title = q1.told_title)) = Value.bool false from congrArg Value.bool hb1) ?_)
   exact zaf 17 hu hi rfl
  ·
   intro D hn hd hcl hu hi
   refine zaB (b := false) rfl dc (zab (m := 6) hu rfl (hd 6 dc)) (zab (m := 17) hu rfl (hd 17 dc)) ?_
   exact zaf 18 hu hi rfl
  ·
   intro D hn hd hcl hu hi
   refine zah rfl dc (zab (m := 18) hu rfl (hd 18 dc)) ?_
   exact zaf 19 hu hi rfl
  ·
   intro D hn hd hcl hu hi
   refine zah (zbD rfl (zab (m := 19) hu rfl (hd 19 dc))) dc (zaE (by rfl) rfl) ?_
   exact zaf 20 hu hi rfl
  ·
   intro D hn hd hcl hu hi
   refine zaW (zbD rfl (zab (m := 19) hu rfl (hd 19 dc))) dc (zab (m := 20) hu rfl (hd 20 dc)) ?_
   exact zaf 21 hu hi rfl
  ·
   intro D hn hd hcl hu hi
   refine zar zbS (zbD rfl (zab (m := 19) hu rfl (hd 19 dc))) dc (zab (m := 21) hu rfl (hd 21 dc)) (show _ = 0 from rfl) ?_
   exact zaf 22 hu hi rfl
  ·
   intro D hn hd hcl hu hi
   refine zar zdB (zbD rfl (zab (m := 19) hu rfl (hd 19 dc))) dc (zab (m := 22) hu rfl (hd 22 dc)) (show _ = 1 from rfl) ?_
   exact zaf 23 hu hi rfl
  ·
   intro D hn hd hcl hu hi
   refine zbq (i := 0) hrd rfl zew (zbD rfl (zab (m := 19) hu rfl (hd 19 dc))) dc (zab (m := 23) hu rfl (hd 23 dc)) rfl ?_
   exact zaf 24 hu hi rfl
  ·
   intro D hn hd hcl hu hi
   refine zbG (hrd.vw (i := 1) rfl) (zbD rfl (zab (m := 19) hu rfl (hd 19 dc))) dc (zab (m := 24) hu rfl (hd 24 dc)) Tryd.underlying57 ?_
   exact zaf 25 hu hi rfl
  ·
   intro D hn hd hcl hu hi
   refine zah (zbD rfl (zab (m := 19) hu rfl (hd 19 dc))) dc (zaE (by rfl) rfl) ?_
   exact zaf 26 hu hi rfl
  ·
   intro D hn hd hcl hu hi
   refine zaW (zbD rfl (zab (m := 19) hu rfl (hd 19 dc))) dc (zab (m := 26) hu rfl (hd 26 dc)) ?_
   exact zaf 27 hu hi rfl
  ·
   intro D hn hd hcl hu hi
   refine zar zbS (zbD rfl (zab (m := 19) hu rfl (hd 19 dc))) dc (zab (m := 27) hu rfl (hd 27 dc)) (show _ = 0 from rfl) ?_
   exact zaf 28 hu hi rfl
  ·
   intro D hn hd hcl hu hi
   refine zar zdB (zbD rfl (zab (m := 19) hu rfl (hd 19 dc))) dc (zab (m := 28) hu rfl (hd 28 dc)) (show _ = 1 from rfl) ?_
   exact zaf 29 hu hi rfl
  ·
   intro D hn hd hcl hu hi
   refine zbq (i := 3) hrd rfl zew (zbD rfl (zab (m := 19) hu rfl (hd 19 dc))) dc (zab (m := 29) hu rfl (hd 29 dc)) rfl ?_
   exact zaf 30 hu hi rfl
  ·
   intro D hn hd hcl hu hi
   refine zbG (hrd.vw (i := 4) rfl) (zbD rfl (zab (m := 19) hu rfl (hd 19 dc))) dc (zab (m := 30) hu rfl (hd 30 dc)) Tryd.underlying57 ?_
   exact zaf 31 hu hi rfl
  refine zaz rfl dc rfl rfl zbE (zaB (b := false) rfl dc rfl rfl (zap (zaj ?_)))
  refine zaM rfl (fun hb2 => ?_) (fun hb2 => ?_)
  ·
   have h := za0 hb2 h
   refine zas (zai (zak rfl dc rfl (zap (zaj (zaX (zay ?_))))))
   cases h
   exact za3 (rs := [.tmp 4]) () (.inl rfl) Tryd.results19 (.cons (.tmp rfl) .nil) rfl Splits.nil
  ·
   have h := za1 hb2 h
   refine zaP (zaj ?_)
   obtain ⟨j1, hj1, h⟩ := zcp h
   refine zbm (β := Unit) 0 rfl (fun b => j1 = some r) (fun b => []) (fun b => []) (fun b => []) (fun cut => ?_) ?_
   ·
    refine cut (zas (zai (zah rfl dc rfl (zaW rfl dc rfl (zar zbS rfl dc rfl (show _ = 0 from rfl) (zar zdB rfl dc rfl (show _ = 1 from rfl) (zbq (i := 0) hrd rfl zew rfl dc rfl rfl (zbG (hrd.vw (i := 1) rfl) rfl dc rfl Tryd.underlying57 (zah rfl dc rfl (zap (zaj (za2 ?_))))))))))))
    refine zbJ (β := Nat × Int) (fun b => za8 (fun _ => none) (zct p1 q1 j1) b.1 b.2 = some r) (fun b => []) (fun b => [(1, zP bq1), (46, p1_h0.v), (47, zI (p1.told_lines.length : Int)), (48, zI b.2)]) (fun b => []) (fun b => b.1) (zb0, 0) h rfl (zad rfl (zad rfl (zad rfl (zad rfl (zaH))))) Splits.nil ?_
    rintro ⟨n1, x3⟩ h
    cases n1 with
    | zero => exact zdV h
    | succ n1 =>
     obtain ⟨ag1, hag1⟩ : ∃ ag, ag = za8 (fun _ => none) (zct p1 q1 j1) n1 := ⟨_, rfl⟩
     have h : zct p1 q1 j1 ag1 x3 = some r := by rw [hag1]; exact h
     unfold zct at h
     show TC _ _ _ _ _ ([]) _ _ [(1, zP bq1), (46, p1_h0.v), (47, zI (p1.told_lines.length : Int)), (48, zI x3)] []
     refine zas (zai (zaz rfl dc rfl rfl zbF (zap (zaj (zas ?_)))))
     refine zaM rfl (fun hb3 => ?_) (fun hb3 => ?_)
     ·
      have h := za0 hb3 h
      refine zaP (zaj (zas (za2 (zas (zai (zah rfl dc rfl ?_))))))
      obtain ⟨q2, hq1, h⟩ := zbN h
      refine zbd (hrd.vw (i := 1) rfl) hq1 Tryd.underlying57 zf3 rfl dc rfl rfl rfl (zdv (m := 0 + (x3 : Int).toNat) (j := 0) (i := 1) (q := q2) (cs := [.string q2.Text, zI q2.Indent, zI q2.Stanza, zI q2.In, zI q2.Span_From, zI q2.Span_To]) hrd rfl zgF zbI rfl dc rfl (Vw.get (hrd.vw (i := 1) rfl) hq1) rfl rfl rfl ?_)
      refine zbl ziF rfl dc (fun b1 => ?_)
      refine zak rfl dc rfl (zaZ (k := 0) (vs := [.string q2.Text, zI q2.Indent, zI q2.Stanza, zI q2.In, zI q2.Span_From, zI q2.Span_To]) (l' := [.string q2.Text, zI q2.Indent, zI q2.Stanza, zI q2.In, zI q2.Span_From, zI q2.Span_To]) zf3 rfl rfl rfl rfl rfl (show _ ≤ _ by simp) rfl rfl ?_)
      show TO _ _ _ _ _ _ _ _ _ _ [cells b1 [.string q2.Text, zI q2.Indent, zI q2.Stanza, zI q2.In, zI q2.Span_From, zI q2.Span_To] 36]
      refine zap (zaj (zas (zai (zah rfl dc rfl (zaW rfl dc rfl (zar zbS rfl dc rfl (show _ = 0 from rfl) (zar zdB rfl dc rfl (show _ = 1 from rfl) (zbq (i := 3) hrd rfl zew rfl dc rfl rfl (zah rfl dc rfl ?_)))))))))
      obtain ⟨q3, hq2, h⟩ := zbN h
      refine zbd (hrd.vw (i := 4) rfl) hq2 Tryd.underlying57 zf3 rfl dc rfl rfl rfl (zdv (m := 0 + (x3 : Int).toNat) (j := 0) (i := 4) (q := q3) (cs := [.string q3.Text, zI q3.Indent, zI q3.Stanza, zI q3.In, zI q3.Span_From, zI q3.Span_To]) hrd rfl zgF zbI rfl dc rfl (Vw.get (hrd.vw (i := 4) rfl) hq2) rfl rfl rfl ?_)
      refine zbl ziF rfl dc (fun b2 => ?_)
      refine zaZ (k := 1) (vs := [.string q3.Text, zI q3.Indent, zI q3.Stanza, zI q3.In, zI q3.Span_From, zI q3.Span_To]) (l' := [.string q3.Text, zI q3.Indent, zI q3.Stanza, zI q3.In, zI q3.Span_From, zI q3.Span_To]) zf3 rfl rfl rfl rfl rfl (show _ ≤ _ by simp) rfl rfl ?_
      show TO _ _ _ _ _ _ _ _ _ _ [cells b1 [.string q2.Text, zI q2.Indent, zI q2.Stanza, zI q2.In, zI q2.Span_From, zI q2.Span_To] 36, cells b2 [.string q3.Text, zI q3.Indent, zI q3.Stanza, zI q3.In, zI q3.Span_From, zI q3.Span_To] 36]
      refine zap (zaj (zas (zai (zar zkP rfl dc rfl (show _ = 0 from rfl) (zaN (k := 0) zgm rfl dc rfl rfl rfl (zar zkP rfl dc rfl (show _ = 0 from rfl) (zaN (k := 1) zgm rfl dc rfl rfl rfl (zaz rfl dc rfl rfl zcY (zah rfl dc rfl ?_)))))))))
      refine za6 (s := 66) rfl (fun hb4 => ?_) (fun hb4 => ?_)
      ·
       have h := za0 hb4 h
       refine zan rfl dc (zan rfl dc (zan rfl dc (zan rfl dc (zan rfl dc (zaB (b := true) rfl dc rfl rfl (zah rfl dc rfl (zan rfl dc (zan rfl dc (zan rfl dc (zan rfl dc (zan rfl dc (zaB (b := true) rfl dc rfl rfl (zap ?_)))))))))))))
       refine zaj (zbu rfl (zas (zai (zak rfl dc rfl (zap (zaj (zaX (zaI (zay (zay (zaI (zay ?_))))))))))))
       cases h
       exact za3 (rs := [.tmp 4]) () (.inl rfl) Tryd.results19 (.cons (.tmp rfl) .nil) rfl Splits.nil
      ·
       have h := za1 hb4 h
       refine zar zkO rfl dc rfl (show _ = 1 from rfl) (zaN (k := 0) zfb rfl dc rfl rfl rfl (zar zkO rfl dc rfl (show _ = 1 from rfl) (zaN (k := 1) zfb rfl dc rfl rfl rfl (zaz rfl dc rfl rfl zbE (zaB (b := false) rfl dc rfl rfl (zah rfl dc rfl ?_))))))
       refine za6 (s := 73) rfl (fun hb5 => ?_) (fun hb5 => ?_)
       ·
        have h := za0 hb5 h
        refine zan rfl dc (zan rfl dc (zan rfl dc (zan rfl dc (zan rfl dc (zaB (b := true) rfl dc rfl rfl (zap (zaj (zbu rfl (zas (zai (zak rfl dc rfl (zap (zaj ?_)))))))))))))
        refine zaX (zaI (zay (zay (zaI (zay ?_)))))
        cases h
        exact za3 (rs := [.tmp 4]) () (.inl rfl) Tryd.results19 (.cons (.tmp rfl) .nil) rfl Splits.nil
       ·
        have h := za1 hb5 h
        refine zar zio rfl dc rfl (show _ = 2 from rfl) (zaN (k := 0) zfb rfl dc rfl rfl rfl (zar zio rfl dc rfl (show _ = 2 from rfl) (zaN (k := 1) zfb rfl dc rfl rfl rfl (zaz rfl dc rfl rfl zbE (zaB (b := false) rfl dc rfl rfl (zap (zaj ?_)))))))
        refine zaM rfl (fun hb6 => ?_) (fun hb6 => ?_)
        ·
         have h := za0 hb6 h
         refine zas (zai (zak rfl dc rfl (zap (zaj (zaX (zaI (zay (zay (zaI (zay ?_))))))))))
         cases h
         exact za3 (rs := [.tmp 4]) () (.inl rfl) Tryd.results19 (.cons (.tmp rfl) .nil) rfl Splits.nil
        ·
         have h := za1 hb6 h
         refine zaP (zaA (zaj (zai ?_)))
         obtain ⟨hg1, h⟩ := zcb h
         refine zaz rfl dc rfl rfl (zbh (r := x3 + 1) (IntWalk.i64_in _ hg1)) (zah rfl dc rfl (zap ?_))
         subst hag1
         exact zbj (n1, x3 + 1) h (Nat.lt_succ_self _) rfl (zad rfl (zad rfl (zad rfl (zad rfl (zaH))))) Splits.nil
     ·
      have h := za1 hb3 h
      refine zby (zaJ (zaJ (zaV ?_)))
      exact zaO () h rfl (zaH) Splits.nil
   ·
    rintro _ h
    rw [hj1] at h
    show TC _ _ _ _ _ ([]) _ _ [] []
    refine zas (zai (zak rfl dc rfl (zap (zaj (zaX ?_)))))
    cases h
    exact za3 (rs := [.tmp 4]) () (.inl rfl) Tryd.results19 (.cons (.tmp rfl) .nil) rfl Splits.nil
end Go.Proofs.YtgfkogafkhbgnaaDoor
namespace Go.Proofs.YtgfkogafkhbgnaaDoor
open Go.RowKit Go.Lib Go.Shelf
attribute [local go_sem] Oper.semAt_some zn2 zlu zlv
set_option linter.unusedVariables false

end Go.Proofs.YtgfkogafkhbgnaaDoor
namespace Go.Proofs.YtgfkogafkhbgnaaDoor
open Go.RowKit Go.Lib

/-- The slice value v owns the bytes b. -/
def Br (w : World) (base : Nat) (e : TypeId) (v : Value) (b : ByteArray) : Prop := w.ownsRow base e 1 v b.size (strCells b)
theorem Br.nil (w : World) (base : Nat) (e : TypeId) : Br w base e (.slice none 0 0) ⟨#[]⟩ := World.ownsRow_nil w base e 1
theorem Br.below {w w' : World} {base : Nat} {e : TypeId} {v : Value} {b : ByteArray} (h : Br w base e v b) (hb : Below w.heap.size w w') : Br w' base e v b := by
  refine ⟨h.1, ?_⟩
  rcases h.2 with hn | ⟨g, cap, cur, rfl, h2, h3, rest⟩
  · exact .inl hn
  · exact .inr ⟨g, cap, cur, rfl, h2, zl6 h3 hb, rest⟩
theorem Br.lt {w : World} {base : Nat} {e : TypeId} {v : Value} {b : ByteArray} (h : Br w base e v b) : ∀ k, v.ownBlock = some k → base ≤ k ∧ k < w.heap.size := World.ownsRow.lt h
theorem Br.conv {P : Program} {w : World} {base : Nat} {el : TypeId} {v : Value} {b : ByteArray} (h : Br w base el v b) (src dst e : TypeId) (hs : P.underlying src = some (.slice e)) (he : P.underlying e = some (.int .u8)) (hd : P.underlying dst = some .string) :
    (convert src dst v).run P w = .ok (.string b) w := by
  rcases h.2 with ⟨rfl, h2⟩ | ⟨g, cap, cur, rfl, _, _, _⟩
  · have hb : b = ⟨#[]⟩ := by
      apply ByteArray.ext; exact Array.eq_empty_of_size_eq_zero h2
    rw [hb]; exact run_convert_nil_bytes w src dst e 0 hs he hd
  · have hl : b.data.toList.length = b.size := by rw [Array.length_toList]; rfl
    have := run_convert_bytes_back (P := P) w src dst e ⟨g, 0, none⟩ cap b.data.toList hs he hd (fun j hj => by
      refine World.ownsRow.cells h rfl j _ ?_
      unfold strCells; rw [List.getElem?_map, List.getElem?_eq_getElem hj]; rfl)
    rw [hl] at this
    rw [this]

end Go.Proofs.YtgfkogafkhbgnaaDoor
namespace Go.Proofs.YtgfkogafkhbgnaaDoor
open Go.RowKit Go.Lib Go.Shelf
attribute [local go_sem] Oper.semAt_some
set_option linter.unusedVariables false
set_option linter.unusedSimpArgs false

theorem zpd : (Tryd.prog.info? 5).map (fun i => (i.zero, i.size, i.bytes)) = some (some (.int .u8 0), 1, 1) := by kernel_rfl
theorem zpe : ∃ j, Tryd.prog.info? 106 = some j ∧ j.size ≠ 0 := by
  have h : (Tryd.prog.info? 106).map (fun j => decide (j.size ≠ 0)) = some true := by kernel_rfl
  cases hj : Tryd.prog.info? 106 with
  | none => rw [hj] at h; simp at h
  | some j => rw [hj] at h; exact ⟨j, rfl, by simpa using h⟩

theorem zmS (b : Nat) (v : Value) (w : World) (h : w.heap[b]? = some (.cells #[.pointer none, v] 106 (0, 0))) :
    Calls Tryd.prog 79 #[.pointer (some ⟨b, 0, none⟩)] w fun e w' => e = .returned (.tuple #[]) ∧ w' = w.setCell ⟨b, 0, none⟩ (.pointer (some ⟨b, 0, none⟩)) := by
  have c0 : w.cell? ⟨b, 0, none⟩ = some (.pointer none) := zeM h rfl
  have f0 := zkf h 0
  have hsh : w.shape? b = some (106, 2) := by simp [World.shape?, h]
  obtain ⟨j, hj, hjs⟩ := zpe
  clear h
  go_enter Tryd.func79, Tryd.ntmps79
  go_wp2
  rw [Lib.run_to_unsafe w ⟨b, 0, none⟩ (t := 106) (by kernel_rfl) (by kernel_rfl) hj hjs hsh (Nat.zero_lt_succ 1)]
  simp only [Result.andThen]
  rw [Oper.upon_value]
  go_wp2
  rw [run_callFunc_extern Tryd.func97 (by kernel_rfl) (by kernel_rfl) (by kernel_rfl) (e := Extern.AbiNoEscape.same) (by kernel_rfl)]
  rw [Lib.run_noEscape]
  simp only [Result.andThen]
  rw [Oper.upon_value]
  go_wp2
  rw [Lib.run_from_unsafe w ⟨b, 0, none⟩ (u := 106) (by kernel_rfl) (by kernel_rfl) hj hsh (by kernel_rfl)]
  simp only [Result.andThen]
  rw [Oper.upon_value]
  go_wp2
  go_end0
  exact ⟨rfl, rfl⟩
theorem zlW (b : Nat) (v : Value) (w : World) (h : w.heap[b]? = some (.cells #[.pointer (some ⟨b, 0, none⟩), v] 106 (0, 0))) :
    Calls Tryd.prog 79 #[.pointer (some ⟨b, 0, none⟩)] w fun e w' => e = .returned (.tuple #[]) ∧ w' = w := by
  have c0 : w.cell? ⟨b, 0, none⟩ = some (.pointer (some ⟨b, 0, none⟩)) := zeM h rfl
  obtain ⟨j, hj, hjs⟩ := zpe
  clear h
  go_enter Tryd.func79, Tryd.ntmps79
  go_wp2
  rw [Lib.run_neq_ptr_same w _ (te := 106) (by kernel_rfl) hj]
  go_wp2
  go_end0
  exact ⟨rfl, rfl⟩

/-- A builder in block b that holds the bytes bs; C: its blocks. -/
def Bld (b : Nat) (bs : ByteArray) (C : Nat → Prop) (w : World) : Prop :=
  ∃ p v D, w.heap[b]? = some (.cells #[p, v] 106 (0, 0)) ∧ (p = .pointer none ∨ p = .pointer (some ⟨b, 0, none⟩)) ∧ Byt 5 v bs D w ∧ ¬ D b ∧ C = (fun k => k = b ∨ D k)
theorem Bld.local {b : Nat} {bs : ByteArray} {C : Nat → Prop} {w w' : World} (h : Bld b bs C w) (hk : ∀ k, C k → w'.heap[k]? = w.heap[k]?) : Bld b bs C w' := by
  obtain ⟨p, v, D, h1, h2, h3, h4, rfl⟩ := h
  exact ⟨p, v, D, (hk b (.inl rfl)).trans h1, h2, h3.local (fun k h => hk k (.inr h)), h4, rfl⟩
theorem Bld.lt {b : Nat} {bs : ByteArray} {C : Nat → Prop} {w : World} (h : Bld b bs C w) : ∀ k, C k → k < w.heap.size := by
  obtain ⟨p, v, D, h1, h2, h3, h4, rfl⟩ := h
  rintro k (rfl | hk)
  · exact zcg h1
  · exact h3.lt k hk
theorem Bld.ext {b : Nat} {bs : ByteArray} {C D D' : Nat → Prop} {w w' : World} (h : Bld b bs C w) (hx : Ext D D' w w') (hd : ∀ k, C k → ¬ D k) : Bld b bs C w' :=
  h.local (fun k hk => hx.1.keep k (h.lt k hk) (hd k hk))
theorem zhY (b : Nat) (bs s : ByteArray) (C : Nat → Prop) (w : World) (h : Bld b bs C w) (hn : bs.size + s.size ≤ 140737488355328) :
    Calls Tryd.prog 55 #[.pointer (some ⟨b, 0, none⟩), .string s] w fun e w' => (∃ u, e = .returned u) ∧ ∃ C', Bld b (bs ++ s) C' w' ∧ Ext C C' w w' := by
  obtain ⟨p, v, D, hbk, hp, hbr, hne, rfl⟩ := h
  obtain ⟨ip, hpi, hpz, hps, hpb⟩ := info_parts zpd
  obtain ⟨w1, hck, hb1, hbr1, hx1⟩ : ∃ w1, (Calls Tryd.prog 79 #[.pointer (some ⟨b, 0, none⟩)] w fun e w' => e = .returned (.tuple #[]) ∧ w' = w1) ∧
      w1.heap[b]? = some (.cells #[.pointer (some ⟨b, 0, none⟩), v] 106 (0, 0)) ∧ Byt 5 v bs D w1 ∧ Ext (fun k => k = b ∨ D k) (fun k => k = b ∨ D k) w w1 := by
    rcases hp with rfl | rfl
    · have hx : Ext (fun k => k = b) (fun k => k = b) w (w.setCell ⟨b, 0, none⟩ (.pointer (some ⟨b, 0, none⟩))) := Ext.setCell (C' := fun k => k = b) (Ext.refl _ _) (p := ⟨b, 0, none⟩) rfl _
      refine ⟨_, zmS b v w hbk, ?_, hbr.ext hx (by rintro k hk rfl; exact hne hk), Ext.setCell (C' := fun k => k = b ∨ D k) (Ext.refl _ _) (p := ⟨b, 0, none⟩) (.inl rfl) _⟩
      simp [World.setCell, Array.getElem?_modify, hbk]
    · exact ⟨w, zlW b v w hbk, hbk, hbr, Ext.refl _ _⟩
  have c1 : w1.cell? ⟨b, 1, none⟩ = some v := zeM hb1 rfl
  have hlt : b < w1.heap.size := zcg hb1
  have Hbk := Lib.hid hbk; have Hbr := Lib.hid hbr; have Hx1 := Lib.hid hx1
  clear hbk hbr hx1
  go_enter Tryd.func55, Tryd.ntmps55
  go_wp2_with (first | (go_at_call 79; refine hck.mono ?_; rintro e w' ⟨rfl, rfl⟩) | (refine zhd _ rfl _ _ _ _ rfl 5 _ (by kernel_rfl) (by kernel_rfl) hpi hpz hps hpb _ _ _ rfl hbr1 _ rfl hn ?_))
  rintro v' w2 D' hr2 hx2
  have hb2 : w2.heap[b]? = some (.cells #[.pointer (some ⟨b, 0, none⟩), v] 106 (0, 0)) := (hx2.1.keep b hlt hne).trans hb1
  have f1 := zkf hb2 1
  have d1 : w2.cell? ⟨b, 1, none⟩ = some v := zeM hb2 rfl
  have hne' : ¬ D' b := hx2.not hlt hne
  obtain ⟨ao, n', cap', rfl⟩ : ∃ ao n' cap', v' = .slice ao n' cap' := by
    rcases hr2.shape with ⟨rfl, _⟩ | ⟨g, cap, cur, rfl, _⟩ <;> exact ⟨_, _, _, rfl⟩
  have Hr2 := Lib.hid hr2; have Hx2 := Lib.hid hx2; have Hb2 := Lib.hid hb2
  clear hr2 hx2 hb2
  go_wp2
  go_ret2
  have hx3 : Ext (fun k => k = b ∨ D' k) (fun k => k = b ∨ D' k) w2 (w2.setCell ⟨b, 1, none⟩ (.slice ao n' cap')) := Ext.setCell (C' := fun k => k = b ∨ D' k) (Ext.refl _ _) (p := ⟨b, 1, none⟩) (.inl rfl) _
  have hx3' : Ext (fun k => k = b) (fun k => k = b) w2 (w2.setCell ⟨b, 1, none⟩ (.slice ao n' cap')) := Ext.setCell (C' := fun k => k = b) (Ext.refl _ _) (p := ⟨b, 1, none⟩) rfl _
  refine ⟨⟨_, rfl⟩, fun k => k = b ∨ D' k, ⟨_, _, D', ?_, .inr rfl, Hr2.out.ext hx3' (by rintro k hk rfl; exact hne' hk), hne', rfl⟩, ?_⟩
  · simp [World.setCell, Array.getElem?_modify, Hb2.out]
  · refine (Hx1.out.trans ?_).trans hx3
    exact ⟨Hx2.out.1.weaken (fun k _ h => .inr h), fun k hk => by
      rcases hk with rfl | hk
      · exact .inl (.inl rfl)
      · exact (Hx2.out.2 k hk).imp .inr id⟩

/-- The string of a builder. -/
theorem zlO {C C' : Nat → Prop} {a w : World} (h : Ext C C' a w) {g : Nat} (hg : C' g) (m : Nat) : Ext C C' a (w.freeze ⟨g, 0, none⟩ m) := by
  unfold World.freeze
  split
  · exact h
  · have hs : ∀ f : Obj → Obj, ({ w with heap := w.heap.modify g f } : World).heap.size = w.heap.size := fun f => by simp
    refine ⟨⟨h.1.os, h.1.tape, h.1.output, by simpa using h.1.size, fun k hk hn => ?_⟩, fun k hk => by simpa using h.2 k hk⟩
    rw [Array.getElem?_modify]
    rw [if_neg]
    · exact h.1.keep k hk hn
    · intro e
      have e' : g = k := e
      subst e'
      rcases h.2 _ hg with h' | h'
      · exact hn h'
      · omega

theorem zkU (b : Nat) (bs : ByteArray) (C : Nat → Prop) (w : World) (h : Bld b bs C w) :
    Calls Tryd.prog 57 #[.pointer (some ⟨b, 0, none⟩)] w fun e w' => e = .returned (.string bs) ∧ Ext C C w w' := by
  obtain ⟨p, v, D, hbk, hp, hbr, hne, rfl⟩ := h
  rcases hbr.shape with ⟨rfl, rfl, rfl⟩ | ⟨g, cap, cur, rfl, hgl, hbc, hcm, rfl, hg⟩
  · have c1 : w.drew.cell? ⟨b, 1, none⟩ = some (.slice none 0 0) := zeM (w := w.drew) hbk rfl
    have hSD : (Builtin.unsafeSliceData_ #[104] 139 #[.slice none 0 0]).run Tryd.prog w.drew = .ok (.pointer none) w.drew := rfl
    have hUS : ∀ W q, (Builtin.unsafeString_ #[139, 3] 9 #[.pointer q, .int .i64 0]).run Tryd.prog W = .ok (.string .empty) W := fun W q => Lib.run_unsafeString_none W _ _ _ q
    clear hbk hbr
    go_enter Tryd.func57, Tryd.ntmps57
    go_wp2
    go_region
    all_goals (go_wp2; go_ret; exact ⟨rfl, (Ext.refl _ _).drew⟩)
  · by_cases h0 : bs.size = 0
    · have hbs : bs = ⟨#[]⟩ := by apply ByteArray.ext; exact Array.eq_empty_of_size_eq_zero h0
      subst hbs
      have h00 : (⟨#[]⟩ : ByteArray).size = 0 := rfl
      rw [h00] at hbk hbr
      have hUS : ∀ W q, (Builtin.unsafeString_ #[139, 3] 9 #[.pointer q, .int .i64 0]).run Tryd.prog W = .ok (.string .empty) W := fun W q => Lib.run_unsafeString_none W _ _ _ q
      have c1 : w.drew.cell? ⟨b, 1, none⟩ = some (.slice (some ⟨g, 0, none⟩) 0 cap) := zeM (w := w.drew) hbk rfl
      by_cases hc0 : cap = 0
      · subst hc0
        have hSD : (Builtin.unsafeSliceData_ #[104] 139 #[.slice (some ⟨g, 0, none⟩) 0 0]).run Tryd.prog w.drew = .ok (.pointer (some ⟨w.drew.heap.size, 0, none⟩)) (w.drew.alloc (.view ⟨g, 0, none⟩ 5)) :=
          Lib.run_unsafeSliceData_zero w.drew _ _ 5 (by kernel_rfl) ⟨g, 0, none⟩ 0 (5, cur.size) (by have hg' : w.drew.heap[g]? = some (.cells cur 5 (0, 0)) := hg; simp [World.shape?, hg'])
        have hlt := zcg hbk
        have c2 : (w.drew.alloc (.view ⟨g, 0, none⟩ 5)).cell? ⟨b, 1, none⟩ = some (.slice (some ⟨g, 0, none⟩) 0 0) := zeM (w := w.drew.alloc _) ((Below.heap_alloc w.drew _ b hlt).trans hbk) rfl
        have c3 : (w.alloc (.view ⟨g, 0, none⟩ 5)).drew.cell? ⟨b, 1, none⟩ = some (.slice (some ⟨g, 0, none⟩) 0 0) := c2
        have c0 : w.cell? ⟨b, 1, none⟩ = some (.slice (some ⟨g, 0, none⟩) 0 0) := c1
        clear hbk hbr hg
        go_enter Tryd.func57, Tryd.ntmps57
        go_wp2
        go_region
        all_goals (go_wp2; go_ret; exact ⟨rfl, (Ext.refl _ _).drew.alloc _⟩)
      · have hSD : (Builtin.unsafeSliceData_ #[104] 139 #[.slice (some ⟨g, 0, none⟩) 0 cap]).run Tryd.prog w.drew = .ok (.pointer (some ⟨g, 0, none⟩)) w.drew := Lib.run_unsafeSliceData_row _ _ _ _ _ _ hc0
        clear hbk hbr hg hc0
        go_enter Tryd.func57, Tryd.ntmps57
        go_wp2
        go_region
        all_goals (go_wp2; go_ret; exact ⟨rfl, (Ext.refl _ _).drew⟩)
    · obtain ⟨l, hl⟩ : ∃ l, l = bs.data.toList := ⟨_, rfl⟩
      have hll : l.length = bs.size := by rw [hl, Array.length_toList]; rfl
      have hbs : bs = ⟨l.toArray⟩ := by rw [hl]
      have hl0 : l ≠ [] := by intro e; rw [e] at hll; exact h0 hll.symm
      rw [← hll] at hbk hbc hbr
      have c1 : w.drew.cell? ⟨b, 1, none⟩ = some (.slice (some ⟨g, 0, none⟩) l.length cap) := zeM (w := w.drew) hbk rfl
      have hSD : (Builtin.unsafeSliceData_ #[104] 139 #[.slice (some ⟨g, 0, none⟩) l.length cap]).run Tryd.prog w.drew = .ok (.pointer (some ⟨g, 0, none⟩)) w.drew :=
        Lib.run_unsafeSliceData_row _ _ _ _ _ _ (by omega)
      have hcs : cur.size = cap * 1 := by
        rcases hbr.1.2 with ⟨h1, _⟩ | ⟨g', cap', cur', h1, _, h3, _, _, h6, _⟩
        · cases h1
        · have e1 : g = g' := by injection h1 with q1 q2 q3; injection q1 with q1; injection q1
          have e2 : cap = cap' := by injection h1
          subst e1; subst e2
          rw [hg] at h3; injection h3 with h3; injection h3 with h3
          rw [h3]; exact h6
      have hUS : (Builtin.unsafeString_ #[139, 3] 9 #[.pointer (some ⟨g, 0, none⟩), .int .i64 l.length]).run Tryd.prog w.drew = .ok (.string ⟨l.toArray⟩) (w.drew.freeze ⟨g, 0, none⟩ l.length) := by
        refine Lib.run_unsafeString_row w.drew 139 3 9 5 (by kernel_rfl) (by kernel_rfl) g cur.size (by have hg' : w.drew.heap[g]? = some (.cells cur 5 (0, 0)) := hg; simp [World.shape?, hg']) l hl0 (by omega) (by unfold maxLen at hcm; omega) ?_
        intro j x hx
        refine World.ownsRow.cells hbr.1 (g := g) rfl j (.int .u8 x.toNat) ?_
        unfold strCells
        rw [List.getElem?_map, ← hl, hx]; rfl
      rw [hbs]
      have hx : Ext (fun k => k = b ∨ k = g) (fun k => k = b ∨ k = g) w (w.drew.freeze ⟨g, 0, none⟩ l.length) := zlO ((Ext.refl _ _).drew) (.inr rfl) _
      have Hx := Lib.hid hx
      clear hbk hbr hg hx hbs hll hcs
      clear hl
      go_enter Tryd.func57, Tryd.ntmps57
      go_wp2
      go_region
      all_goals (go_wp2; go_ret; exact ⟨rfl, Hx.out⟩)

end Go.Proofs.YtgfkogafkhbgnaaDoor
namespace Go.Proofs.YtgfkogafkhbgnaaDoor
open Go.RowKit Go.Lib Go.Shelf
attribute [local go_sem] Oper.semAt_some
set_option linter.unusedVariables false
set_option linter.unusedSimpArgs false
theorem Bld.drew {b : Nat} {bs : ByteArray} {C : Nat → Prop} {w : World} (h : Bld b bs C w) : Bld b bs C w.drew := h.local (fun _ _ => rfl)
/-! ### As contracts -/
def ziv (b : Nat) (bs : ByteArray) : Asn := ⟨fun C w => Bld b bs C w, fun h => h.lt, fun h _ hk => h.local hk⟩
theorem zjd (b : Nat) (bs s : ByteArray) (hn : bs.size + s.size ≤ 140737488355328) : Fn Tryd.prog 55 [.pointer (some ⟨b, 0, none⟩), .string s] [ziv b bs] (fun u : Value => u) (fun _ => [ziv b (bs ++ s)]) := by
  intro w C hA
  refine (zhY b bs s C w (sepL.one1.1 hA) hn).mono ?_
  rintro e w' ⟨⟨u, rfl⟩, C', h1, h2⟩
  exact ⟨u, rfl, C', sepL.one1.2 h1, h2⟩
theorem zor (b : Nat) (bs : ByteArray) : Fn Tryd.prog 57 [.pointer (some ⟨b, 0, none⟩)] [ziv b bs] (fun _ : Unit => .string bs) (fun _ => []) := by
  intro w C hA
  refine (zkU b bs C w (sepL.one1.1 hA)).mono ?_
  rintro e w' ⟨rfl, h2⟩
  exact ⟨(), rfl, fun _ => False, fun _ h => h, h2.1, fun k hk => hk.elim⟩
theorem zlX {b : Nat} : Ent (cells b [.pointer none, .slice none 0 0] 106) (ziv b ⟨#[]⟩) := by
  intro C w h
  have hC : C = fun k => k = b := funext fun k => propext (h.1 k)
  subst hC
  exact ⟨_, _, _, h.2, .inl rfl, Byt.nil, by simp, by funext k; simp⟩
end Go.Proofs.YtgfkogafkhbgnaaDoor
namespace Go.Proofs.YtgfkogafkhbgnaaDoor
open Go.RowKit Go.Lib Go.Shelf
set_option linter.unusedVariables false
set_option linter.unusedSimpArgs false
theorem znA (b : Nat) (bs : ByteArray) (C : Nat → Prop) (w : World) (h : Bld b bs C w) :
    Calls Tryd.prog 56 #[.pointer (some ⟨b, 0, none⟩)] w fun e w' => e = .returned (.int .i64 (bs.size : Int)) ∧ w = w' := by
  obtain ⟨p, v, D, hbk, hp, hbr, hne, rfl⟩ := h
  rcases hbr.shape with ⟨rfl, rfl, rfl⟩ | ⟨g, cap, cur, rfl, hgl, hbc, hcm, rfl, hg⟩
  · have c1 : w.cell? ⟨b, 1, none⟩ = some (.slice none 0 0) := zeM hbk rfl
    clear hbk hbr
    go_enter Tryd.func56, Tryd.ntmps56
    go_wp2
    go_ret
    exact ⟨rfl, rfl⟩
  · have c1 : w.cell? ⟨b, 1, none⟩ = some (.slice (some ⟨g, 0, none⟩) bs.size cap) := zeM hbk rfl
    clear hbk hbr
    go_enter Tryd.func56, Tryd.ntmps56
    go_wp2
    go_ret
    exact ⟨rfl, rfl⟩
theorem zos (b : Nat) (bs : ByteArray) : Fn Tryd.prog 56 [.pointer (some ⟨b, 0, none⟩)] [ziv b bs] (fun _ : Unit => .int .i64 (bs.size : Int)) (fun _ => [ziv b bs]) := by
  intro w C hA
  refine (znA b bs C w (sepL.one1.1 hA)).mono ?_
  rintro e w' ⟨rfl, rfl⟩
  exact ⟨(), rfl, C, hA, Ext.refl _ _⟩
end Go.Proofs.YtgfkogafkhbgnaaDoor
