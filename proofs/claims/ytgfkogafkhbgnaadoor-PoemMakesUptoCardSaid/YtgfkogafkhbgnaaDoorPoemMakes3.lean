/-
  Texts laid together: LqQ, PqA, PqB, LqS, LqR, Rq, Lr, LqZ, PqC. Nothing is assumed.
-/
import Derived.Test.YtgfkogafkhbgnaaDoorPoemMakes2
set_option maxRecDepth 100000
set_option maxHeartbeats 4000000
namespace Go.Proofs.YtgfkogafkhbgnaaDoor
open Go.RowKit Go.Lib
set_option linter.unusedVariables false
set_option linter.unusedSimpArgs false
def zc5 (s1 : ByteArray) (j1 : Option Bool) (ag1 : Int → Option Bool) (i3 : Int) : Option Bool :=
zaO (decide ((i3 : Int) < (s1.size : Int))) (
zbE (fun (j2 : Option Bool) =>
zaE (zfP s1 i3) fun (c1 : Int) =>
zaO ((c1 : Int) != 32) (
zaO ((c1 : Int) != 9) (
some false
) (
j2
)
) (
j2
)
) (
grd (I64 (i3 + 1)) <|
ag1 (i3 + 1)
)
) (
j1
)
def zcX (s1 : ByteArray) : Option Bool :=
zbE (fun (j1 : Option Bool) =>
za2 (fun _ => none) (zc5 s1 j1) zbG 0
) (
some true
)
theorem zf8 {s1 : ByteArray} {r : Bool} (h : zcX s1 = some r) : FnP Tryd.prog 65 [.string s1] (.bool r) := by
 unfold zcX at h
 refine FnP.intro Tryd.func65 rfl Tryd.ntmps65 (by simp) ?_
 intro w0 K
 obtain ⟨j1, hj1, h⟩ := zcc h
 refine zbf (β := Unit) 1 rfl (fun b => j1 = some r) (fun b => []) (fun b => []) (fun b => []) (fun cut => ?_) ?_
 ·
  refine zak (zae (zai rfl dc rfl (zaj (zah (cut (zak (zae (zai rfl dc rfl (zaj (zah (zaS ?_)))))))))))
  refine zbx (β := Nat × Int) (fun b => za2 (fun _ => none) (zc5 s1 j1) b.1 b.2 = some r) (fun b => []) (fun b => [(0, .string s1), (3, zI b.2)]) (fun b => []) (fun b => b.1) (zbG, 0) h rfl (zab rfl (zab rfl (zay))) Splits.nil ?_
  rintro ⟨n1, i3⟩ h
  cases n1 with
  | zero => exact zdy h
  | succ n1 =>
   obtain ⟨ag1, hag1⟩ : ∃ ag, ag = za2 (fun _ => none) (zc5 s1 j1) n1 := ⟨_, rfl⟩
   have h : zc5 s1 j1 ag1 i3 = some r := by rw [hag1]; exact h
   unfold zc5 at h
   show TC _ _ _ _ _ ([]) _ _ [(0, .string s1), (3, zI i3)] []
   refine zak (zak (zae (zaf rfl dc rfl (zaf rfl dc rfl (zbp rfl dc rfl Tryd.underlying9 (zau rfl dc rfl rfl zbA (zaj (zah ?_))))))))
   refine zaI rfl (fun hb1 => ?_) (fun hb1 => ?_)
   ·
    have h := zaT hb1 h
    refine zaK (zah ?_)
    obtain ⟨j2, hj2, h⟩ := zcc h
    refine zbf (β := Unit) 0 rfl (fun b => j2 = some r) (fun b => []) (fun b => [(0, .string s1), (3, zI i3)]) (fun b => []) (fun cut => ?_) ?_
    ·
     refine cut (zaS (zak (zae (zaf rfl dc rfl (zaf rfl dc rfl ?_)))))
     obtain ⟨c1, hq1, h⟩ := zbN h
     refine zbC rfl dc rfl rfl (za1 Tryd.underlying9 hq1) (zau rfl dc rfl rfl zbu (zaf rfl dc rfl ?_))
     refine za3 (s := 14) rfl (fun hb2 => ?_) (fun hb2 => ?_)
     ·
      have h := zaT hb2 h
      refine zaf rfl dc rfl (zaf rfl dc rfl (zbC rfl dc rfl rfl (za1 Tryd.underlying9 hq1) (zau rfl dc rfl rfl zbu (zaA (b := true) rfl dc rfl rfl (zaj (zah ?_))))))
      refine zaI rfl (fun hb3 => ?_) (fun hb3 => ?_)
      ·
       have h := zaT hb3 h
       refine zak (zae (zai rfl dc rfl (zaj (zah (zaQ (zaw (zas (zas (zaw (zas ?_))))))))))
       cases h
       exact zaW (rs := [.tmp 2]) () (.inl rfl) Tryd.results65 (.cons (.tmp rfl) .nil) rfl Splits.nil
      ·
       have h := zaU hb3 h
       refine zaK (zav ?_)
       exact zaJ () h rfl (zab rfl (zab rfl (zay))) Splits.nil
     ·
      have h := zaU hb2 h
      refine zal rfl dc (zal rfl dc (zal rfl dc (zal rfl dc (zaA (b := false) rfl dc rfl rfl (zaj (zah (zbj rfl (zaK (zav ?_)))))))))
      exact zaJ () h rfl (zab rfl (zab rfl (zay))) Splits.nil
    ·
     rintro _ h
     rw [hj2] at h
     show TC _ _ _ _ _ ([]) _ _ [(0, .string s1), (3, zI i3)] []
     refine zae (zaf rfl dc rfl ?_)
     obtain ⟨hg1, h⟩ := zbW h
     refine zau rfl dc rfl rfl (za5 (r := i3 + 1) (IntWalk.i64_in _ hg1)) (zai rfl dc rfl (zaj ?_))
     subst hag1
     exact za6 (n1, i3 + 1) h (Nat.lt_succ_self _) rfl (zab rfl (zab rfl (zay))) Splits.nil
   ·
    have h := zaU hb1 h
    refine zbl (zaC (zaC (zaN ?_)))
    exact zaJ () h rfl (zay) Splits.nil
 ·
  rintro _ h
  rw [hj1] at h
  show TC _ _ _ _ _ ([]) _ _ [] []
  refine zak (zae (zai rfl dc rfl (zaj (zah (zaQ ?_)))))
  cases h
  exact zaW (rs := [.tmp 2]) () (.inl rfl) Tryd.results65 (.cons (.tmp rfl) .nil) rfl Splits.nil
def zdB (s1 : ByteArray) : Option Bool :=
zaO (decide (s1 = (⟨#[35]⟩ : ByteArray))) (
some true
) (
zaO (decide ((1 : Int) < (s1.size : Int))) (
zaE (zfP s1 0) fun (c1 : Int) =>
zaO ((c1 : Int) == 35) (
zaE (zfP s1 1) fun (c2 : Int) =>
some ((c2 : Int) == 32)
) (
some false
)
) (
some false
)
)
theorem zfM {s1 : ByteArray} {r : Bool} (h : zdB s1 = some r) : FnP Tryd.prog 66 [.string s1] (.bool r) := by
 unfold zdB at h
 refine FnP.intro Tryd.func66 rfl Tryd.ntmps66 (by simp) ?_
 intro w0 K
 refine zak (zae (zai rfl dc rfl (zaj (zah (zak (zae (zaf rfl dc rfl (zau rfl dc rfl rfl zf1 (zaf rfl dc rfl ?_)))))))))
 refine za3 (s := 5) rfl (fun hb1 => ?_) (fun hb1 => ?_)
 ·
  have h := zaT hb1 h
  refine zal rfl dc (zal rfl dc (zal rfl dc (zal rfl dc (zal rfl dc (zal rfl dc (zal rfl dc (zal rfl dc (zal rfl dc (zal rfl dc (zal rfl dc (zal rfl dc (zal rfl dc (zaA (b := true) rfl dc rfl rfl ?_)))))))))))))
  refine zai rfl dc rfl (zaj (zah (zaQ ?_)))
  cases h
  exact zaW (rs := [.tmp 2]) () (.inl rfl) Tryd.results66 (.cons (.tmp rfl) .nil) rfl Splits.nil
 ·
  have h := zaU hb1 h
  refine zaf rfl dc rfl (zbp rfl dc rfl Tryd.underlying9 (zau rfl dc rfl rfl zdR (zaf rfl dc rfl ?_)))
  refine za3 (s := 9) rfl (fun hb2 => ?_) (fun hb2 => ?_)
  ·
   have h := zaT hb2 h
   refine zaf rfl dc rfl ?_
   obtain ⟨c1, hq1, h⟩ := zbN h
   refine zbC rfl dc rfl rfl (za1 Tryd.underlying9 hq1) (zau rfl dc rfl rfl zbF (zaA (b := true) rfl dc rfl rfl (zaf rfl dc rfl ?_)))
   refine za3 (s := 14) rfl (fun hb3 => ?_) (fun hb3 => ?_)
   ·
    have h := zaT hb3 h
    refine zaf rfl dc rfl ?_
    obtain ⟨c2, hq2, h⟩ := zbN h
    refine zbC rfl dc rfl rfl (za1 Tryd.underlying9 hq2) (zau rfl dc rfl rfl zbF (zaA (b := true) rfl dc rfl rfl (zaA (b := false) rfl dc rfl rfl (zai rfl dc rfl (zaj (zah (zaQ ?_)))))))
    cases h
    exact zaW (rs := [.tmp 2]) () (.inl rfl) Tryd.results66 (.cons (.tmp rfl) .nil) rfl Splits.nil
   ·
    have h := zaU hb3 h
    refine zal rfl dc (zal rfl dc (zal rfl dc (zaA (b := false) rfl dc rfl rfl (zaA (b := false) rfl dc rfl rfl (zai rfl dc rfl (zaj (zah (zaQ ?_))))))))
    cases h
    exact zaW (rs := [.tmp 2]) () (.inl rfl) Tryd.results66 (.cons (.tmp rfl) .nil) rfl Splits.nil
  ·
   have h := zaU hb2 h
   refine zal rfl dc (zal rfl dc (zal rfl dc (zaA (b := false) rfl dc rfl rfl (zaf rfl dc rfl (zal rfl dc (zal rfl dc (zal rfl dc (zaA (b := false) rfl dc rfl rfl (zaA (b := false) rfl dc rfl rfl (zai rfl dc rfl (zaj (zah (zaQ ?_)))))))))))))
   cases h
   exact zaW (rs := [.tmp 2]) () (.inl rfl) Tryd.results66 (.cons (.tmp rfl) .nil) rfl Splits.nil
def zcv (s1 : ByteArray) (j1 : Int → Option Int) (ag1 : Int → Option Int) (n4 : Int) : Option Int :=
zaO (decide ((n4 : Int) < (s1.size : Int))) (
zaE (zfP s1 n4) fun (c1 : Int) =>
zaO ((c1 : Int) == 32) (
grd (I64 (n4 + 1)) <|
ag1 (n4 + 1)
) (
j1 n4
)
) (
j1 n4
)
def zbJ (s1 : ByteArray) : Option Int :=
zbE (fun (j1 : Int → Option Int) =>
za2 (fun _ => none) (zcv s1 j1) zbG 0
) (fun (n1 : Int) =>
some n1
)
theorem zdd {s1 : ByteArray} {r : Int} (h : zbJ s1 = some r) : FnP Tryd.prog 67 [.string s1] (zI r) := by
 unfold zbJ at h
 refine FnP.intro Tryd.func67 rfl Tryd.ntmps67 (by simp) ?_
 intro w0 K
 obtain ⟨j1, hj1, h⟩ := zcc h
 refine zbf (β := Int) 2 rfl (fun b => j1 b = some r) (fun b => []) (fun b => [(3, zI b)]) (fun b => []) (fun cut => ?_) ?_
 ·
  refine zak (zae (zai rfl dc rfl (zaj (zah (zak (zae (zai rfl dc rfl (zaj (zah (cut (zaS ?_)))))))))))
  refine zbx (β := Nat × Int) (fun b => za2 (fun _ => none) (zcv s1 j1) b.1 b.2 = some r) (fun b => []) (fun b => [(0, .string s1), (3, zI b.2)]) (fun b => []) (fun b => b.1) (zbG, 0) h rfl (zab rfl (zab rfl (zay))) Splits.nil ?_
  rintro ⟨n5, n4⟩ h
  cases n5 with
  | zero => exact zdy h
  | succ n5 =>
   obtain ⟨ag1, hag1⟩ : ∃ ag, ag = za2 (fun _ => none) (zcv s1 j1) n5 := ⟨_, rfl⟩
   have h : zcv s1 j1 ag1 n4 = some r := by rw [hag1]; exact h
   unfold zcv at h
   show TC _ _ _ _ _ ([]) _ _ [(0, .string s1), (3, zI n4)] []
   refine zak (zak (zae (zaf rfl dc rfl (zaf rfl dc rfl (zbp rfl dc rfl Tryd.underlying9 (zau rfl dc rfl rfl zbA (zaf rfl dc rfl ?_)))))))
   refine za3 (s := 8) rfl (fun hb1 => ?_) (fun hb1 => ?_)
   ·
    have h := zaT hb1 h
    refine zaf rfl dc rfl (zaf rfl dc rfl ?_)
    obtain ⟨c1, hq1, h⟩ := zbN h
    refine zbC rfl dc rfl rfl (za1 Tryd.underlying9 hq1) (zau rfl dc rfl rfl zbF (zaA (b := true) rfl dc rfl rfl (zaj (zah ?_))))
    refine zaI rfl (fun hb2 => ?_) (fun hb2 => ?_)
    ·
     have h := zaT hb2 h
     refine zaK (zah (zaS (zae (zaf rfl dc rfl ?_))))
     obtain ⟨hg1, h⟩ := zbW h
     refine zau rfl dc rfl rfl (za5 (r := n4 + 1) (IntWalk.i64_in _ hg1)) (zai rfl dc rfl (zaj (zav ?_)))
     subst hag1
     exact za6 (n5, n4 + 1) h (Nat.lt_succ_self _) rfl (zab rfl (zab rfl (zay))) Splits.nil
    ·
     have h := zaU hb2 h
     refine zbl (zaC (zaC (zaN ?_)))
     exact zaJ n4 h rfl (zab rfl (zay)) Splits.nil
   ·
    have h := zaU hb1 h
    refine zal rfl dc (zal rfl dc (zal rfl dc (zal rfl dc (zaA (b := false) rfl dc rfl rfl (zaj (zah (zbj rfl (zbl (zaC (zaC (zaN ?_)))))))))))
    exact zaJ n4 h rfl (zab rfl (zay)) Splits.nil
 ·
  rintro n1 h
  rw [hj1] at h
  show TC _ _ _ _ _ ([]) _ _ [(3, zI n1)] []
  refine zak (zae (zaf rfl dc rfl (zai rfl dc rfl (zaj (zah (zaQ ?_))))))
  cases h
  exact zaW (rs := [.tmp 2]) () (.inl rfl) Tryd.results67 (.cons (.tmp rfl) .nil) rfl Splits.nil
def zcY (s1 : ByteArray) (j1 : (List Gapi_Span) → Option (List Gapi_Span)) (ag1 : (List Gapi_Span) → Int → Option (List Gapi_Span)) (l4 : List Gapi_Span) (i3 : Int) : Option (List Gapi_Span) :=
zaO (decide ((i3 : Int) < (s1.size : Int))) (
zbE (fun (j2 : (List Gapi_Span) → Int → Option (List Gapi_Span)) =>
zaE (zfP s1 i3) fun (c1 : Int) =>
zaO ((c1 : Int) == 13) (
grd (I64 (i3 + 1)) <|
zaO (decide (((i3 + 1) : Int) < (s1.size : Int))) (
grd (I64 (i3 + 1)) <|
zaE (zfP s1 (i3 + 1)) fun (c2 : Int) =>
zaO ((c2 : Int) == 10) (
grd (I64 (i3 + 2)) <|
grd (l4.length + 1 ≤ 2147483648) <|
grd (I64 (i3 + 1)) <|
j2 (l4 ++ [(⟨i3, i3 + 2⟩ : Gapi_Span)]) (i3 + 1)
) (
zaE (zfP s1 i3) fun (c3 : Int) =>
zaO ((c3 : Int) == 13) (
grd (I64 (i3 + 1)) <|
grd (l4.length + 1 ≤ 2147483648) <|
j2 (l4 ++ [(⟨i3, i3 + 1⟩ : Gapi_Span)]) i3
) (
zaO ((c3 : Int) == 10) (
grd (I64 (i3 + 1)) <|
grd (l4.length + 1 ≤ 2147483648) <|
j2 (l4 ++ [(⟨i3, i3 + 1⟩ : Gapi_Span)]) i3
) (
j2 l4 i3
)
)
)
) (
zaE (zfP s1 i3) fun (c4 : Int) =>
zaO ((c4 : Int) == 13) (
grd (I64 (i3 + 1)) <|
grd (l4.length + 1 ≤ 2147483648) <|
j2 (l4 ++ [(⟨i3, i3 + 1⟩ : Gapi_Span)]) i3
) (
zaO ((c4 : Int) == 10) (
grd (I64 (i3 + 1)) <|
grd (l4.length + 1 ≤ 2147483648) <|
j2 (l4 ++ [(⟨i3, i3 + 1⟩ : Gapi_Span)]) i3
) (
j2 l4 i3
)
)
)
) (
zaE (zfP s1 i3) fun (c5 : Int) =>
zaO ((c5 : Int) == 13) (
grd (I64 (i3 + 1)) <|
grd (l4.length + 1 ≤ 2147483648) <|
j2 (l4 ++ [(⟨i3, i3 + 1⟩ : Gapi_Span)]) i3
) (
zaO ((c5 : Int) == 10) (
grd (I64 (i3 + 1)) <|
grd (l4.length + 1 ≤ 2147483648) <|
j2 (l4 ++ [(⟨i3, i3 + 1⟩ : Gapi_Span)]) i3
) (
j2 l4 i3
)
)
)
) (fun (l5 : List Gapi_Span) (i4 : Int) =>
grd (I64 (i4 + 1)) <|
ag1 l5 (i4 + 1)
)
) (
j1 l4
)
def zd1 (s1 : ByteArray) : Option (List Gapi_Span) :=
zbE (fun (j1 : (List Gapi_Span) → Option (List Gapi_Span)) =>
za2 (fun _ _ => none) (zcY s1 j1) zbG ([] : List Gapi_Span) 0
) (fun (l1 : List Gapi_Span) =>
some l1
)
theorem zgr {s1 : ByteArray} {r : (List Gapi_Span)} (h : zd1 s1 = some r) : Fn Tryd.prog 85 [.string s1] [] (fun v0 : Value => v0) (fun v0 => [vec zaq 34 2 v0 r]) := by
 unfold zd1 at h
 refine Fn.intro Tryd.func85 rfl Tryd.ntmps85 (by simp) ?_
 intro w0 K
 obtain ⟨j1, hj1, h⟩ := zcc h
 refine zbf (β := (List Gapi_Span) × Value) 2 rfl (fun b => j1 b.1 = some r) (fun b => []) (fun b => [(3, b.2)]) (fun b => [vec zaq 34 2 b.2 b.1]) (fun cut => ?_) ?_
 ·
  refine zak (zae (zai rfl dc rfl (zaj (zah (zak (zae (zai rfl dc rfl (zaj (zah (cut (zak (zae (zai rfl dc rfl ?_)))))))))))))
  refine zaj (zah (zaS (ze0 (enc := zaq) (e := 34) (size := 2) ?_)))
  show TC _ _ _ _ _ _ _ _ _ [vec zaq 34 2 (.slice none 0 0) ([] : List Gapi_Span)]
  refine zbx (β := Nat × (List Gapi_Span) × Int × Value) (fun b => za2 (fun _ _ => none) (zcY s1 j1) b.1 b.2.1 b.2.2.1 = some r) (fun b => []) (fun b => [(0, .string s1), (3, b.2.2.2), (4, zI b.2.2.1)]) (fun b => [vec zaq 34 2 b.2.2.2 b.2.1]) (fun b => b.1) (zbG, ([] : List Gapi_Span), 0, (.slice none 0 0)) h rfl (zab rfl (zab rfl (zab rfl (zay)))) (zam [0] kr rfl) ?_
  rintro ⟨n1, l4, i3, v4⟩ h
  cases n1 with
  | zero => exact zdy h
  | succ n1 =>
   obtain ⟨ag1, hag1⟩ : ∃ ag, ag = za2 (fun _ _ => none) (zcY s1 j1) n1 := ⟨_, rfl⟩
   have h : zcY s1 j1 ag1 l4 i3 = some r := by rw [hag1]; exact h
   unfold zcY at h
   show TC _ _ _ _ _ ([]) _ _ [(0, .string s1), (3, v4), (4, zI i3)] [vec zaq 34 2 v4 l4]
   refine zak (zak (zae (zaf rfl dc rfl (zaf rfl dc rfl (zbp rfl dc rfl Tryd.underlying9 (zau rfl dc rfl rfl zbA (zaj (zah ?_))))))))
   refine zaI rfl (fun hb1 => ?_) (fun hb1 => ?_)
   ·
    have h := zaT hb1 h
    refine zaK (zah ?_)
    obtain ⟨j2, hj2, h⟩ := zcc h
    refine zbf (β := (List Gapi_Span) × Int × Value) 0 rfl (fun b => j2 b.1 b.2.1 = some r) (fun b => []) (fun b => [(0, .string s1), (3, b.2.2), (4, zI b.2.1)]) (fun b => [vec zaq 34 2 b.2.2 b.1]) (fun cut => ?_) ?_
    ·
     refine cut (zaS (zaS (zak (zae (zaf rfl dc rfl (zaf rfl dc rfl ?_))))))
     obtain ⟨c1, hq1, h⟩ := zbN h
     refine zbC rfl dc rfl rfl (za1 Tryd.underlying9 hq1) (zau rfl dc rfl rfl zbF (zaf rfl dc rfl ?_))
     refine za3 (s := 16) rfl (fun hb2 => ?_) (fun hb2 => ?_)
     ·
      have h := zaT hb2 h
      refine zaf rfl dc rfl ?_
      obtain ⟨hg1, h⟩ := zbW h
      refine zau rfl dc rfl rfl (za5 (r := i3 + 1) (IntWalk.i64_in _ hg1)) (zaf rfl dc rfl (zbp rfl dc rfl Tryd.underlying9 (zau rfl dc rfl rfl zbA (zaA (b := true) rfl dc rfl rfl (zaf rfl dc rfl ?_)))))
      refine za3 (s := 23) rfl (fun hb3 => ?_) (fun hb3 => ?_)
      ·
       have h := zaT hb3 h
       refine zaf rfl dc rfl (zaf rfl dc rfl ?_)
       obtain ⟨hg2, h⟩ := zbW h
       refine zau rfl dc rfl rfl (za5 (r := i3 + 1) (IntWalk.i64_in _ hg2)) ?_
       obtain ⟨c2, hq2, h⟩ := zbN h
       refine zbC rfl dc rfl rfl (za1 Tryd.underlying9 hq2) (zau rfl dc rfl rfl zbF (zaA (b := true) rfl dc rfl rfl (zai rfl dc rfl (zaj (zah ?_)))))
       refine zaI rfl (fun hb4 => ?_) (fun hb4 => ?_)
       ·
        have h := zaT hb4 h
        refine zak (zae (zaf rfl dc rfl (zaf rfl dc rfl (zaf rfl dc rfl ?_))))
        obtain ⟨hg3, h⟩ := zbW h
        refine zau rfl dc rfl rfl (za5 (r := i3 + 2) (IntWalk.i64_in _ hg3)) ?_
        refine zbi (v := .agg #[zI i3, zI (i3 + 2)]) (ps := [(0, .tmp 31), (1, .tmp 33)]) rfl dc rfl (fun _ => by kernel_rfl) ?_
        refine zbb (cs := [zI i3, zI (i3 + 2)]) (te := 34) (ps := [(0, .tmp 34)]) rfl dc rfl (fun _ => by kernel_rfl) (fun b1 => ?_)
        obtain ⟨hg4, h⟩ := zbW h
        refine zbw (k := 0) (k2 := 1) (ys := [(⟨i3, i3 + 2⟩ : Gapi_Span)]) Tryd.underlying89 zi3 zbk zbU rfl dc rfl rfl rfl rfl rfl rfl hg4 (fun v6 => ?_)
        show TO _ _ _ _ _ _ _ _ _ _ [vec zaq 34 2 v6 (l4 ++ [(⟨i3, i3 + 2⟩ : Gapi_Span)]), cells b1 [zI i3, zI (i3 + 2)] 34]
        refine zai rfl dc rfl (zaj (zah (zae (zaf rfl dc rfl ?_))))
        obtain ⟨hg5, h⟩ := zbW h
        refine zau rfl dc rfl rfl (za5 (r := i3 + 1) (IntWalk.i64_in _ hg5)) (zai rfl dc rfl (zaj (zav (zav ?_))))
        exact zaJ (l4 ++ [(⟨i3, i3 + 2⟩ : Gapi_Span)], i3 + 1, v6) h rfl (zab rfl (zab rfl (zab rfl (zay)))) (zam [0] kr rfl)
       ·
        have h := zaU hb4 h
        refine zak (zae (zaf rfl dc rfl (zaf rfl dc rfl ?_)))
        obtain ⟨c3, hq3, h⟩ := zbN h
        refine zbC rfl dc rfl rfl (za1 Tryd.underlying9 hq3) (zau rfl dc rfl rfl zbF (zaf rfl dc rfl ?_))
        refine za3 (s := 44) rfl (fun hb5 => ?_) (fun hb5 => ?_)
        ·
         have h := zaT hb5 h
         refine zal rfl dc (zal rfl dc (zal rfl dc (zal rfl dc (zaA (b := true) rfl dc rfl rfl (zai rfl dc rfl (zaj (zah (zbn rfl (zae (zaf rfl dc rfl (zaf rfl dc rfl (zaf rfl dc rfl ?_))))))))))))
         obtain ⟨hg6, h⟩ := zbW h
         refine zau rfl dc rfl rfl (za5 (r := i3 + 1) (IntWalk.i64_in _ hg6)) ?_
         refine zbi (v := .agg #[zI i3, zI (i3 + 1)]) (ps := [(0, .tmp 51), (1, .tmp 53)]) rfl dc rfl (fun _ => by kernel_rfl) ?_
         refine zbb (cs := [zI i3, zI (i3 + 1)]) (te := 34) (ps := [(0, .tmp 54)]) rfl dc rfl (fun _ => by kernel_rfl) (fun b2 => ?_)
         obtain ⟨hg7, h⟩ := zbW h
         refine zbw (k := 0) (k2 := 1) (ys := [(⟨i3, i3 + 1⟩ : Gapi_Span)]) Tryd.underlying89 zi3 zbk zbU rfl dc rfl rfl rfl rfl rfl rfl hg7 (fun v7 => ?_)
         show TO _ _ _ _ _ _ _ _ _ _ [vec zaq 34 2 v7 (l4 ++ [(⟨i3, i3 + 1⟩ : Gapi_Span)]), cells b2 [zI i3, zI (i3 + 1)] 34]
         refine zai rfl dc rfl (zaj (zav (zav ?_)))
         exact zaJ (l4 ++ [(⟨i3, i3 + 1⟩ : Gapi_Span)], i3, v7) h rfl (zab rfl (zab rfl (zab rfl (zay)))) (zam [0] kr rfl)
        ·
         have h := zaU hb5 h
         refine zaf rfl dc rfl (zaf rfl dc rfl (zbC rfl dc rfl rfl (za1 Tryd.underlying9 hq3) (zau rfl dc rfl rfl zbF (zaA (b := false) rfl dc rfl rfl (zai rfl dc rfl (zaj (zah ?_)))))))
         refine zaI rfl (fun hb6 => ?_) (fun hb6 => ?_)
         ·
          have h := zaT hb6 h
          refine zae (zaf rfl dc rfl (zaf rfl dc rfl (zaf rfl dc rfl ?_)))
          obtain ⟨hg8, h⟩ := zbW h
          refine zau rfl dc rfl rfl (za5 (r := i3 + 1) (IntWalk.i64_in _ hg8)) ?_
          refine zbi (v := .agg #[zI i3, zI (i3 + 1)]) (ps := [(0, .tmp 51), (1, .tmp 53)]) rfl dc rfl (fun _ => by kernel_rfl) ?_
          refine zbb (cs := [zI i3, zI (i3 + 1)]) (te := 34) (ps := [(0, .tmp 54)]) rfl dc rfl (fun _ => by kernel_rfl) (fun b3 => ?_)
          obtain ⟨hg9, h⟩ := zbW h
          refine zbw (k := 0) (k2 := 1) (ys := [(⟨i3, i3 + 1⟩ : Gapi_Span)]) Tryd.underlying89 zi3 zbk zbU rfl dc rfl rfl rfl rfl rfl rfl hg9 (fun v8 => ?_)
          show TO _ _ _ _ _ _ _ _ _ _ [vec zaq 34 2 v8 (l4 ++ [(⟨i3, i3 + 1⟩ : Gapi_Span)]), cells b3 [zI i3, zI (i3 + 1)] 34]
          refine zai rfl dc rfl (zaj (zav (zav ?_)))
          exact zaJ (l4 ++ [(⟨i3, i3 + 1⟩ : Gapi_Span)], i3, v8) h rfl (zab rfl (zab rfl (zab rfl (zay)))) (zam [0] kr rfl)
         ·
          have h := zaU hb6 h
          refine zaK (zav (zav ?_))
          exact zaJ (l4, i3, v4) h rfl (zab rfl (zab rfl (zab rfl (zay)))) (zam [0] kr rfl)
      ·
       have h := zaU hb3 h
       refine zal rfl dc (zal rfl dc (zal rfl dc (zal rfl dc (zal rfl dc (zaA (b := false) rfl dc rfl rfl (zai rfl dc rfl (zaj (zah (zbj rfl (zak (zae (zaf rfl dc rfl (zaf rfl dc rfl ?_)))))))))))))
       obtain ⟨c4, hq4, h⟩ := zbN h
       refine zbC rfl dc rfl rfl (za1 Tryd.underlying9 hq4) (zau rfl dc rfl rfl zbF (zaf rfl dc rfl ?_))
       refine za3 (s := 44) rfl (fun hb7 => ?_) (fun hb7 => ?_)
       ·
        have h := zaT hb7 h
        refine zal rfl dc (zal rfl dc (zal rfl dc (zal rfl dc (zaA (b := true) rfl dc rfl rfl (zai rfl dc rfl (zaj (zah (zbn rfl (zae (zaf rfl dc rfl (zaf rfl dc rfl (zaf rfl dc rfl ?_))))))))))))
        obtain ⟨hg10, h⟩ := zbW h
        refine zau rfl dc rfl rfl (za5 (r := i3 + 1) (IntWalk.i64_in _ hg10)) ?_
        refine zbi (v := .agg #[zI i3, zI (i3 + 1)]) (ps := [(0, .tmp 51), (1, .tmp 53)]) rfl dc rfl (fun _ => by kernel_rfl) ?_
        refine zbb (cs := [zI i3, zI (i3 + 1)]) (te := 34) (ps := [(0, .tmp 54)]) rfl dc rfl (fun _ => by kernel_rfl) (fun b4 => ?_)
        obtain ⟨hg11, h⟩ := zbW h
        refine zbw (k := 0) (k2 := 1) (ys := [(⟨i3, i3 + 1⟩ : Gapi_Span)]) Tryd.underlying89 zi3 zbk zbU rfl dc rfl rfl rfl rfl rfl rfl hg11 (fun v9 => ?_)
        show TO _ _ _ _ _ _ _ _ _ _ [vec zaq 34 2 v9 (l4 ++ [(⟨i3, i3 + 1⟩ : Gapi_Span)]), cells b4 [zI i3, zI (i3 + 1)] 34]
        refine zai rfl dc rfl (zaj (zav (zav ?_)))
        exact zaJ (l4 ++ [(⟨i3, i3 + 1⟩ : Gapi_Span)], i3, v9) h rfl (zab rfl (zab rfl (zab rfl (zay)))) (zam [0] kr rfl)
       ·
        have h := zaU hb7 h
        refine zaf rfl dc rfl (zaf rfl dc rfl (zbC rfl dc rfl rfl (za1 Tryd.underlying9 hq4) (zau rfl dc rfl rfl zbF (zaA (b := false) rfl dc rfl rfl (zai rfl dc rfl (zaj (zah ?_)))))))
        refine zaI rfl (fun hb8 => ?_) (fun hb8 => ?_)
        ·
         have h := zaT hb8 h
         refine zae (zaf rfl dc rfl (zaf rfl dc rfl (zaf rfl dc rfl ?_)))
         obtain ⟨hg12, h⟩ := zbW h
         refine zau rfl dc rfl rfl (za5 (r := i3 + 1) (IntWalk.i64_in _ hg12)) ?_
         refine zbi (v := .agg #[zI i3, zI (i3 + 1)]) (ps := [(0, .tmp 51), (1, .tmp 53)]) rfl dc rfl (fun _ => by kernel_rfl) ?_
         refine zbb (cs := [zI i3, zI (i3 + 1)]) (te := 34) (ps := [(0, .tmp 54)]) rfl dc rfl (fun _ => by kernel_rfl) (fun b5 => ?_)
         obtain ⟨hg13, h⟩ := zbW h
         refine zbw (k := 0) (k2 := 1) (ys := [(⟨i3, i3 + 1⟩ : Gapi_Span)]) Tryd.underlying89 zi3 zbk zbU rfl dc rfl rfl rfl rfl rfl rfl hg13 (fun v10 => ?_)
         show TO _ _ _ _ _ _ _ _ _ _ [vec zaq 34 2 v10 (l4 ++ [(⟨i3, i3 + 1⟩ : Gapi_Span)]), cells b5 [zI i3, zI (i3 + 1)] 34]
         refine zai rfl dc rfl (zaj (zav (zav ?_)))
         exact zaJ (l4 ++ [(⟨i3, i3 + 1⟩ : Gapi_Span)], i3, v10) h rfl (zab rfl (zab rfl (zab rfl (zay)))) (zam [0] kr rfl)
        ·
         have h := zaU hb8 h
         refine zaK (zav (zav ?_))
         exact zaJ (l4, i3, v4) h rfl (zab rfl (zab rfl (zab rfl (zay)))) (zam [0] kr rfl)
     ·
      have h := zaU hb2 h
      refine zal rfl dc (zal rfl dc (zal rfl dc (zal rfl dc (zal rfl dc (zaA (b := false) rfl dc rfl rfl (zaf rfl dc rfl (zal rfl dc (zal rfl dc (zal rfl dc (zal rfl dc (zal rfl dc (zaA (b := false) rfl dc rfl rfl (zai rfl dc rfl ?_)))))))))))))
      refine zaj (zah (zbj rfl (zak (zae (zaf rfl dc rfl (zaf rfl dc rfl ?_))))))
      obtain ⟨c5, hq5, h⟩ := zbN h
      refine zbC rfl dc rfl rfl (za1 Tryd.underlying9 hq5) (zau rfl dc rfl rfl zbF (zaf rfl dc rfl ?_))
      refine za3 (s := 44) rfl (fun hb9 => ?_) (fun hb9 => ?_)
      ·
       have h := zaT hb9 h
       refine zal rfl dc (zal rfl dc (zal rfl dc (zal rfl dc (zaA (b := true) rfl dc rfl rfl (zai rfl dc rfl (zaj (zah (zbn rfl (zae (zaf rfl dc rfl (zaf rfl dc rfl (zaf rfl dc rfl ?_))))))))))))
       obtain ⟨hg14, h⟩ := zbW h
       refine zau rfl dc rfl rfl (za5 (r := i3 + 1) (IntWalk.i64_in _ hg14)) ?_
       refine zbi (v := .agg #[zI i3, zI (i3 + 1)]) (ps := [(0, .tmp 51), (1, .tmp 53)]) rfl dc rfl (fun _ => by kernel_rfl) ?_
       refine zbb (cs := [zI i3, zI (i3 + 1)]) (te := 34) (ps := [(0, .tmp 54)]) rfl dc rfl (fun _ => by kernel_rfl) (fun b6 => ?_)
       obtain ⟨hg15, h⟩ := zbW h
       refine zbw (k := 0) (k2 := 1) (ys := [(⟨i3, i3 + 1⟩ : Gapi_Span)]) Tryd.underlying89 zi3 zbk zbU rfl dc rfl rfl rfl rfl rfl rfl hg15 (fun v11 => ?_)
       show TO _ _ _ _ _ _ _ _ _ _ [vec zaq 34 2 v11 (l4 ++ [(⟨i3, i3 + 1⟩ : Gapi_Span)]), cells b6 [zI i3, zI (i3 + 1)] 34]
       refine zai rfl dc rfl (zaj (zav (zav ?_)))
       exact zaJ (l4 ++ [(⟨i3, i3 + 1⟩ : Gapi_Span)], i3, v11) h rfl (zab rfl (zab rfl (zab rfl (zay)))) (zam [0] kr rfl)
      ·
       have h := zaU hb9 h
       refine zaf rfl dc rfl (zaf rfl dc rfl (zbC rfl dc rfl rfl (za1 Tryd.underlying9 hq5) (zau rfl dc rfl rfl zbF (zaA (b := false) rfl dc rfl rfl (zai rfl dc rfl (zaj (zah ?_)))))))
       refine zaI rfl (fun hb10 => ?_) (fun hb10 => ?_)
       ·
        have h := zaT hb10 h
        refine zae (zaf rfl dc rfl (zaf rfl dc rfl (zaf rfl dc rfl ?_)))
        obtain ⟨hg16, h⟩ := zbW h
        refine zau rfl dc rfl rfl (za5 (r := i3 + 1) (IntWalk.i64_in _ hg16)) ?_
        refine zbi (v := .agg #[zI i3, zI (i3 + 1)]) (ps := [(0, .tmp 51), (1, .tmp 53)]) rfl dc rfl (fun _ => by kernel_rfl) ?_
        refine zbb (cs := [zI i3, zI (i3 + 1)]) (te := 34) (ps := [(0, .tmp 54)]) rfl dc rfl (fun _ => by kernel_rfl) (fun b7 => ?_)
        obtain ⟨hg17, h⟩ := zbW h
        refine zbw (k := 0) (k2 := 1) (ys := [(⟨i3, i3 + 1⟩ : Gapi_Span)]) Tryd.underlying89 zi3 zbk zbU rfl dc rfl rfl rfl rfl rfl rfl hg17 (fun v12 => ?_)
        show TO _ _ _ _ _ _ _ _ _ _ [vec zaq 34 2 v12 (l4 ++ [(⟨i3, i3 + 1⟩ : Gapi_Span)]), cells b7 [zI i3, zI (i3 + 1)] 34]
        refine zai rfl dc rfl (zaj (zav (zav ?_)))
        exact zaJ (l4 ++ [(⟨i3, i3 + 1⟩ : Gapi_Span)], i3, v12) h rfl (zab rfl (zab rfl (zab rfl (zay)))) (zam [0] kr rfl)
       ·
        have h := zaU hb10 h
        refine zaK (zav (zav ?_))
        exact zaJ (l4, i3, v4) h rfl (zab rfl (zab rfl (zab rfl (zay)))) (zam [0] kr rfl)
    ·
     rintro ⟨l5, i4, v5⟩ h
     rw [hj2] at h
     show TC _ _ _ _ _ ([]) _ _ [(0, .string s1), (3, v5), (4, zI i4)] [vec zaq 34 2 v5 l5]
     refine zae (zaf rfl dc rfl ?_)
     obtain ⟨hg18, h⟩ := zbW h
     refine zau rfl dc rfl rfl (za5 (r := i4 + 1) (IntWalk.i64_in _ hg18)) (zai rfl dc rfl (zaj ?_))
     subst hag1
     exact za6 (n1, l5, i4 + 1, v5) h (Nat.lt_succ_self _) rfl (zab rfl (zab rfl (zab rfl (zay)))) (zam [0] kr rfl)
   ·
    have h := zaU hb1 h
    refine zbl (zaC (zaC (zaN ?_)))
    exact zaJ (l4, v4) h rfl (zab rfl (zay)) (zam [0] kr rfl)
 ·
  rintro ⟨l1, v1⟩ h
  rw [hj1] at h
  show TC _ _ _ _ _ ([]) _ _ [(3, v1)] [vec zaq 34 2 v1 l1]
  refine zak (zae (zaf rfl dc rfl (zai rfl dc rfl (zaj (zah (zaQ ?_))))))
  cases h
  exact zaW (rs := [.tmp 2]) v1 (.inl rfl) Tryd.results85 (.cons (.tmp rfl) .nil) rfl (zam [0] kr rfl)
def zct (s1 : ByteArray) (j1 : (List Gapi_Span) → Option (List Gapi_Span)) (r1 : (List Gapi_Span)) (r2 : (List Gapi_Span)) (ag1 : (List Gapi_Span) → Int → Int → Option (List Gapi_Span)) (l4 : List Gapi_Span) (from3 : Int) (i3 : Int) : Option (List Gapi_Span) :=
zaO (decide ((i3 : Int) < ((r1.length : Int) + 1))) (
zbE (fun (j2 : Int → Int → Option (List Gapi_Span)) =>
zaO (decide ((i3 : Int) < (r2.length : Int))) (
zaE (zdk r2 i3) fun (q1 : Gapi_Span) =>
zaE (zdk r2 i3) fun (q2 : Gapi_Span) =>
j2 q2.To q1.From
) (
j2 from3 (s1.size : Int)
)
) (fun (from4 : Int) (x1 : Int) =>
grd (l4.length + 1 ≤ 2147483648) <|
grd (I64 (i3 + 1)) <|
ag1 (l4 ++ [(⟨from3, x1⟩ : Gapi_Span)]) from4 (i3 + 1)
)
) (
j1 l4
)
def zd9 (s1 : ByteArray) : Option (List Gapi_Span) :=
zbE (fun (j1 : (List Gapi_Span) → Option (List Gapi_Span)) =>
zaE (zd1 s1) fun (r1 : (List Gapi_Span)) =>
grd (I64 ((r1.length : Int) + 1)) <|
zaE (zd1 s1) fun (r2 : (List Gapi_Span)) =>
za2 (fun _ _ _ => none) (zct s1 j1 r1 r2) zbG ([] : List Gapi_Span) 0 0
) (fun (l1 : List Gapi_Span) =>
some l1
)
theorem zii {s1 : ByteArray} {r : (List Gapi_Span)} (h : zd9 s1 = some r) : Fn Tryd.prog 64 [.string s1] [] (fun v0 : Value => v0) (fun v0 => [vec zaq 34 2 v0 r]) := by
 unfold zd9 at h
 refine Fn.intro Tryd.func64 rfl Tryd.ntmps64 (by simp) ?_
 intro w0 K
 obtain ⟨j1, hj1, h⟩ := zcc h
 refine zbf (β := (List Gapi_Span) × Value) 5 rfl (fun b => j1 b.1 = some r) (fun b => []) (fun b => [(4, b.2)]) (fun b => [vec zaq 34 2 b.2 b.1]) (fun cut => ?_) ?_
 ·
  refine zak (zae (zai rfl dc rfl (zaj (zah (zak (zae (zaf rfl dc rfl ?_)))))))
  obtain ⟨r1, hq1, h⟩ := zbN h
  refine zeq (vs := [.string s1]) rfl dc rfl rfl rfl zor (zgr hq1) Splits.nil ?_
  rintro v2
  show TO _ _ _ _ _ _ _ _ _ _ [vec zaq 34 2 v2 r1]
  refine zc3 (k := 0) rfl dc rfl rfl Tryd.underlying89 ?_
  obtain ⟨hg1, h⟩ := zbW h
  refine zau rfl dc rfl rfl (za5 (r := (r1.length : Int) + 1) (IntWalk.i64_in _ hg1)) (zai rfl dc rfl (zaj (zah (zak (zae (zai rfl dc rfl (zaj (zah (zak (zae (zaf rfl dc rfl ?_)))))))))))
  obtain ⟨r2, hq2, h⟩ := zbN h
  refine zeq (vs := [.string s1]) rfl dc rfl rfl rfl zor (zgr hq2) Splits.nil ?_
  rintro v3
  show TO _ _ _ _ _ _ _ _ _ _ [vec zaq 34 2 v2 r1, vec zaq 34 2 v3 r2]
  refine zai rfl dc rfl (zaj (zah (zak (zae (zai rfl dc rfl (zaj (zah (cut (zak (zae (zai rfl dc rfl (zaj (zah ?_)))))))))))))
  refine zaS (ze0 (enc := zaq) (e := 34) (size := 2) ?_)
  show TC _ _ _ _ _ _ _ _ _ [vec zaq 34 2 v2 r1, vec zaq 34 2 v3 r2, vec zaq 34 2 (.slice none 0 0) ([] : List Gapi_Span)]
  refine zbx (β := Nat × (List Gapi_Span) × Int × Int × Value) (fun b => za2 (fun _ _ _ => none) (zct s1 j1 r1 r2) b.1 b.2.1 b.2.2.1 b.2.2.2.1 = some r) (fun b => []) (fun b => [(0, .string s1), (3, zI ((r1.length : Int) + 1)), (4, b.2.2.2.2), (5, v3), (6, zI b.2.2.1), (7, zI b.2.2.2.1)]) (fun b => [vec zaq 34 2 b.2.2.2.2 b.2.1, vec zaq 34 2 v3 r2]) (fun b => b.1) (zbG, ([] : List Gapi_Span), 0, 0, (.slice none 0 0)) h rfl (zab rfl (zab rfl (zab rfl (zab rfl (zab rfl (zab rfl (zay))))))) (zam [2, 1] kr rfl) ?_
  rintro ⟨n1, l4, from3, i3, v6⟩ h
  cases n1 with
  | zero => exact zdy h
  | succ n1 =>
   obtain ⟨ag1, hag1⟩ : ∃ ag, ag = za2 (fun _ _ _ => none) (zct s1 j1 r1 r2) n1 := ⟨_, rfl⟩
   have h : zct s1 j1 r1 r2 ag1 l4 from3 i3 = some r := by rw [hag1]; exact h
   unfold zct at h
   show TC _ _ _ _ _ ([]) _ _ [(0, .string s1), (3, zI ((r1.length : Int) + 1)), (4, v6), (5, v3), (6, zI from3), (7, zI i3)] [vec zaq 34 2 v6 l4, vec zaq 34 2 v3 r2]
   refine zak (zak (zae (zaf rfl dc rfl (zaf rfl dc rfl (zau rfl dc rfl rfl zbA (zaj (zah ?_)))))))
   refine zaI rfl (fun hb1 => ?_) (fun hb1 => ?_)
   ·
    have h := zaT hb1 h
    refine zaK (zah (zak (zaS ?_)))
    obtain ⟨j2, hj2, h⟩ := zcc h
    refine zbf (β := Int × Int × Nat) 1 rfl (fun b => j2 b.1 b.2.1 = some r) (fun b => []) (fun b => [(0, .string s1), (3, zI ((r1.length : Int) + 1)), (4, v6), (5, v3), (6, zI b.1), (7, zI i3), (8, zP b.2.2)]) (fun b => [vec zaq 34 2 v6 l4, vec zaq 34 2 v3 r2, cells b.2.2 [zI from3, zI b.2.1] 34]) (fun cut => ?_) ?_
    ·
     refine zak (zae (zaf rfl dc rfl (zaf rfl dc rfl (zbp rfl dc rfl Tryd.underlying9 ?_))))
     refine zbi (v := .agg #[zI from3, zI (s1.size : Int)]) (ps := [(0, .tmp 20), (1, .tmp 22)]) rfl dc rfl (fun _ => by kernel_rfl) ?_
     refine zbv zkb rfl dc (fun b2 => ?_)
     refine za4 (k := 2) (vs := [zI from3, zI (s1.size : Int)]) (l' := [zI from3, zI (s1.size : Int)]) zf4 rfl rfl rfl rfl rfl (show _ ≤ _ by simp) rfl rfl ?_
     show TO _ _ _ _ _ _ _ _ _ _ [vec zaq 34 2 v6 l4, vec zaq 34 2 v3 r2, cells b2 [zI from3, zI (s1.size : Int)] 34]
     refine zaj (zah (cut (zak (zae (zaf rfl dc rfl (zaf rfl dc rfl (zc3 (k := 1) rfl dc rfl rfl Tryd.underlying89 (zau rfl dc rfl rfl zbA (zaj (zah ?_))))))))))
     refine zaI rfl (fun hb2 => ?_) (fun hb2 => ?_)
     ·
      have h := zaT hb2 h
      refine zak (zae (zaf rfl dc rfl (zaf rfl dc rfl ?_)))
      obtain ⟨q1, hq3, h⟩ := zbN h
      refine zbK (k := 1) hq3 Tryd.underlying89 zf4 rfl dc rfl rfl rfl rfl (zan zeC rfl dc rfl (show _ = ((i3 : Int).toNat) * 2 from rfl) (zcV (i := (i3 : Int).toNat) (j := 0) (k := 1) (q := q1) zeL zbk rfl dc rfl rfl (zbz hq3) rfl dc rfl (zan zfb rfl dc rfl (show _ = 1 from rfl) ?_)))
      refine zbh (k := 2) (l' := [zI from3, zI q1.From]) ziP rfl rfl rfl rfl rfl (fun _ _ => rfl) rfl ?_
      refine zaj (zah (zae (zaf rfl dc rfl (zaf rfl dc rfl ?_))))
      obtain ⟨q2, hq4, h⟩ := zbN h
      refine zbK (k := 1) hq4 Tryd.underlying89 zf4 rfl dc rfl rfl rfl rfl (zan zfb rfl dc rfl (show _ = ((i3 : Int).toNat) * 2 + 1 from rfl) (zcV (i := (i3 : Int).toNat) (j := 1) (k := 1) (q := q2) zeL zbk rfl dc rfl rfl (zbz hq4) rfl dc rfl (zai rfl dc rfl (zaj ?_))))
      exact zaJ (q2.To, q1.From, b2) h rfl (zab rfl (zab rfl (zab rfl (zab rfl (zab rfl (zab rfl (zab rfl (zay)))))))) (zam [0, 1, 2] kr rfl)
     ·
      have h := zaU hb2 h
      refine zaK ?_
      exact zaJ (from3, (s1.size : Int), b2) h rfl (zab rfl (zab rfl (zab rfl (zab rfl (zab rfl (zab rfl (zab rfl (zay)))))))) (zam [0, 1, 2] kr rfl)
    ·
     rintro ⟨from4, x1, b1⟩ h
     rw [hj2] at h
     show TC _ _ _ _ _ ([]) _ _ [(0, .string s1), (3, zI ((r1.length : Int) + 1)), (4, v6), (5, v3), (6, zI from4), (7, zI i3), (8, zP b1)] [vec zaq 34 2 v6 l4, vec zaq 34 2 v3 r2, cells b1 [zI from3, zI x1] 34]
     refine zae (zaf rfl dc rfl (zcj (k := 2) (cs := [zI from3, zI x1]) zgP rfl dc rfl rfl rfl rfl ?_))
     refine zbb (cs := [zI from3, zI x1]) (te := 34) (ps := [(0, .tmp 40)]) rfl dc rfl (fun _ => by kernel_rfl) (fun b3 => ?_)
     obtain ⟨hg2, h⟩ := zbW h
     refine zbw (k := 0) (k2 := 3) (ys := [(⟨from3, x1⟩ : Gapi_Span)]) Tryd.underlying89 zi3 zbk zbU rfl dc rfl rfl rfl rfl rfl rfl hg2 (fun v7 => ?_)
     show TO _ _ _ _ _ _ _ _ _ _ [vec zaq 34 2 v7 (l4 ++ [(⟨from3, x1⟩ : Gapi_Span)]), vec zaq 34 2 v3 r2, cells b1 [zI from3, zI x1] 34, cells b3 [zI from3, zI x1] 34]
     refine zai rfl dc rfl (zaj (zav (zah (zae (zaf rfl dc rfl ?_)))))
     obtain ⟨hg3, h⟩ := zbW h
     refine zau rfl dc rfl rfl (za5 (r := i3 + 1) (IntWalk.i64_in _ hg3)) (zai rfl dc rfl (zaj ?_))
     subst hag1
     exact za6 (n1, l4 ++ [(⟨from3, x1⟩ : Gapi_Span)], from4, i3 + 1, v7) h (Nat.lt_succ_self _) rfl (zab rfl (zab rfl (zab rfl (zab rfl (zab rfl (zab rfl (zay))))))) (zam [0, 1] kr rfl)
   ·
    have h := zaU hb1 h
    refine zbl (zaC (zaC (zaN ?_)))
    exact zaJ (l4, v6) h rfl (zab rfl (zay)) (zam [0] kr rfl)
 ·
  rintro ⟨l1, v1⟩ h
  rw [hj1] at h
  show TC _ _ _ _ _ ([]) _ _ [(4, v1)] [vec zaq 34 2 v1 l1]
  refine zak (zae (zaf rfl dc rfl (zai rfl dc rfl (zaj (zah (zaQ ?_))))))
  cases h
  exact zaW (rs := [.tmp 2]) v1 (.inl rfl) Tryd.results64 (.cons (.tmp rfl) .nil) rfl (zam [0] kr rfl)
def zdG (s1 : ByteArray) (j1 : Option Bool) (ag1 : Int → Option Bool) (i3 : Int) : Option Bool :=
zaO (decide ((i3 : Int) < (s1.size : Int))) (
zaE (zfP s1 i3) fun (c1 : Int) =>
zaO ((c1 : Int) == 10) (
some false
) (
zaO ((c1 : Int) == 13) (
some false
) (
grd (I64 (i3 + 1)) <|
ag1 (i3 + 1)
)
)
) (
j1
)
def zeS (s1 : ByteArray) : Option Bool :=
zbE (fun (j1 : Option Bool) =>
za2 (fun _ => none) (zdG s1 j1) zbG 0
) (
zaO (decide (((s1.size : Int) : Int) ≤ 1024)) (
zaE (zcX s1) fun (r1 : Bool) =>
some (!r1)
) (
some false
)
)
theorem zjw {s1 : ByteArray} {r : Bool} (h : zeS s1 = some r) : FnP Tryd.prog 69 [.string s1] (.bool r) := by
 unfold zeS at h
 refine FnP.intro Tryd.func69 rfl Tryd.ntmps69 (by simp) ?_
 intro w0 K
 obtain ⟨j1, hj1, h⟩ := zcc h
 refine zbf (β := Unit) 1 rfl (fun b => j1 = some r) (fun b => []) (fun b => [(0, .string s1)]) (fun b => []) (fun cut => ?_) ?_
 ·
  refine zak (zae (zai rfl dc rfl (zaj (zah (cut (zak (zae (zai rfl dc rfl (zaj (zah (zaS ?_)))))))))))
  refine zbx (β := Nat × Int) (fun b => za2 (fun _ => none) (zdG s1 j1) b.1 b.2 = some r) (fun b => []) (fun b => [(0, .string s1), (3, zI b.2)]) (fun b => []) (fun b => b.1) (zbG, 0) h rfl (zab rfl (zab rfl (zay))) Splits.nil ?_
  rintro ⟨n1, i3⟩ h
  cases n1 with
  | zero => exact zdy h
  | succ n1 =>
   obtain ⟨ag1, hag1⟩ : ∃ ag, ag = za2 (fun _ => none) (zdG s1 j1) n1 := ⟨_, rfl⟩
   have h : zdG s1 j1 ag1 i3 = some r := by rw [hag1]; exact h
   unfold zdG at h
   show TC _ _ _ _ _ ([]) _ _ [(0, .string s1), (3, zI i3)] []
   refine zak (zak (zae (zaf rfl dc rfl (zaf rfl dc rfl (zbp rfl dc rfl Tryd.underlying9 (zau rfl dc rfl rfl zbA (zaj (zah ?_))))))))
   refine zaI rfl (fun hb1 => ?_) (fun hb1 => ?_)
   ·
    have h := zaT hb1 h
    refine zaK (zah (zak (zaS (zak (zae (zaf rfl dc rfl (zaf rfl dc rfl ?_)))))))
    obtain ⟨c1, hq1, h⟩ := zbN h
    refine zbC rfl dc rfl rfl (za1 Tryd.underlying9 hq1) (zau rfl dc rfl rfl zbF (zaf rfl dc rfl ?_))
    refine za3 (s := 14) rfl (fun hb2 => ?_) (fun hb2 => ?_)
    ·
     have h := zaT hb2 h
     refine zal rfl dc (zal rfl dc (zal rfl dc (zal rfl dc (zaA (b := true) rfl dc rfl rfl (zaj (zah (zbn rfl (zak (zae (zai rfl dc rfl (zaj (zah (zaQ ?_)))))))))))))
     refine zaw (zas (zas (zaw (zas ?_))))
     cases h
     exact zaW (rs := [.tmp 2]) () (.inl rfl) Tryd.results69 (.cons (.tmp rfl) .nil) rfl Splits.nil
    ·
     have h := zaU hb2 h
     refine zaf rfl dc rfl (zaf rfl dc rfl (zbC rfl dc rfl rfl (za1 Tryd.underlying9 hq1) (zau rfl dc rfl rfl zbF (zaA (b := false) rfl dc rfl rfl (zaj (zah ?_))))))
     refine zaI rfl (fun hb3 => ?_) (fun hb3 => ?_)
     ·
      have h := zaT hb3 h
      refine zak (zae (zai rfl dc rfl (zaj (zah (zaQ (zaw (zas (zas (zaw (zas ?_))))))))))
      cases h
      exact zaW (rs := [.tmp 2]) () (.inl rfl) Tryd.results69 (.cons (.tmp rfl) .nil) rfl Splits.nil
     ·
      have h := zaU hb3 h
      refine zaK (zav (zah (zae (zaf rfl dc rfl ?_))))
      obtain ⟨hg1, h⟩ := zbW h
      refine zau rfl dc rfl rfl (za5 (r := i3 + 1) (IntWalk.i64_in _ hg1)) (zai rfl dc rfl (zaj ?_))
      subst hag1
      exact za6 (n1, i3 + 1) h (Nat.lt_succ_self _) rfl (zab rfl (zab rfl (zay))) Splits.nil
   ·
    have h := zaU hb1 h
    refine zbl (zaC (zaC (zaN ?_)))
    exact zaJ () h rfl (zab rfl (zay)) Splits.nil
 ·
  rintro _ h
  rw [hj1] at h
  show TC _ _ _ _ _ ([]) _ _ [(0, .string s1)] []
  refine zak (zae (zaf rfl dc rfl (zbp rfl dc rfl Tryd.underlying9 (zau rfl dc rfl rfl zjc (zaf rfl dc rfl ?_)))))
  refine za3 (s := 23) rfl (fun hb4 => ?_) (fun hb4 => ?_)
  ·
   have h := zaT hb4 h
   refine zaf rfl dc rfl ?_
   obtain ⟨r1, hq2, h⟩ := zbN h
   refine zbs (v := .bool r1) (vs := [.string s1]) rfl dc rfl rfl rfl zot (zf8 hq2) (zf7 rfl dc rfl zeE (zaA (b := true) rfl dc rfl rfl (zai rfl dc rfl (zaj (zah (zaQ ?_))))))
   cases h
   exact zaW (rs := [.tmp 2]) () (.inl rfl) Tryd.results69 (.cons (.tmp rfl) .nil) rfl Splits.nil
  ·
   have h := zaU hb4 h
   refine zal rfl dc (zal rfl dc (zal rfl dc (zaA (b := false) rfl dc rfl rfl (zai rfl dc rfl (zaj (zah (zaQ ?_)))))))
   cases h
   exact zaW (rs := [.tmp 2]) () (.inl rfl) Tryd.results69 (.cons (.tmp rfl) .nil) rfl Splits.nil
def zc4 (s1 : ByteArray) (j1 : Option Bool) (ag1 : Int → Option Bool) (i3 : Int) : Option Bool :=
zaO (decide ((i3 : Int) < (s1.size : Int))) (
zaE (zfP s1 i3) fun (c1 : Int) =>
zaO ((c1 : Int) == 10) (
some false
) (
zaO ((c1 : Int) == 13) (
some false
) (
grd (I64 (i3 + 1)) <|
ag1 (i3 + 1)
)
)
) (
j1
)
def zd8 (s1 : ByteArray) : Option Bool :=
zbE (fun (j1 : Option Bool) =>
za2 (fun _ => none) (zc4 s1 j1) zbG 0
) (
some (decide (((s1.size : Int) : Int) ≤ 1022))
)
theorem zih {s1 : ByteArray} {r : Bool} (h : zd8 s1 = some r) : FnP Tryd.prog 71 [.string s1] (.bool r) := by
 unfold zd8 at h
 refine FnP.intro Tryd.func71 rfl Tryd.ntmps71 (by simp) ?_
 intro w0 K
 obtain ⟨j1, hj1, h⟩ := zcc h
 refine zbf (β := Unit) 1 rfl (fun b => j1 = some r) (fun b => []) (fun b => [(0, .string s1)]) (fun b => []) (fun cut => ?_) ?_
 ·
  refine zak (zae (zai rfl dc rfl (zaj (zah (cut (zak (zae (zai rfl dc rfl (zaj (zah (zaS ?_)))))))))))
  refine zbx (β := Nat × Int) (fun b => za2 (fun _ => none) (zc4 s1 j1) b.1 b.2 = some r) (fun b => []) (fun b => [(0, .string s1), (3, zI b.2)]) (fun b => []) (fun b => b.1) (zbG, 0) h rfl (zab rfl (zab rfl (zay))) Splits.nil ?_
  rintro ⟨n1, i3⟩ h
  cases n1 with
  | zero => exact zdy h
  | succ n1 =>
   obtain ⟨ag1, hag1⟩ : ∃ ag, ag = za2 (fun _ => none) (zc4 s1 j1) n1 := ⟨_, rfl⟩
   have h : zc4 s1 j1 ag1 i3 = some r := by rw [hag1]; exact h
   unfold zc4 at h
   show TC _ _ _ _ _ ([]) _ _ [(0, .string s1), (3, zI i3)] []
   refine zak (zak (zae (zaf rfl dc rfl (zaf rfl dc rfl (zbp rfl dc rfl Tryd.underlying9 (zau rfl dc rfl rfl zbA (zaj (zah ?_))))))))
   refine zaI rfl (fun hb1 => ?_) (fun hb1 => ?_)
   ·
    have h := zaT hb1 h
    refine zaK (zah (zak (zaS (zak (zae (zaf rfl dc rfl (zaf rfl dc rfl ?_)))))))
    obtain ⟨c1, hq1, h⟩ := zbN h
    refine zbC rfl dc rfl rfl (za1 Tryd.underlying9 hq1) (zau rfl dc rfl rfl zbF (zaf rfl dc rfl ?_))
    refine za3 (s := 14) rfl (fun hb2 => ?_) (fun hb2 => ?_)
    ·
     have h := zaT hb2 h
     refine zal rfl dc (zal rfl dc (zal rfl dc (zal rfl dc (zaA (b := true) rfl dc rfl rfl (zaj (zah (zbn rfl (zak (zae (zai rfl dc rfl (zaj (zah (zaQ ?_)))))))))))))
     refine zaw (zas (zas (zaw (zas ?_))))
     cases h
     exact zaW (rs := [.tmp 2]) () (.inl rfl) Tryd.results71 (.cons (.tmp rfl) .nil) rfl Splits.nil
    ·
     have h := zaU hb2 h
     refine zaf rfl dc rfl (zaf rfl dc rfl (zbC rfl dc rfl rfl (za1 Tryd.underlying9 hq1) (zau rfl dc rfl rfl zbF (zaA (b := false) rfl dc rfl rfl (zaj (zah ?_))))))
     refine zaI rfl (fun hb3 => ?_) (fun hb3 => ?_)
     ·
      have h := zaT hb3 h
      refine zak (zae (zai rfl dc rfl (zaj (zah (zaQ (zaw (zas (zas (zaw (zas ?_))))))))))
      cases h
      exact zaW (rs := [.tmp 2]) () (.inl rfl) Tryd.results71 (.cons (.tmp rfl) .nil) rfl Splits.nil
     ·
      have h := zaU hb3 h
      refine zaK (zav (zah (zae (zaf rfl dc rfl ?_))))
      obtain ⟨hg1, h⟩ := zbW h
      refine zau rfl dc rfl rfl (za5 (r := i3 + 1) (IntWalk.i64_in _ hg1)) (zai rfl dc rfl (zaj ?_))
      subst hag1
      exact za6 (n1, i3 + 1) h (Nat.lt_succ_self _) rfl (zab rfl (zab rfl (zay))) Splits.nil
   ·
    have h := zaU hb1 h
    refine zbl (zaC (zaC (zaN ?_)))
    exact zaJ () h rfl (zab rfl (zay)) Splits.nil
 ·
  rintro _ h
  rw [hj1] at h
  show TC _ _ _ _ _ ([]) _ _ [(0, .string s1)] []
  refine zak (zae (zaf rfl dc rfl (zbp rfl dc rfl Tryd.underlying9 (zau rfl dc rfl rfl zjc (zai rfl dc rfl (zaj (zah (zaQ ?_))))))))
  cases h
  exact zaW (rs := [.tmp 2]) () (.inl rfl) Tryd.results71 (.cons (.tmp rfl) .nil) rfl Splits.nil
end Go.Proofs.YtgfkogafkhbgnaaDoor
namespace Go.Proofs.YtgfkogafkhbgnaaDoor
open Go.RowKit Go.Lib
set_option linter.unusedVariables false
set_option linter.unusedSimpArgs false
/-! ### Bytes -/
theorem ziD (s : ByteArray) : s.data.toList.length = s.size := by rw [Array.length_toList]; rfl
theorem zel {s : ByteArray} {i : Nat} {b : UInt8} {t : List UInt8} (h : s.data.toList.drop i = b :: t) : zfP s (i : Int) = some (b.toNat : Int) ∧ i < s.size := by
  have hl : i < s.data.toList.length := by
    rcases Nat.lt_or_ge i s.data.toList.length with h1 | h1
    · exact h1
    · rw [List.drop_eq_nil_of_le h1] at h; cases h
  have hs : i < s.size := by rw [← ziD]; exact hl
  refine ⟨?_, hs⟩
  rw [zmi rfl hs]
  rw [List.drop_eq_getElem_cons hl] at h
  have h2 := (List.cons.inj h).1
  rw [Array.getElem_toList] at h2
  rw [← h2]; rfl
theorem zed {s : ByteArray} {i : Nat} (h : s.data.toList.drop i = []) (hi : i ≤ s.size) : i = s.size := by
  rw [List.drop_eq_nil_iff, ziD] at h; omega
theorem zey {l : List UInt8} {i : Nat} {b : UInt8} {t : List UInt8} (h : l.drop i = b :: t) : l.drop (i + 1) = t := by
  rw [← List.drop_drop, h]; rfl
theorem n13 (b : UInt8) : ((b.toNat : Int) == 13) = decide (b = 13) := by
  by_cases h : b = 13
  · subst h; rfl
  · rw [decide_eq_false h]; exact beq_eq_false_iff_ne.2 (fun e => h (UInt8.toNat.inj (by show b.toNat = 13; omega)))
theorem n10 (b : UInt8) : ((b.toNat : Int) == 10) = decide (b = 10) := by
  by_cases h : b = 10
  · subst h; rfl
  · rw [decide_eq_false h]; exact beq_eq_false_iff_ne.2 (fun e => h (UInt8.toNat.inj (by show b.toNat = 10; omega)))
theorem n32 (b : UInt8) : ((b.toNat : Int) == 32) = decide (b = 32) := by
  by_cases h : b = 32
  · subst h; rfl
  · rw [decide_eq_false h]; exact beq_eq_false_iff_ne.2 (fun e => h (UInt8.toNat.inj (by show b.toNat = 32; omega)))
theorem n9 (b : UInt8) : ((b.toNat : Int) == 9) = decide (b = 9) := by
  by_cases h : b = 9
  · subst h; rfl
  · rw [decide_eq_false h]; exact beq_eq_false_iff_ne.2 (fun e => h (UInt8.toNat.inj (by show b.toNat = 9; omega)))
theorem n35 (b : UInt8) : ((b.toNat : Int) == 35) = decide (b = 35) := by
  by_cases h : b = 35
  · subst h; rfl
  · rw [decide_eq_false h]; exact beq_eq_false_iff_ne.2 (fun e => h (UInt8.toNat.inj (by show b.toNat = 35; omega)))

/-! ### The lines' spans -/
/-- The spans of lines: p: the byte ahead is 13; f: where the line begins; a: where we are. -/
def spP : Bool → Nat → Nat → List UInt8 → List (Nat × Nat)
  | _, f, a, [] => [(f, a)]
  | p, f, a, b :: t =>
    if b = 13 then (if t.head? = some 10 then spP true f (a + 1) t else (f, a) :: spP true (a + 1) (a + 1) t)
    else if b = 10 then (f, if p then a - 1 else a) :: spP false (a + 1) (a + 1) t
    else spP false f (a + 1) t
def zcl (l : List UInt8) : List (Nat × Nat) := spP false 0 0 l
def mkS (x : Nat × Nat) : Gapi_Span := ⟨x.1, x.2⟩
/-- The ends of lines. -/
def enP : Bool → Nat → List UInt8 → List (Nat × Nat)
  | _, _, [] => []
  | p, a, b :: t =>
    if b = 13 then (if t.head? = some 10 then enP true (a + 1) t else (a, a + 1) :: enP true (a + 1) t)
    else if b = 10 then ((if p then a - 1 else a), a + 1) :: enP false (a + 1) t
    else enP false (a + 1) t
def liE (n : Nat) : Nat → List (Nat × Nat) → List (Nat × Nat)
  | f, [] => [(f, n)]
  | f, (x, y) :: es => (f, x) :: liE n y es
theorem zhK : ∀ (l : List UInt8) (p : Bool) (f a : Nat), liE (a + l.length) f (enP p a l) = spP p f a l
  | [], p, f, a => rfl
  | b :: t, p, f, a => by
    have e : a + (b :: t).length = a + 1 + t.length := by rw [List.length_cons]; omega
    rw [e]
    unfold enP spP
    split
    · split
      · exact zhK t _ _ _
      · show (f, a) :: liE _ _ _ = _
        rw [zhK t]
    · split
      · show (f, _) :: liE _ _ _ = _
        rw [zhK t]
      · exact zhK t _ _ _
theorem znR {t : List UInt8} (h : t.head? ≠ some 10) (a : Nat) : enP true a t = enP false a t := by
  cases t with
  | nil => rfl
  | cons b t =>
    have hb : b ≠ 10 := fun e => h (by rw [e]; rfl)
    unfold enP
    rw [if_neg hb, if_neg hb]
theorem zhV : ∀ (l : List UInt8) (p : Bool) (a : Nat), (enP p a l).length ≤ l.length
  | [], p, a => Nat.le_refl _
  | b :: t, p, a => by
    unfold enP
    rw [List.length_cons]
    split
    · split
      · have := zhV t true (a + 1); omega
      · rw [List.length_cons]; have := zhV t true (a + 1); omega
    · split
      · rw [List.length_cons]; have := zhV t false (a + 1); omega
      · have := zhV t false (a + 1); omega
theorem zmm (s : ByteArray) (J : List Gapi_Span → Option (List Gapi_Span)) (hs : s.size ≤ 1073741824) : ∀ (n i : Nat) (acc : List Gapi_Span), i ≤ s.size → s.size - i < n → acc.length ≤ i →
    za2 (fun _ _ => none) (zcY s J) n acc (i : Int) = J (acc ++ (enP false i (s.data.toList.drop i)).map mkS) := by
  intro n
  induction n with
  | zero => intro i acc h1 h2; omega
  | succ n ih =>
    intro i acc hi hn ha
    rw [zbq]
    obtain ⟨ag, hag⟩ : ∃ ag, ag = za2 (fun _ _ => none) (zcY s J) n := ⟨_, rfl⟩
    have ihn : ∀ (i : Nat) (acc : List Gapi_Span), i ≤ s.size → s.size - i < n → acc.length ≤ i → ag acc (i : Int) = J (acc ++ (enP false i (s.data.toList.drop i)).map mkS) := by rw [hag]; exact ih
    rw [← hag]
    clear ih hag
    unfold zcY
    cases hd : s.data.toList.drop i with
    | nil =>
      have := zed hd hi
      refine zaP (decide_eq_false (by omega)) ?_
      show J acc = J (acc ++ [])
      rw [List.append_nil]
    | cons b t =>
      obtain ⟨hb, hlt⟩ := zel hd
      have hd1 := zey hd
      refine zaY (decide_eq_true (by omega)) (zcx (za7 hb ?_))
      have hcast : (i : Int) + 1 = ((i + 1 : Nat) : Int) := by omega
      have goOn : ∀ (acc2 : List Gapi_Span), acc2.length ≤ i + 1 → (grd (I64 ((i : Int) + 1)) <| ag acc2 ((i : Int) + 1)) = J (acc2 ++ (enP false (i + 1) t).map mkS) := fun acc2 h2 => by
        refine zcq ⟨by omega, by omega⟩ ?_
        rw [hcast, ihn (i + 1) acc2 (by omega) (by omega) h2, hd1]
      by_cases h13 : b = 13
      · refine zaY (by rw [n13]; exact decide_eq_true h13) (zcq ⟨by omega, by omega⟩ ?_)
        have one : (grd (I64 ((i : Int) + 1)) <| grd (acc.length + 1 ≤ 2147483648) <| (grd (I64 ((i : Int) + 1)) <| ag (acc ++ [(⟨i, (i : Int) + 1⟩ : Gapi_Span)]) ((i : Int) + 1))) = J (acc ++ ((i, i + 1) :: enP false (i + 1) t).map mkS) := by
          refine zcq ⟨by omega, by omega⟩ (zcq (by omega) ?_)
          rw [goOn _ (by simp; omega), List.map_cons, List.append_assoc]
          rfl
        cases t with
        | nil =>
          have hsz : i + 1 = s.size := zed hd1 (by omega)
          refine zaP (decide_eq_false (by omega)) (za7 hb (zaY (by rw [n13]; exact decide_eq_true h13) ?_))
          refine one.trans ?_
          unfold enP; rw [if_pos h13, if_neg (by simp)]; rfl
        | cons c u =>
          obtain ⟨hc, hlt2⟩ := zel hd1
          refine zaY (decide_eq_true (by omega)) (zcq ⟨by omega, by omega⟩ (za7 (by rw [hcast]; exact hc) ?_))
          by_cases h10 : c = 10
          · refine zaY (by rw [n10]; exact decide_eq_true h10) (zcq ⟨by omega, by omega⟩ (zcq (by omega) (zcq ⟨by omega, by omega⟩ ?_)))
            refine zcq ⟨by omega, by omega⟩ ?_
            have hd2 := zey hd1
            show ag _ ((i : Int) + 1 + 1) = _
            rw [show (i : Int) + 1 + 1 = ((i + 2 : Nat) : Int) by omega, ihn (i + 2) _ (by omega) (by omega) (by simp; omega), hd2, List.append_assoc]
            have e2 : enP false i (b :: c :: u) = (i, i + 2) :: enP false (i + 2) u := by
              rw [enP, if_pos h13, if_pos (by rw [h10]; rfl), enP, if_neg (by rw [h10]; decide), if_pos h10, if_pos rfl]
              rfl
            rw [e2]
            rfl
          · refine zaP (by rw [n10]; exact decide_eq_false h10) (za7 hb (zaY (by rw [n13]; exact decide_eq_true h13) ?_))
            refine one.trans ?_
            rw [show enP false i (b :: c :: u) = (i, i + 1) :: enP true (i + 1) (c :: u) by rw [enP, if_pos h13, if_neg (by simp [h10])], znR (by simp [h10])]
      · refine zaP (by rw [n13]; exact decide_eq_false h13) (za7 hb (zaP (by rw [n13]; exact decide_eq_false h13) ?_))
        by_cases h10 : b = 10
        · refine zaY (by rw [n10]; exact decide_eq_true h10) (zcq ⟨by omega, by omega⟩ (zcq (by omega) ?_))
          refine (goOn _ (by simp; omega)).trans ?_
          rw [List.append_assoc]
          rw [enP, if_neg h13, if_pos h10]; rfl
        · refine zaP (by rw [n10]; exact decide_eq_false h10) ?_
          refine (goOn _ (by omega)).trans ?_
          rw [enP, if_neg h13, if_neg h10]
theorem znr (s : ByteArray) (hs : s.size ≤ 1073741824) : zd1 s = some ((enP false 0 s.data.toList).map mkS) := by
  unfold zd1
  refine zcx ?_
  have := zmm s (fun l => some l) hs zbG 0 [] (Nat.zero_le _) (by unfold zbG; omega) (Nat.le_refl _)
  rw [List.drop_zero, List.nil_append] at this
  exact this
theorem zlo (s : ByteArray) (J : List Gapi_Span → Option (List Gapi_Span)) (E : List (Nat × Nat)) (hE : E.length ≤ 1073741824) : ∀ (n i f : Nat) (acc : List Gapi_Span), i ≤ E.length → E.length + 1 - i < n → acc.length = i →
    za2 (fun _ _ _ => none) (zct s J (E.map mkS) (E.map mkS)) n acc (f : Int) (i : Int) = J (acc ++ (liE s.size f (E.drop i)).map mkS) := by
  intro n
  induction n with
  | zero => intro i f acc h1 h2; omega
  | succ n ih =>
    intro i f acc hi hn ha
    rw [zbq]
    obtain ⟨ag, hag⟩ : ∃ ag, ag = za2 (fun _ _ _ => none) (zct s J (E.map mkS) (E.map mkS)) n := ⟨_, rfl⟩
    rw [← hag]
    unfold zct
    refine zaY (decide_eq_true (by rw [List.length_map]; omega)) (zcx ?_)
    cases hd : E.drop i with
    | nil =>
      have hl : E.length ≤ i := List.drop_eq_nil_iff.1 hd
      obtain rfl : i = E.length := by omega
      refine zaP (decide_eq_false (by rw [List.length_map]; omega)) (zcq (by omega) (zcq ⟨by omega, by omega⟩ ?_))
      obtain ⟨n, rfl⟩ : ∃ m, n = m + 1 := ⟨n - 1, by omega⟩
      rw [hag, zbq]
      unfold zct
      refine zaP (decide_eq_false (by rw [List.length_map]; omega)) rfl
    | cons x es =>
      have hl : i < E.length := by
        rcases Nat.lt_or_ge i E.length with h | h
        · exact h
        · rw [List.drop_eq_nil_of_le h] at hd; cases hd
      have hx : E[i]? = some x := by
        rw [List.drop_eq_getElem_cons hl] at hd
        rw [List.getElem?_eq_getElem hl, (List.cons.inj hd).1]
      have hg : zdk (E.map mkS) (i : Int) = some (mkS x) := zcb (by rw [List.getElem?_map, hx]; rfl)
      refine zaY (decide_eq_true (by rw [List.length_map]; omega)) (za7 hg (za7 hg (zcq (by omega) (zcq ⟨by omega, by omega⟩ ?_))))
      have hd1 : E.drop (i + 1) = es := by rw [← List.drop_drop, hd]; rfl
      have := ih (i + 1) x.2 (acc ++ [(⟨f, x.1⟩ : Gapi_Span)]) (by omega) (by omega) (by simp; omega)
      rw [hd1, List.append_assoc, ← hag] at this
      exact this
theorem zlf (s : ByteArray) (hs : s.size ≤ 65536) : zd9 s = some ((zcl s.data.toList).map mkS) := by
  unfold zd9
  have hl := zhV s.data.toList false 0
  rw [ziD] at hl
  refine zcx (za7 (znr s (by omega)) (zcq ⟨by omega, by rw [List.length_map]; omega⟩ (za7 (znr s (by omega)) ?_)))
  have := zlo s (fun l => some l) (enP false 0 s.data.toList) (by omega) zbG 0 0 [] (Nat.zero_le _) (by unfold zbG; omega) rfl
  rw [List.drop_zero, List.nil_append] at this
  refine this.trans ?_
  unfold zcl
  rw [← zhK, ziD, Nat.zero_add]
end Go.Proofs.YtgfkogafkhbgnaaDoor
namespace Go.Proofs.YtgfkogafkhbgnaaDoor
open Go.RowKit Go.Lib
set_option linter.unusedVariables false
set_option linter.unusedSimpArgs false
theorem zj1 {b : UInt8} {t : List UInt8} (hb : 128 ≤ b.toNat) : 128 ≤ (decodeL (b :: t)).1 ∧ ∀ x ∈ (b :: t).take (decodeL (b :: t)).2, 128 ≤ x.toNat := by
  have hd := zm8 (b :: t) (by simp)
  generalize (decodeL (b :: t)).1 = r at hd ⊢
  generalize (decodeL (b :: t)).2 = w at hd ⊢
  obtain ⟨w, rfl⟩ : ∃ v, w = v + 1 := ⟨w - 1, by have := hd.pos; omega⟩
  by_cases hbr : r = 65533 ∧ w + 1 = 1
  · obtain ⟨rfl, hw⟩ := hbr
    obtain rfl : w = 0 := by omega
    refine ⟨by omega, fun x hx => ?_⟩
    simp at hx; subst hx; omega
  · have he := hd.bytes hbr
    have hr : 128 ≤ r := by
      rcases Nat.lt_or_ge r 128 with h1 | h1
      · rw [zmn r h1, List.take_succ_cons] at he
        have h2 : r.toUInt8 = b := (List.cons.inj he).1
        have h3 : b.toNat = r := by rw [← h2]; simp; omega
        omega
      · exact h1
    refine ⟨hr, ?_⟩
    rw [← he]
    exact (zi2 r hd.valid hr).2.2
def spE (e : Gplace_ended) : Gapi_Span := ⟨e.span_From, e.span_To⟩
/-- Is the byte ahead 13? -/
def pv (l : List UInt8) (i : Nat) : Bool := decide (0 < i) && l.getD (i - 1) 0 == 13
theorem zmg {l : List UInt8} {i : Nat} {b : UInt8} {t : List UInt8} (h : l.drop i = b :: t) : l.getD i 0 = b := by
  have h2 : (l.drop i)[0]? = some b := by rw [h]; rfl
  rw [List.getElem?_drop] at h2
  rw [List.getD_eq_getElem?_getD, show i = i + 0 from rfl, h2]; rfl
theorem zlZ {l : List UInt8} {i : Nat} {b : UInt8} {t : List UInt8} (h : l.drop i = b :: t) : pv l (i + 1) = (b == 13) := by
  unfold pv
  rw [Nat.add_sub_cancel, zmg h, decide_eq_true (by omega), Bool.true_and]
theorem znC {l : List UInt8} {i w : Nat} (hw : 1 ≤ w) (hle : w ≤ (l.drop i).length) (h : ∀ x ∈ (l.drop i).take w, 128 ≤ x.toNat) : pv l (i + w) = false := by
  unfold pv
  obtain ⟨w, rfl⟩ : ∃ v, w = v + 1 := ⟨w - 1, by omega⟩
  have hlt : w < (l.drop i).length := by omega
  have h1 : (l.drop i)[w]? = some ((l.drop i)[w]) := List.getElem?_eq_getElem hlt
  have h2 : (l.drop i)[w] ∈ (l.drop i).take (w + 1) := by
    refine List.mem_of_getElem? (i := w) ?_
    rw [List.getElem?_take, if_pos (by omega)]; exact h1
  have h3 := h _ h2
  rw [List.getElem?_drop] at h1
  rw [show i + (w + 1) - 1 = i + w by omega, List.getD_eq_getElem?_getD, h1, Option.getD_some]
  have : ((l.drop i)[w] == 13) = false := beq_eq_false_iff_ne.2 (fun e => by rw [e] at h3; exact absurd h3 (by decide))
  rw [this, Bool.and_false]
theorem zlP : ∀ (x t : List UInt8) (p : Bool) (f i : Nat), (∀ b ∈ x, 128 ≤ b.toNat) → x ≠ [] → spP p f i (x ++ t) = spP false f (i + x.length) t
  | [], t, p, f, i, h, hx => absurd rfl hx
  | b :: x, t, p, f, i, h, hx => by
    have hb := h b (by simp)
    have h13 : b ≠ 13 := fun e => by rw [e] at hb; exact absurd hb (by decide)
    have h10 : b ≠ 10 := fun e => by rw [e] at hb; exact absurd hb (by decide)
    rw [List.cons_append, spP, if_neg h13, if_neg h10]
    by_cases hx2 : x = []
    · subst hx2; rfl
    · rw [zlP x t false f (i + 1) (fun y hy => h y (by simp [hy])) hx2, List.length_cons]
      rw [show i + 1 + x.length = i + (x.length + 1) by omega]
section
variable {s : ByteArray} {j1 : (List Gapi_Place) → (List Gplace_ended) → Int → Int → Int → Int → Int → Int → Int → Option ((Option Gplace_Map) × Int)} {ag : (List Gapi_Place) → (List Gplace_ended) → Int → Int → Int → Int → Int → Int → Int → Nat → Option ((Option Gplace_Map) × Int)}
  {M : List Gapi_Place} {E : List Gplace_ended} {p16 p17 p18 p19 p20 f7 f8 : Int} {m : Nat} {p : Pc}
def u22 (p : Pc) (p18 : Int) : Int := if 65536 ≤ p.r then p18 + 1 + 1 else p18 + 1
theorem zpd {X : Option ((Option Gplace_Map) × Int)} {A B C D : Prop} [Decidable A] [Decidable B] [Decidable C] [Decidable D] (hA : A) (hB : B) (hC : C) (hD : D) (h18 : I64 (p18 + 1 + 1)) {K : Int → Option ((Option Gplace_Map) × Int)} (h : K (u22 p p18) = X) :
    zbE (fun (j2 : Int → Option ((Option Gplace_Map) × Int)) => grd A <| grd B <| grd C <| grd D <| zaO (decide ((65536 : Int) ≤ (p.r : Int))) (grd (I64 ((p18 + 1) + 1)) <| j2 ((p18 + 1) + 1)) (j2 (p18 + 1))) K = X := by
  refine zcx (zcq hA (zcq hB (zcq hC (zcq hD ?_))))
  unfold u22 at h
  by_cases h1 : 65536 ≤ p.r
  · rw [if_pos h1] at h; exact zaY (decide_eq_true (by omega)) (zcq h18 h)
  · rw [if_neg h1] at h; exact zaP (decide_eq_false (by omega)) h
/-- The program's step at a piece. -/
theorem zmR {X : Option ((Option Gplace_Map) × Int)} (hp : (pcs s.data.toList)[m]? = some p) (hm : M.length + 1 ≤ 2147483648) (h17 : I64 (p17 + 1)) (h18 : I64 (p18 + 1 + 1)) (h18' : I64 (p18 + 1)) (h20 : I64 (p20 + 1))
    (hi : p.i < s.size) (hs : s.size ≤ 65536) (hE : E.length + 1 ≤ 2147483648) (h19 : I64 (p19 + 1))
    (hX : (p.r ≠ 13 ∧ p.r ≠ 10 ∨ p.r = 13 ∧ ∃ c u, s.data.toList.drop (p.i + 1) = c :: u ∧ c = 10) ∧ ag (M ++ [(⟨p.i, p17, p18, p19, p20⟩ : Gapi_Place)]) E p.i (p17 + 1) (u22 p p18) p19 (p20 + 1) f7 f8 (m + 1) = X ∨
      ∃ w : Nat, w ≤ p.i + 1 ∧ (p.r = 13 ∧ s.data.toList[p.i + 1]? ≠ some 10 ∧ w = 1 ∨ p.r = 10 ∧ w = (if pv s.data.toList p.i then 2 else 1)) ∧
        ag (M ++ [(⟨p.i, p17, p18, p19, p20⟩ : Gapi_Place)]) (E ++ [(⟨f7, ((p.i + 1 - w : Nat) : Int), w, f8⟩ : Gplace_ended)]) p.i (p17 + 1) (u22 p p18) (p19 + 1) 0 ((p.i + 1 : Nat) : Int) ((M.length + 1 : Nat) : Int) (m + 1) = X) :
    zcI s j1 ag M E p16 p17 p18 p19 p20 f7 f8 m = X := by
  have hl := (List.getElem?_eq_some_iff.1 hp).1
  unfold zcI
  refine zaY (decide_eq_true hl) (za7 hp (zpd hm h17 h18' h20 h18 ?_))
  refine zcx ?_
  have e13 : ((p.r : Int) == 13) = decide (p.r = 13) := by
    by_cases h : p.r = 13
    · rw [h]; rfl
    · rw [decide_eq_false h]; exact beq_eq_false_iff_ne.2 (by omega)
  have e10 : ((p.r : Int) == 10) = decide (p.r = 10) := by
    by_cases h : p.r = 10
    · rw [h]; rfl
    · rw [decide_eq_false h]; exact beq_eq_false_iff_ne.2 (by omega)
  have n13' : ((p.r : Int) != 13) = !decide (p.r = 13) := by unfold bne; rw [e13]
  have n10' : ((p.r : Int) != 10) = !decide (p.r = 10) := by unfold bne; rw [e10]
  have hsucc : (p.i : Int) + 1 = ((p.i + 1 : Nat) : Int) := by omega
  have fin : ∀ w : Nat, w ≤ p.i + 1 → ag (M ++ [(⟨p.i, p17, p18, p19, p20⟩ : Gapi_Place)]) (E ++ [(⟨f7, ((p.i + 1 - w : Nat) : Int), w, f8⟩ : Gplace_ended)]) p.i (p17 + 1) (u22 p p18) (p19 + 1) 0 ((p.i + 1 : Nat) : Int) ((M.length + 1 : Nat) : Int) (m + 1) = X →
      (grd (I64 ((p.i : Int) + 1)) <| grd (I64 (((p.i : Int) + 1) - (w : Int))) <| grd (E.length + 1 ≤ 2147483648) <| grd (I64 ((p.i : Int) + 1)) <| grd (I64 (p19 + 1)) <|
        ag (M ++ [(⟨(p.i : Int), p17, p18, p19, p20⟩ : Gapi_Place)]) (E ++ [(⟨f7, ((p.i : Int) + 1) - (w : Int), (w : Int), f8⟩ : Gplace_ended)]) (p.i : Int) (p17 + 1) (u22 p p18) (p19 + 1) 0 ((p.i : Int) + 1) ((M ++ [(⟨(p.i : Int), p17, p18, p19, p20⟩ : Gapi_Place)]).length : Int) (m + 1)) = X := fun w hw h => by
    refine zcq ⟨by omega, by omega⟩ (zcq ⟨by omega, by omega⟩ (zcq hE (zcq ⟨by omega, by omega⟩ (zcq h19 ?_))))
    rw [← h]
    rw [show ((p.i : Int) + 1) - (w : Int) = ((p.i + 1 - w : Nat) : Int) by omega, show (p.i : Int) + 1 = ((p.i + 1 : Nat) : Int) by omega, List.length_append]
    rfl
  by_cases h13 : p.r = 13
  · refine zaY (by rw [e13]; exact decide_eq_true h13) (zcq ⟨by omega, by omega⟩ ?_)
    have no10 : p.r ≠ 10 := by omega
    rcases hX with ⟨hc, hX⟩ | ⟨w, hw, hc, hX⟩
    · rcases hc with ⟨h, _⟩ | ⟨_, c, u, hd, hc⟩
      · exact absurd h13 h
      · obtain ⟨hg, hlt⟩ := zel hd
        refine zaY (decide_eq_true (by omega)) (zcq ⟨by omega, by omega⟩ (za7 (by rw [hsucc]; exact hg) (zaY (by rw [n10]; exact decide_eq_true hc) hX)))
    · have hw1 : w = 1 ∧ s.data.toList[p.i + 1]? ≠ some 10 := by
        rcases hc with ⟨_, h, rfl⟩ | ⟨h, _⟩
        · exact ⟨rfl, h⟩
        · exact absurd h no10
      obtain ⟨rfl, hne⟩ := hw1
      have tail : (zaO (((p.r : Int) : Int) != 13) (zaO (((p.r : Int) : Int) != 10) (ag (M ++ [(⟨(p.i : Int), p17, p18, p19, p20⟩ : Gapi_Place)]) E (p.i : Int) (p17 + 1) (u22 p p18) p19 (p20 + 1) f7 f8 (m + 1)) ((grd (I64 ((p.i : Int) + 1)) <| grd (I64 (((p.i : Int) + 1) - (1 : Int))) <| grd (E.length + 1 ≤ 2147483648) <| grd (I64 ((p.i : Int) + 1)) <| grd (I64 (p19 + 1)) <|
        ag (M ++ [(⟨(p.i : Int), p17, p18, p19, p20⟩ : Gapi_Place)]) (E ++ [(⟨f7, ((p.i : Int) + 1) - (1 : Int), (1 : Int), f8⟩ : Gplace_ended)]) (p.i : Int) (p17 + 1) (u22 p p18) (p19 + 1) 0 ((p.i : Int) + 1) ((M ++ [(⟨(p.i : Int), p17, p18, p19, p20⟩ : Gapi_Place)]).length : Int) (m + 1)))) ((grd (I64 ((p.i : Int) + 1)) <| grd (I64 (((p.i : Int) + 1) - (1 : Int))) <| grd (E.length + 1 ≤ 2147483648) <| grd (I64 ((p.i : Int) + 1)) <| grd (I64 (p19 + 1)) <|
        ag (M ++ [(⟨(p.i : Int), p17, p18, p19, p20⟩ : Gapi_Place)]) (E ++ [(⟨f7, ((p.i : Int) + 1) - (1 : Int), (1 : Int), f8⟩ : Gplace_ended)]) (p.i : Int) (p17 + 1) (u22 p p18) (p19 + 1) 0 ((p.i : Int) + 1) ((M ++ [(⟨(p.i : Int), p17, p18, p19, p20⟩ : Gapi_Place)]).length : Int) (m + 1)))) = X :=
        zaP (by rw [n13', decide_eq_true h13]; rfl) (fin 1 hw hX)
      cases hd : s.data.toList.drop (p.i + 1) with
      | nil =>
        have hsz := zed hd (by omega)
        refine zaP (decide_eq_false (by omega)) (zaP (by rw [e10]; exact decide_eq_false no10) tail)
      | cons c u =>
        obtain ⟨hg, hlt⟩ := zel hd
        have hc10 : c ≠ 10 := fun e => hne (by
          have : (s.data.toList.drop (p.i + 1))[0]? = some c := by rw [hd]; rfl
          rw [List.getElem?_drop] at this; rw [← e]; exact this)
        refine zaY (decide_eq_true (by omega)) (zcq ⟨by omega, by omega⟩ (za7 (by rw [hsucc]; exact hg) (zaP (by rw [n10]; exact decide_eq_false hc10) (zaP (by rw [e10]; exact decide_eq_false no10) tail))))
  · refine zaP (by rw [e13]; exact decide_eq_false h13) ?_
    by_cases h10 : p.r = 10
    · refine zaY (by rw [e10]; exact decide_eq_true h10) ?_
      rcases hX with ⟨hc, hX⟩ | ⟨w, hw, hc, hX⟩
      · rcases hc with ⟨_, h⟩ | ⟨h, _⟩
        · exact absurd h10 h
        · exact absurd h h13
      · have hw1 : w = (if pv s.data.toList p.i then 2 else 1) := by
          rcases hc with ⟨h, _⟩ | ⟨_, h⟩
          · exact absurd h h13
          · exact h
        have t13 : ((p.r : Int) != 13) = true := by rw [n13', decide_eq_false h13]; rfl
        have t10 : ((p.r : Int) != 10) = false := by rw [n10', decide_eq_true h10]; rfl
        by_cases h0 : 0 < p.i
        · refine zaY (decide_eq_true (by omega)) (zcq ⟨by omega, by omega⟩ ?_)
          obtain ⟨c, u, hd⟩ : ∃ c u, s.data.toList.drop (p.i - 1) = c :: u := by
            cases hd : s.data.toList.drop (p.i - 1) with
            | nil => have := zed hd (by omega); omega
            | cons c u => exact ⟨c, u, rfl⟩
          obtain ⟨hg, _⟩ := zel hd
          have hpv : pv s.data.toList p.i = (c == 13) := by
            have := zlZ hd
            rwa [show p.i - 1 + 1 = p.i by omega] at this
          refine za7 (by rw [show (p.i : Int) - 1 = ((p.i - 1 : Nat) : Int) by omega]; exact hg) ?_
          by_cases hc13 : c = 13
          · have : w = 2 := by rw [hw1, hpv, hc13]; rfl
            subst this
            exact zaY (by rw [n13]; exact decide_eq_true hc13) (fin 2 hw hX)
          · have : w = 1 := by rw [hw1, hpv, beq_eq_false_iff_ne.2 hc13]; rfl
            subst this
            exact zaP (by rw [n13]; exact decide_eq_false hc13) (zaY t13 (zaP t10 (fin 1 hw hX)))
        · have : w = 1 := by rw [hw1]; unfold pv; rw [decide_eq_false h0]; rfl
          subst this
          exact zaP (decide_eq_false (by omega)) (zaY t13 (zaP t10 (fin 1 hw hX)))
    · refine zaP (by rw [e10]; exact decide_eq_false h10) ?_
      rcases hX with ⟨hc, hX⟩ | ⟨w, hw, hc, hX⟩
      · exact zaY (by rw [n13', decide_eq_false h13]; rfl) (zaY (by rw [n10', decide_eq_false h10]; rfl) hX)
      · rcases hc with ⟨h, _⟩ | ⟨h, _⟩
        · exact absurd h h13
        · exact absurd h h10
end
theorem zmS (s : ByteArray) (J : (List Gapi_Place) → (List Gplace_ended) → Int → Int → Int → Int → Int → Int → Int → Option ((Option Gplace_Map) × Int)) (hs : s.size ≤ 65536) :
    ∀ (n m i : Nat) (M : List Gapi_Place) (E : List Gplace_ended) (p16 p17 p18 p19 p20 f8 : Int) (f : Nat), (pcs s.data.toList).drop m = zc9 i (s.data.toList.drop i) → i ≤ s.size → s.size - i < n → M.length ≤ i → E.length ≤ i →
      0 ≤ p17 → p17 ≤ i → 0 ≤ p18 → p18 ≤ 2 * i → 0 ≤ p19 → p19 ≤ i → 0 ≤ p20 → p20 ≤ i →
      ∃ M' E' q1 q2 q3 q4 q5 g8, ∃ g : Nat, za2 (fun _ _ _ _ _ _ _ _ _ _ => none) (zcI s J) n M E p16 p17 p18 p19 p20 (f : Int) f8 m = J M' E' q1 q2 q3 q4 q5 (g : Int) g8 ∧ M'.length ≤ s.size ∧ E'.length ≤ s.size ∧
        E'.map spE ++ [mkS (g, s.size)] = E.map spE ++ (spP (pv s.data.toList i) f i (s.data.toList.drop i)).map mkS := by
  intro n
  induction n with
  | zero => intro m i M E p16 p17 p18 p19 p20 f8 f h1 h2 h3; omega
  | succ n ih =>
    intro m i M E p16 p17 p18 p19 p20 f8 f hd hi hn hM hE a1 a2 a3 a4 a5 a6 a7 a8
    rw [zbq]
    obtain ⟨ag, hag⟩ : ∃ ag, ag = za2 (fun _ _ _ _ _ _ _ _ _ _ => none) (zcI s J) n := ⟨_, rfl⟩
    rw [← hag] at ih ⊢
    cases hl : s.data.toList.drop i with
    | nil =>
      have hsz := zed hl hi
      rw [hl, zcp] at hd
      have hge := List.drop_eq_nil_iff.1 hd
      refine ⟨M, E, p16, p17, p18, p19, p20, f8, f, ?_, by omega, by omega, ?_⟩
      · unfold zcI
        exact zaP (decide_eq_false (by omega)) rfl
      · subst hsz; rfl
    | cons b t =>
      have hlt := (zel hl).2
      rw [hl, zcJ i (b :: t) (by simp)] at hd
      have hlm : m < (pcs s.data.toList).length := by
        rcases Nat.lt_or_ge m (pcs s.data.toList).length with h | h
        · exact h
        · rw [List.drop_eq_nil_of_le h] at hd; cases hd
      have hq : (pcs s.data.toList)[m]? = some ⟨i, (decodeL (b :: t)).2, (decodeL (b :: t)).1⟩ := by
        rw [List.drop_eq_getElem_cons hlm] at hd
        rw [List.getElem?_eq_getElem hlm, (List.cons.inj hd).1]
      have hw1 := zeX (b :: t)
      have hwl := zg7 (b :: t) (by simp)
      have hd2 : (pcs s.data.toList).drop (m + 1) = zc9 (i + (decodeL (b :: t)).2) (s.data.toList.drop (i + (decodeL (b :: t)).2)) := by
        rw [← List.drop_drop, hd, ← List.drop_drop, hl]; rfl
      have hisz : i + (decodeL (b :: t)).2 ≤ s.size := by
        have : (s.data.toList.drop i).length = (b :: t).length := by rw [hl]
        rw [List.length_drop, ziD] at this; omega
      have hup : ∀ (q : Pc), 0 ≤ u22 q p18 ∧ u22 q p18 ≤ p18 + 2 := fun q => by unfold u22; split <;> omega
      obtain ⟨hu1, hu2⟩ := hup ⟨i, (decodeL (b :: t)).2, (decodeL (b :: t)).1⟩
      have hst := @zmR s J ag M E p16 p17 p18 p19 p20 (f : Int) f8 m ⟨i, (decodeL (b :: t)).2, (decodeL (b :: t)).1⟩
      by_cases hb : 128 ≤ b.toNat
      · obtain ⟨hr, hall⟩ := zj1 (t := t) hb
        obtain ⟨M', E', q1, q2, q3, q4, q5, g8, g, h1, h2, h3, h4⟩ := ih (m + 1) (i + (decodeL (b :: t)).2) (M ++ [(⟨i, p17, p18, p19, p20⟩ : Gapi_Place)]) E i (p17 + 1) (u22 ⟨i, (decodeL (b :: t)).2, (decodeL (b :: t)).1⟩ p18) p19 (p20 + 1) f8 f hd2 hisz (by omega) (by simp; omega) (by omega) (by omega) (by omega) hu1 (by omega) a5 (by omega) (by omega) (by omega)
        refine ⟨M', E', q1, q2, q3, q4, q5, g8, g, hst hq (by omega) ⟨by omega, by omega⟩ ⟨by omega, by omega⟩ ⟨by omega, by omega⟩ ⟨by omega, by omega⟩ hlt hs (by omega) ⟨by omega, by omega⟩ (.inl ⟨.inl ⟨by show (decodeL (b :: t)).1 ≠ 13; omega, by show (decodeL (b :: t)).1 ≠ 10; omega⟩, h1⟩), h2, h3, ?_⟩
        rw [h4, znC hw1 (by rw [hl]; exact hwl) (by rw [hl]; exact hall)]
        congr 2
        have hsplit : b :: t = (b :: t).take (decodeL (b :: t)).2 ++ (b :: t).drop (decodeL (b :: t)).2 := (List.take_append_drop _ _).symm
        have hlen : ((b :: t).take (decodeL (b :: t)).2).length = (decodeL (b :: t)).2 := by rw [List.length_take]; omega
        conv => rhs; rw [hsplit]
        rw [zlP _ _ _ _ _ hall (by intro e; rw [e] at hlen; simp at hlen; omega), hlen, ← List.drop_drop, hl]
      · have hdec := decodeL_ascii b t (by omega)
        rw [hdec] at hst hq hd2 hisz
        dsimp only at hst hq hd2 hisz
        obtain ⟨hu3, hu4⟩ := hup ⟨i, 1, b.toNat⟩
        clear hu1 hu2
        have hd1 := zey hl
        have hpn := zlZ hl
        by_cases h13 : b = 13
        · by_cases ht : t.head? = some 10
          · obtain ⟨c, u, rfl⟩ : ∃ c u, t = c :: u := by cases t with | nil => cases ht | cons c u => exact ⟨c, u, rfl⟩
            have hc : c = 10 := Option.some.inj ht
            obtain ⟨M', E', q1, q2, q3, q4, q5, g8, g, h1, h2, h3, h4⟩ := ih (m + 1) (i + 1) (M ++ [(⟨i, p17, p18, p19, p20⟩ : Gapi_Place)]) E i (p17 + 1) (u22 ⟨i, 1, b.toNat⟩ p18) p19 (p20 + 1) f8 f hd2 hisz (by omega) (by simp; omega) (by omega) (by omega) (by omega) hu3 (by omega) a5 (by omega) (by omega) (by omega)
            refine ⟨M', E', q1, q2, q3, q4, q5, g8, g, hst hq (by omega) ⟨by omega, by omega⟩ ⟨by omega, by omega⟩ ⟨by omega, by omega⟩ ⟨by omega, by omega⟩ hlt hs (by omega) ⟨by omega, by omega⟩ (.inl ⟨.inr ⟨by rw [h13]; rfl, c, u, hd1, hc⟩, h1⟩), h2, h3, ?_⟩
            rw [h4, hpn, hd1]
            congr 2
            conv => rhs; rw [spP, if_pos h13, if_pos ht]
            rw [h13]; rfl
          · obtain ⟨M', E', q1, q2, q3, q4, q5, g8, g, h1, h2, h3, h4⟩ := ih (m + 1) (i + 1) (M ++ [(⟨i, p17, p18, p19, p20⟩ : Gapi_Place)]) (E ++ [(⟨f, ((i + 1 - 1 : Nat) : Int), (1 : Nat), f8⟩ : Gplace_ended)]) i (p17 + 1) (u22 ⟨i, 1, b.toNat⟩ p18) (p19 + 1) 0 ((M.length + 1 : Nat) : Int) (i + 1) hd2 hisz (by omega) (by simp; omega) (by simp; omega) (by omega) (by omega) hu3 (by omega) (by omega) (by omega) (by omega) (by omega)
            refine ⟨M', E', q1, q2, q3, q4, q5, g8, g, hst hq (by omega) ⟨by omega, by omega⟩ ⟨by omega, by omega⟩ ⟨by omega, by omega⟩ ⟨by omega, by omega⟩ hlt hs (by omega) ⟨by omega, by omega⟩ (.inr ⟨1, by show 1 ≤ i + 1; omega, .inl ⟨by rw [h13]; rfl, ?_, rfl⟩, h1⟩), h2, h3, ?_⟩
            · show s.data.toList[i + 1]? ≠ some 10
              rw [← hd1, List.head?_eq_getElem?, List.getElem?_drop] at ht
              exact ht
            · rw [h4, hpn, hd1, List.map_append, List.append_assoc]
              congr 1
              conv => rhs; rw [spP, if_pos h13, if_neg ht]
              rw [h13]
              show spE _ :: List.map mkS (spP true (i + 1) (i + 1) t) = mkS (f, i) :: _
              rfl
        · by_cases h10 : b = 10
          · have hw2 : (if pv s.data.toList i then 2 else 1) ≤ i + 1 := by
              split
              · rename_i h; unfold pv at h; rw [Bool.and_eq_true, decide_eq_true_iff] at h; omega
              · omega
            obtain ⟨M', E', q1, q2, q3, q4, q5, g8, g, h1, h2, h3, h4⟩ := ih (m + 1) (i + 1) (M ++ [(⟨i, p17, p18, p19, p20⟩ : Gapi_Place)]) (E ++ [(⟨f, ((i + 1 - (if pv s.data.toList i then 2 else 1) : Nat) : Int), ((if pv s.data.toList i then 2 else 1 : Nat) : Int), f8⟩ : Gplace_ended)]) i (p17 + 1) (u22 ⟨i, 1, b.toNat⟩ p18) (p19 + 1) 0 ((M.length + 1 : Nat) : Int) (i + 1) hd2 hisz (by omega) (by simp; omega) (by simp; omega) (by omega) (by omega) hu3 (by omega) (by omega) (by omega) (by omega) (by omega)
            refine ⟨M', E', q1, q2, q3, q4, q5, g8, g, hst hq (by omega) ⟨by omega, by omega⟩ ⟨by omega, by omega⟩ ⟨by omega, by omega⟩ ⟨by omega, by omega⟩ hlt hs (by omega) ⟨by omega, by omega⟩ (.inr ⟨_, hw2, .inr ⟨by rw [h10]; rfl, rfl⟩, h1⟩), h2, h3, ?_⟩
            rw [h4, hpn, hd1, List.map_append, List.append_assoc]
            congr 1
            conv => rhs; rw [spP, if_neg h13, if_pos h10]
            show spE _ :: List.map mkS (spP (b == 13) (i + 1) (i + 1) t) = mkS (f, _) :: _
            rw [beq_eq_false_iff_ne.2 h13]
            congr 1
            unfold spE mkS
            congr 1
            cases pv s.data.toList i <;> rfl
          · obtain ⟨M', E', q1, q2, q3, q4, q5, g8, g, h1, h2, h3, h4⟩ := ih (m + 1) (i + 1) (M ++ [(⟨i, p17, p18, p19, p20⟩ : Gapi_Place)]) E i (p17 + 1) (u22 ⟨i, 1, b.toNat⟩ p18) p19 (p20 + 1) f8 f hd2 hisz (by omega) (by simp; omega) (by omega) (by omega) (by omega) hu3 (by omega) a5 (by omega) (by omega) (by omega)
            refine ⟨M', E', q1, q2, q3, q4, q5, g8, g, hst hq (by omega) ⟨by omega, by omega⟩ ⟨by omega, by omega⟩ ⟨by omega, by omega⟩ ⟨by omega, by omega⟩ hlt hs (by omega) ⟨by omega, by omega⟩ (.inl ⟨.inl ⟨fun e => h13 (UInt8.toNat.inj e), fun e => h10 (UInt8.toNat.inj e)⟩, h1⟩), h2, h3, ?_⟩
            rw [h4, hpn, hd1, beq_eq_false_iff_ne.2 h13]
            congr 2
            conv => rhs; rw [spP, if_neg h13, if_neg h10]
/-- The lines of a text's map are the text's lines. -/
theorem zpc (s : ByteArray) (hs : s.size ≤ 65536) : ∃ m : Gplace_Map, zdV s = some (some m, 0) ∧ m.text = s ∧ m.lines.map spE = (zcl s.data.toList).map mkS := by
  obtain ⟨M', E', q1, q2, q3, q4, q5, g8, g, h1, h2, h3, h4⟩ := zmS s (fun (m1 : List Gapi_Place) (m2 : List Gplace_ended) (p1 : Int) (p2 : Int) (p3 : Int) (p4 : Int) (p5 : Int) (line1 : Int) (line2 : Int) =>
    grd (m1.length + 1 ≤ 2147483648) <| grd (m2.length + 1 ≤ 2147483648) <| some ((some (⟨s, m1 ++ [(⟨(s.size : Int), p2, p3, p4, p5⟩ : Gapi_Place)], m2 ++ [(⟨line1, (s.size : Int), 0, line2⟩ : Gplace_ended)]⟩ : Gplace_Map)), 0)) hs zbG 0 0 [] [] 0 0 0 0 0 0 0
    (by rw [List.drop_zero, List.drop_zero]; rfl) (Nat.zero_le _) (by unfold zbG; omega) (Nat.le_refl _) (Nat.le_refl _) (by omega) (by omega) (by omega) (by omega) (by omega) (by omega) (by omega) (by omega)
  refine ⟨⟨s, M' ++ [(⟨(s.size : Int), q2, q3, q4, q5⟩ : Gapi_Place)], E' ++ [(⟨(g : Int), (s.size : Int), 0, g8⟩ : Gplace_ended)]⟩, ?_, rfl, ?_⟩
  · unfold zdV
    refine zaP (decide_eq_false (by omega)) (zcx (h1.trans ?_))
    exact zcq (by omega) (zcq (by omega) rfl)
  · show List.map spE (E' ++ [_]) = _
    rw [List.map_append]
    exact h4
theorem zmT (s : ByteArray) (hs : 65536 < s.size) : zdV s = some (none, 3) := by
  unfold zdV
  exact zaY (decide_eq_true (by omega)) rfl
end Go.Proofs.YtgfkogafkhbgnaaDoor
namespace Go.Proofs.YtgfkogafkhbgnaaDoor
open Go.RowKit Go.Lib
set_option linter.unusedVariables false
set_option linter.unusedSimpArgs false
def zbr (s1 : ByteArray) (prefix1 : ByteArray) : Option Bool :=
zaO (decide (((prefix1.size : Int) : Int) ≤ (s1.size : Int))) (
grd (0 ≤ (0 : Int) ∧ (0 : Int) ≤ (prefix1.size : Int) ∧ ((prefix1.size : Int) : Int) ≤ (s1.size : Int)) <|
some (decide (zbc s1 0 (prefix1.size : Int) = prefix1))
) (
some false
)
theorem zc1 {s1 : ByteArray} {prefix1 : ByteArray} {r : Bool} (h : zbr s1 prefix1 = some r) : FnP Tryd.prog 58 [.string s1, .string prefix1] (.bool r) := by
 unfold zbr at h
 refine FnP.intro Tryd.func58 rfl Tryd.ntmps58 (by simp) ?_
 intro w0 K
 refine zak (zae (zai rfl dc rfl (zaj (zah (zak (zae (zaf rfl dc rfl (zbp rfl dc rfl Tryd.underlying9 (zaf rfl dc rfl (zbp rfl dc rfl Tryd.underlying9 (zau rfl dc rfl rfl zeo (zaf rfl dc rfl ?_))))))))))))
 refine za3 (s := 10) rfl (fun hb1 => ?_) (fun hb1 => ?_)
 ·
  have h := zaT hb1 h
  refine zaf rfl dc rfl (zaf rfl dc rfl (zbp rfl dc rfl Tryd.underlying9 ?_))
  obtain ⟨hg1, h⟩ := zbW h
  refine zee rfl dc rfl rfl rfl (zce (i := 0) (j := (prefix1.size : Int)) Tryd.underlying9 (.inl ⟨rfl, rfl⟩) (.inr rfl) hg1) (zaf rfl dc rfl (zau rfl dc rfl rfl zf1 (zaA (b := true) rfl dc rfl rfl (zai rfl dc rfl (zaj (zah (zaQ ?_)))))))
  cases h
  exact zaW (rs := [.tmp 4]) () (.inl rfl) Tryd.results58 (.cons (.tmp rfl) .nil) rfl Splits.nil
 ·
  have h := zaU hb1 h
  refine zal rfl dc (zal rfl dc (zal rfl dc (zal rfl dc (zal rfl dc (zal rfl dc (zaA (b := false) rfl dc rfl rfl (zai rfl dc rfl (zaj (zah (zaQ ?_))))))))))
  cases h
  exact zaW (rs := [.tmp 4]) () (.inl rfl) Tryd.results58 (.cons (.tmp rfl) .nil) rfl Splits.nil
def zdu (s1 : ByteArray) (prefix1 : ByteArray) : Option Bool :=
zaE (zbr s1 prefix1) fun (r1 : Bool) =>
some r1
theorem zf5 {s1 : ByteArray} {prefix1 : ByteArray} {r : Bool} (h : zdu s1 prefix1 = some r) : FnP Tryd.prog 16 [.string s1, .string prefix1] (.bool r) := by
 unfold zdu at h
 refine FnP.intro Tryd.func16 rfl Tryd.ntmps16 (by simp) ?_
 intro w0 K
 refine zak (zae (zai rfl dc rfl (zaj (zah (zak (zae (zaf rfl dc rfl (zaf rfl dc rfl ?_))))))))
 obtain ⟨r1, hq1, h⟩ := zbN h
 refine zbs (v := .bool r1) (vs := [.string s1, .string prefix1]) rfl dc rfl rfl rfl zox (zc1 hq1) (zai rfl dc rfl (zaj (zah (zaQ ?_))))
 cases h
 exact zaW (rs := [.tmp 4]) () (.inl rfl) Tryd.results16 (.cons (.tmp rfl) .nil) rfl Splits.nil
def zbL (s1 : ByteArray) (prefix1 : ByteArray) : Option ByteArray :=
zaE (zbr s1 prefix1) fun (r1 : Bool) =>
zaO (r1) (
grd (0 ≤ ((prefix1.size : Int) : Int) ∧ ((prefix1.size : Int) : Int) ≤ (s1.size : Int) ∧ ((s1.size : Int) : Int) ≤ (s1.size : Int)) <|
some (zbc s1 (prefix1.size : Int) (s1.size : Int))
) (
some s1
)
theorem zd6 {s1 : ByteArray} {prefix1 : ByteArray} {r : ByteArray} (h : zbL s1 prefix1 = some r) : FnP Tryd.prog 76 [.string s1, .string prefix1] (.string r) := by
 unfold zbL at h
 refine FnP.intro Tryd.func76 rfl Tryd.ntmps76 (by simp) ?_
 intro w0 K
 refine zak (zae (zai rfl dc rfl (zaj (zah (zak (zak (zae (zaf rfl dc rfl (zaf rfl dc rfl ?_)))))))))
 obtain ⟨r1, hq1, h⟩ := zbN h
 refine zbs (v := .bool r1) (vs := [.string s1, .string prefix1]) rfl dc rfl rfl rfl zox (zc1 hq1) (zaj (zah ?_))
 refine zaI rfl (fun hb1 => ?_) (fun hb1 => ?_)
 ·
  have h := zaT hb1 h
  refine zak (zae (zaf rfl dc rfl (zaf rfl dc rfl (zbp rfl dc rfl Tryd.underlying9 ?_))))
  obtain ⟨hg1, h⟩ := zbW h
  refine zee rfl dc rfl rfl rfl (zce (i := (prefix1.size : Int)) (j := (s1.size : Int)) Tryd.underlying9 (.inr rfl) (.inl ⟨rfl, rfl⟩) hg1) (zai rfl dc rfl (zaj (zah (zaQ (zas ?_)))))
  cases h
  exact zaW (rs := [.tmp 4]) () (.inl rfl) Tryd.results76 (.cons (.tmp rfl) .nil) rfl Splits.nil
 ·
  have h := zaU hb1 h
  refine zaK (zah (zak (zae (zaf rfl dc rfl (zai rfl dc rfl (zaj (zah (zaQ ?_))))))))
  cases h
  exact zaW (rs := [.tmp 4]) () (.inl rfl) Tryd.results76 (.cons (.tmp rfl) .nil) rfl Splits.nil
def zcB (s1 : ByteArray) (prefix1 : ByteArray) : Option ByteArray :=
zaE (zbL s1 prefix1) fun (r1 : ByteArray) =>
some r1
theorem zfJ {s1 : ByteArray} {prefix1 : ByteArray} {r : ByteArray} (h : zcB s1 prefix1 = some r) : FnP Tryd.prog 50 [.string s1, .string prefix1] (.string r) := by
 unfold zcB at h
 refine FnP.intro Tryd.func50 rfl Tryd.ntmps50 (by simp) ?_
 intro w0 K
 refine zak (zae (zai rfl dc rfl (zaj (zah (zak (zae (zaf rfl dc rfl (zaf rfl dc rfl ?_))))))))
 obtain ⟨r1, hq1, h⟩ := zbN h
 refine zbs (v := .string r1) (vs := [.string s1, .string prefix1]) rfl dc rfl rfl rfl zpg (zd6 hq1) (zai rfl dc rfl (zaj (zah (zaQ ?_))))
 cases h
 exact zaW (rs := [.tmp 4]) () (.inl rfl) Tryd.results50 (.cons (.tmp rfl) .nil) rfl Splits.nil
end Go.Proofs.YtgfkogafkhbgnaaDoor
namespace Go.Proofs.YtgfkogafkhbgnaaDoor
open Go.RowKit Go.Lib
set_option linter.unusedVariables false
set_option linter.unusedSimpArgs false
def zdq (s1 : ByteArray) : Option Bool :=
grd (s1.size ≤ 9223372036854775807) <|
some (decide (zkN s1 = (⟨#[]⟩ : ByteArray)))
theorem zft {s1 : ByteArray} {r : Bool} (h : zdq s1 = some r) : FnP Tryd.prog 48 [.string s1] (.bool r) := by
 unfold zdq at h
 refine FnP.intro Tryd.func48 rfl Tryd.ntmps48 (by simp) ?_
 intro w0 K
 refine zak (zae (zai rfl dc rfl (zaj (zah (zak (zae (zaf rfl dc rfl ?_)))))))
 obtain ⟨hg1, h⟩ := zbW h
 refine zbs (v := .string (zkN s1)) (vs := [.string s1, .string (⟨#[32, 9]⟩ : ByteArray)]) rfl dc rfl rfl rfl zph (zod s1 hg1) (zau rfl dc rfl rfl zf1 (zai rfl dc rfl (zaj (zah (zaQ ?_)))))
 cases h
 exact zaW (rs := [.tmp 2]) () (.inl rfl) Tryd.results48 (.cons (.tmp rfl) .nil) rfl Splits.nil
def zdK (s1 : ByteArray) : Option Bool :=
zaO (decide (s1 = (⟨#[35]⟩ : ByteArray))) (
some true
) (
zaE (zdu s1 (⟨#[35, 32]⟩ : ByteArray)) fun (r1 : Bool) =>
some r1
)
theorem zf9 {s1 : ByteArray} {r : Bool} (h : zdK s1 = some r) : FnP Tryd.prog 49 [.string s1] (.bool r) := by
 unfold zdK at h
 refine FnP.intro Tryd.func49 rfl Tryd.ntmps49 (by simp) ?_
 intro w0 K
 refine zak (zae (zai rfl dc rfl (zaj (zah (zak (zae (zaf rfl dc rfl (zau rfl dc rfl rfl zf1 (zaf rfl dc rfl ?_)))))))))
 refine za3 (s := 5) rfl (fun hb1 => ?_) (fun hb1 => ?_)
 ·
  have h := zaT hb1 h
  refine zal rfl dc (zal rfl dc (zaA (b := true) rfl dc rfl rfl (zai rfl dc rfl (zaj (zah (zaQ ?_))))))
  cases h
  exact zaW (rs := [.tmp 2]) () (.inl rfl) Tryd.results49 (.cons (.tmp rfl) .nil) rfl Splits.nil
 ·
  have h := zaU hb1 h
  refine zaf rfl dc rfl ?_
  obtain ⟨r1, hq1, h⟩ := zbN h
  refine zbs (v := .bool r1) (vs := [.string s1, .string (⟨#[35, 32]⟩ : ByteArray)]) rfl dc rfl rfl rfl zpB (zf5 hq1) (zaA (b := false) rfl dc rfl rfl (zai rfl dc rfl (zaj (zah (zaQ ?_)))))
  cases h
  exact zaW (rs := [.tmp 2]) () (.inl rfl) Tryd.results49 (.cons (.tmp rfl) .nil) rfl Splits.nil
def zcG (s1 : ByteArray) (j1 : Int → Option Int) (ag1 : Int → Nat → Option Int) (n4 : Int) (m3 : Nat) : Option Int :=
zaO (decide (m3 < (pcs s1.data.toList).length)) (
zaE ((pcs s1.data.toList)[m3]?) fun (p1 : Pc) =>
zaO (((p1.r : Int) : Int) != 32) (
j1 n4
) (
grd (I64 (n4 + 1)) <|
ag1 (n4 + 1) (m3 + 1)
)
) (
j1 n4
)
def zdw (s1 : ByteArray) : Option Int :=
zbE (fun (j1 : Int → Option Int) =>
za2 (fun _ _ => none) (zcG s1 j1) zbG 0 0
) (fun (n1 : Int) =>
some n1
)
theorem zik {s1 : ByteArray} {r : Int} (h : zdw s1 = some r) : FnP Tryd.prog 51 [.string s1] (zI r) := by
 unfold zdw at h
 refine FnP.intro Tryd.func51 rfl Tryd.ntmps51 (by simp) ?_
 intro w0 K
 obtain ⟨j1, hj1, h⟩ := zcc h
 refine zbf (β := Int) 2 rfl (fun b => j1 b = some r) (fun b => []) (fun b => [(3, zI b)]) (fun b => []) (fun cut => ?_) ?_
 ·
  refine zak (zae (zai rfl dc rfl (zaj (zah (zak (zae (zai rfl dc rfl (zaj (zah (cut (zak (zae (zaf rfl dc rfl ?_)))))))))))))
  refine zeZ Tryd.underlying9 rfl dc rfl (fun b1 => ?_)
  refine zaj (zah (zaS ?_))
  refine zbx (β := Nat × Int × Nat) (fun b => za2 (fun _ _ => none) (zcG s1 j1) b.1 b.2.1 b.2.2 = some r) (fun b => []) (fun b => [(3, zI b.2.1), (7, zP b1)]) (fun b => [obj b1 (.stringIter s1 (zdf s1 b.2.2))]) (fun b => b.1) (zbG, 0, 0) (by exact h) rfl (zab rfl (zab rfl (zay))) (zam [0] kr rfl) ?_
  rintro ⟨n5, n4, m3⟩ h
  cases n5 with
  | zero => exact zdy h
  | succ n5 =>
   obtain ⟨ag1, hag1⟩ : ∃ ag, ag = za2 (fun _ _ => none) (zcG s1 j1) n5 := ⟨_, rfl⟩
   have h : zcG s1 j1 ag1 n4 m3 = some r := by rw [hag1]; exact h
   unfold zcG at h
   show TC _ _ _ _ _ ([]) _ _ [(3, zI n4), (7, zP b1)] [obj b1 (.stringIter s1 (zdf s1 m3))]
   refine zak (zae ?_)
   refine zfn (b := decide (m3 < (pcs s1.data.toList).length)) (fun hb1 => ?_) (fun hb1 => ?_)
   ·
    have h := zaT hb1 h
    obtain ⟨p1, hq1, h⟩ := zbN h
    refine zfl (k := 0) (m := m3) (p := p1) rfl dc rfl rfl hq1 (zaZ rfl dc rfl rfl (zaj (zah (zak (zbn rfl (zaK (zah (zaS (zak (zae (zaZ rfl dc rfl rfl (zai rfl dc rfl (zaj ?_)))))))))))))
    refine zah (zak (zak (zae (zaf rfl dc rfl (zau rfl dc rfl rfl zbu (zaj (zah ?_)))))))
    refine zaI rfl (fun hb2 => ?_) (fun hb2 => ?_)
    ·
     have h := zaT hb2 h
     refine zbl (zaC (zcL dc (zaC (zaN ?_))))
     exact zaJ n4 h rfl (zab rfl (zay)) Splits.nil
    ·
     have h := zaU hb2 h
     refine zaK (zah (zae (zaf rfl dc rfl ?_)))
     obtain ⟨hg1, h⟩ := zbW h
     refine zau rfl dc rfl rfl (za5 (r := n4 + 1) (IntWalk.i64_in _ hg1)) (zai rfl dc rfl (zaj (zav ?_)))
     subst hag1
     exact za6 (n5, n4 + 1, m3 + 1) h (Nat.lt_succ_self _) rfl (zab rfl (zab rfl (zay))) (zam [0] kr rfl)
   ·
    have h := zaU hb1 h
    refine zfm (k := 0) (m := m3) rfl dc rfl rfl (Nat.le_of_not_lt (of_decide_eq_false hb1)) (zaZ rfl dc rfl rfl (zaj (zah (zak (zbj rfl (zbl (zaC (zaC (zaN ?_)))))))))
    exact zaJ n4 h rfl (zab rfl (zay)) Splits.nil
 ·
  rintro n1 h
  rw [hj1] at h
  show TC _ _ _ _ _ ([]) _ _ [(3, zI n1)] []
  refine zak (zae (zaf rfl dc rfl (zai rfl dc rfl (zaj (zah (zaQ ?_))))))
  cases h
  exact zaW (rs := [.tmp 2]) () (.inl rfl) Tryd.results51 (.cons (.tmp rfl) .nil) rfl Splits.nil
def zcH (text1 : ByteArray) (j1 : ByteArray → (List Gapi_Verse) → (List Gapi_Span) → Option ((Option Gpoem_Poem) × Gapi_Spot)) (p4 : Gplace_Map) (r2 : Int) (ag1 : ByteArray → (List Gapi_Verse) → (List Gapi_Span) → Bool → Bool → Int → Option ((Option Gpoem_Poem) × Gapi_Spot)) (p14 : ByteArray) (p15 : List Gapi_Verse) (p16 : List Gapi_Span) (first3 : Bool) (row3 : Bool) (x3 : Int) : Option ((Option Gpoem_Poem) × Gapi_Spot) :=
zaO (decide ((x3 : Int) < r2)) (
zbE (fun (j2 : ByteArray → (List Gapi_Verse) → (List Gapi_Span) → Bool → Bool → Option ((Option Gpoem_Poem) × Gapi_Spot)) =>
zbE (fun (j3 : Int → Int → ByteArray → Option ((Option Gpoem_Poem) × Gapi_Spot)) =>
zaE (zdA p4 x3) fun (r3 : (Gapi_Span × Int × Int)) =>
grd (0 ≤ (r3.1.From : Int) ∧ (r3.1.From : Int) ≤ r3.1.To ∧ (r3.1.To : Int) ≤ (text1.size : Int)) <|
zaE (zdq (zbc text1 r3.1.From r3.1.To)) fun (r4 : Bool) =>
zaO (r4) (
j2 p14 p15 p16 first3 false
) (
zaO (decide ((1024 : Int) < ((zbc text1 r3.1.From r3.1.To).size : Int))) (
grd (I64 (r3.1.From + 1024)) <|
some (none, (⟨3, r3.1.From + 1024⟩ : Gapi_Spot))
) (
zaO (first3) (
zaE (zdK (zbc text1 r3.1.From r3.1.To)) fun (r5 : Bool) =>
zaO (r5) (
grd (0 ≤ (1 : Int) ∧ (1 : Int) ≤ ((zbc text1 r3.1.From r3.1.To).size : Int) ∧ (((zbc text1 r3.1.From r3.1.To).size : Int) : Int) ≤ ((zbc text1 r3.1.From r3.1.To).size : Int)) <|
zaE (zcB (zbc (zbc text1 r3.1.From r3.1.To) 1 ((zbc text1 r3.1.From r3.1.To).size : Int)) (⟨#[32]⟩ : ByteArray)) fun (r6 : ByteArray) =>
j2 r6 p15 p16 false row3
) (
zaO (((p15.length : Int) : Int) == 512) (
some (none, (⟨3, r3.1.From⟩ : Gapi_Spot))
) (
j3 r3.1.From r3.1.To (zbc text1 r3.1.From r3.1.To)
)
)
) (
zaO (((p15.length : Int) : Int) == 512) (
some (none, (⟨3, r3.1.From⟩ : Gapi_Spot))
) (
j3 r3.1.From r3.1.To (zbc text1 r3.1.From r3.1.To)
)
)
)
)
) (fun (span1 : Int) (span2 : Int) (line1 : ByteArray) =>
zbE (fun (j4 : (List Gapi_Span) → Option ((Option Gpoem_Poem) × Gapi_Spot)) =>
zaO (!row3) (
grd (p16.length + 1 ≤ 2147483648) <|
j4 (p16 ++ [(⟨(p15.length : Int), (p15.length : Int)⟩ : Gapi_Span)])
) (
j4 p16
)
) (fun (p20 : List Gapi_Span) =>
grd (I64 ((p20.length : Int) - 1)) <|
zaE (zdk p20 ((p20.length : Int) - 1)) fun (q1 : Gapi_Span) =>
zaE (zdw line1) fun (r7 : Int) =>
grd (0 ≤ (r7 : Int) ∧ (r7 : Int) ≤ (line1.size : Int) ∧ ((line1.size : Int) : Int) ≤ (line1.size : Int)) <|
grd (I64 ((p20.length : Int) - 1)) <|
grd (I64 ((p15.length : Int) - q1.From)) <|
grd (I64 (span1 + r7)) <|
grd (p15.length + 1 ≤ 2147483648) <|
grd (I64 ((p15.length : Int) + 1)) <|
j2 p14 (p15 ++ [(⟨zbc line1 r7 (line1.size : Int), r7, (p20.length : Int) - 1, (p15.length : Int) - q1.From, span1 + r7, span2⟩ : Gapi_Verse)]) (p20.set ((p20.length : Int) - 1 : Int).toNat (⟨q1.From, (p15.length : Int) + 1⟩ : Gapi_Span)) false true
)
)
) (fun (p17 : ByteArray) (p18 : List Gapi_Verse) (p19 : List Gapi_Span) (first4 : Bool) (row4 : Bool) =>
grd (I64 (x3 + 1)) <|
ag1 p17 p18 p19 first4 row4 (x3 + 1)
)
) (
j1 p14 p15 p16
)
def zc8 (text1 : ByteArray) : Option ((Option Gpoem_Poem) × Gapi_Spot) :=
zaE (zdV text1) fun (r1 : ((Option Gplace_Map) × Int)) =>
zaO ((r1.2 : Int) != 0) (
some (none, (⟨r1.2, 65536⟩ : Gapi_Spot))
) (
zbE (fun (j1 : ByteArray → (List Gapi_Verse) → (List Gapi_Span) → Option ((Option Gpoem_Poem) × Gapi_Spot)) =>
zaE (r1.1) fun (p4 : Gplace_Map) =>
zaE (zek p4) fun (r2 : Int) =>
za2 (fun _ _ _ _ _ _ => none) (zcH text1 j1 p4 r2) zbG ByteArray.empty ([] : List Gapi_Verse) ([] : List Gapi_Span) true false 0
) (fun (p1 : ByteArray) (p2 : List Gapi_Verse) (p3 : List Gapi_Span) =>
some ((some (⟨p1, p2, p3, text1⟩ : Gpoem_Poem)), (⟨0, 0⟩ : Gapi_Spot))
)
)
theorem zg5 {text1 : ByteArray} {r : ((Option Gpoem_Poem) × Gapi_Spot)} (h : zc8 text1 = some r) : Fn Tryd.prog 13 [.string text1] [] (fun v0 : Value => .tuple #[v0, .agg #[zI r.2.Err, zI r.2.At]]) (fun v0 => [zd5 zaB zaz 93 v0 r.1]) := by
 unfold zc8 at h
 refine Fn.intro Tryd.func13 rfl Tryd.ntmps13 (by simp) ?_
 intro w0 K
 refine zak (zae (zai rfl dc rfl ?_))
 refine zbv zk5 rfl dc (fun b1 => ?_)
 refine zaj (zah ?_)
 refine zf3 (β := Unit) (l := 0) (fun _ => False) (fun _ => []) (fun _ => []) rfl ?_ ?_
 ·
  refine zak (zae (zaf rfl dc rfl ?_))
  obtain ⟨r1, hq1, h⟩ := zbN h
  refine zeq (vs := [.string text1]) rfl dc rfl rfl rfl zpt (zjA hq1) Splits.nil ?_
  rintro v1
  show TO _ _ _ _ _ _ _ _ _ _ [cells b1 [zI 0, zI 0] 26, zd5 zci zcf 128 v1 r1.1]
  refine zb3 (L' := [cells b1 [zI 0, zI 0] 26, zd5 zci zcf 128 v1 r1.1]) (zam [0, 1] kr rfl) (zaf rfl dc rfl (zaZ rfl dc rfl rfl (zaZ rfl dc rfl rfl (zai rfl dc rfl (zai rfl dc rfl (zaj (zah (zak (zak (zae (zaf rfl dc rfl (zau rfl dc rfl rfl zbu (zaj ?_)))))))))))))
  refine zah ?_
  refine zaI rfl (fun hb1 => ?_) (fun hb1 => ?_)
  ·
   have h := zaT hb1 h
   refine zak (zae (zaf rfl dc rfl ?_))
   refine zbi (v := .agg #[zI r1.2, zI 65536]) (ps := [(0, .tmp 24), (1, .const (zI 65536))]) rfl dc rfl (fun _ => by kernel_rfl) ?_
   refine zai rfl dc rfl (za4 (k := 0) (vs := [zI r1.2, zI 65536]) (l' := [zI r1.2, zI 65536]) zgM rfl rfl rfl rfl rfl (show _ ≤ _ by simp) rfl rfl (zaj (zah (zaQ (zas (zcy (by simp) (zcQ zaB zaz 93 ?_)))))))
   show TX _ _ _ _ _ _ _ [cells b1 [zI r1.2, zI 65536] 26, zd5 zci zcf 128 v1 r1.1, zd5 zaB zaz 93 (.pointer none) none]
   cases h
   exact zaW (rs := [.tmp 2, .cell 3 26]) (.pointer none) (.inl rfl) Tryd.results13 (.cons (.tmp rfl) (.cons (.cells zie (k := 0) rfl rfl rfl) .nil)) rfl (zam [2] kr rfl)
  ·
   have h := zaU hb1 h
   refine zaK (zah ?_)
   obtain ⟨j1, hj1, h⟩ := zcc h
   refine zbf (β := ByteArray × (List Gapi_Verse) × (List Gapi_Span) × Nat × Hd × Hd) 3 rfl (fun b => j1 b.1 b.2.1 b.2.2.1 = some r) (fun b => []) (fun b => [(3, zP b1), (6, zP b.2.2.2.1)]) (fun b => [cells b1 [zI 0, zI 0] 26, cells b.2.2.2.1 [.string b.1, b.2.2.2.2.1.v, b.2.2.2.2.2.v, .string text1] 93, vec zar 36 6 b.2.2.2.2.1.v b.2.1, vec zaq 34 2 b.2.2.2.2.2.v b.2.2.1]) (fun cut => ?_) ?_
   ·
    refine zak (zae (zaf rfl dc rfl ?_))
    refine zbi (v := .agg #[.string ByteArray.empty, .slice none 0 0, .slice none 0 0, .string text1]) (ps := [(1, .tmp 26)]) rfl dc rfl (fun _ => by kernel_rfl) ?_
    refine zfo rfl dc rfl (fun b3 => ?_)
    refine zai rfl dc rfl (zaj (zah (zak (zae (zai rfl dc rfl (zai rfl dc rfl (zaj (zah (zak (zk2 (zah (cut (zak ?_)))))))))))))
    refine zae (zaf rfl dc rfl ?_)
    obtain ⟨p4, hq2, h⟩ := zbN h
    refine zkC (As := [zd5 zci zcf 128 v1 r1.1]) (zam [1] kr rfl) (zfY hq2) ?_
    rintro ⟨b4, hd3, hd4⟩ hv1
    subst hv1
    show TO _ _ _ _ _ _ _ _ _ _ [cells b1 [zI 0, zI 0] 26, emp, cells b3 [.string ByteArray.empty, .slice none 0 0, .slice none 0 0, .string text1] 93, cells b4 [.string p4.text, hd3.v, hd4.v] 128, vec zaD 130 5 hd3.v p4.places, vec zax 132 4 hd4.v p4.lines]
    obtain ⟨r2, hq3, h⟩ := zbN h
    refine zbe (v := zI r2) (vs := [zP b4]) (Rd.nil : Rd _ _ []) rfl dc rfl rfl rfl zps (zgs (bm1 := b4) (m1 := p4) (m1_h0 := hd3) (m1_h1 := hd4) hq3) (.own (zam [3] (by kernel_rfl) rfl) (fun _ _ h => sepL.one1.1 h) (.own (zam [4] (by kernel_rfl) rfl) (fun _ _ h => sepL.one1.1 h) (.own (zam [5] (by kernel_rfl) rfl) (fun _ _ h => sepL.one1.1 h) .nil))) ?_
    refine zaf rfl dc rfl (zaj (zah (zaS (ze0 (enc := zar) (e := 36) (size := 6) ?_))))
    show TC _ _ _ _ _ _ _ _ _ [cells b1 [zI 0, zI 0] 26, emp, cells b3 [.string ByteArray.empty, .slice none 0 0, .slice none 0 0, .string text1] 93, cells b4 [.string p4.text, hd3.v, hd4.v] 128, vec zaD 130 5 hd3.v p4.places, vec zax 132 4 hd4.v p4.lines, vec zar 36 6 (.slice none 0 0) ([] : List Gapi_Verse)]
    refine ze0 (enc := zaq) (e := 34) (size := 2) ?_
    show TC _ _ _ _ _ _ _ _ _ [cells b1 [zI 0, zI 0] 26, emp, cells b3 [.string ByteArray.empty, (.slice none 0 0), .slice none 0 0, .string text1] 93, cells b4 [.string p4.text, hd3.v, hd4.v] 128, vec zaD 130 5 hd3.v p4.places, vec zax 132 4 hd4.v p4.lines, vec zar 36 6 (.slice none 0 0) ([] : List Gapi_Verse), vec zaq 34 2 (.slice none 0 0) ([] : List Gapi_Span)]
    refine zbx (β := Nat × ByteArray × (List Gapi_Verse) × (List Gapi_Span) × Bool × Bool × Int × Hd × Hd) (fun b => za2 (fun _ _ _ _ _ _ => none) (zcH text1 j1 p4 r2) b.1 b.2.1 b.2.2.1 b.2.2.2.1 b.2.2.2.2.1 b.2.2.2.2.2.1 b.2.2.2.2.2.2.1 = some r) (fun b => []) (fun b => [(0, .string text1), (3, zP b1), (4, zP b4), (6, zP b3), (7, .bool b.2.2.2.2.1), (8, .bool b.2.2.2.2.2.1), (30, zI r2), (31, zI b.2.2.2.2.2.2.1)]) (fun b => [cells b1 [zI 0, zI 0] 26, cells b4 [.string p4.text, hd3.v, hd4.v] 128, vec zaD 130 5 hd3.v p4.places, vec zax 132 4 hd4.v p4.lines, cells b3 [.string b.2.1, b.2.2.2.2.2.2.2.1.v, b.2.2.2.2.2.2.2.2.v, .string text1] 93, vec zar 36 6 b.2.2.2.2.2.2.2.1.v b.2.2.1, vec zaq 34 2 b.2.2.2.2.2.2.2.2.v b.2.2.2.1]) (fun b => b.1) (zbG, ByteArray.empty, ([] : List Gapi_Verse), ([] : List Gapi_Span), true, false, 0, Hd.nil, Hd.nil) h rfl (zab rfl (zab rfl (zab rfl (zab rfl (zab rfl (zab rfl (zab rfl (zab rfl (zay))))))))) (zam [0, 3, 4, 5, 2, 6, 7] kr rfl) ?_
    rintro ⟨n1, p14, p15, p16, first3, row3, x3, hd10, hd11⟩ h
    cases n1 with
    | zero => exact zdy h
    | succ n1 =>
     obtain ⟨ag1, hag1⟩ : ∃ ag, ag = za2 (fun _ _ _ _ _ _ => none) (zcH text1 j1 p4 r2) n1 := ⟨_, rfl⟩
     have h : zcH text1 j1 p4 r2 ag1 p14 p15 p16 first3 row3 x3 = some r := by rw [hag1]; exact h
     unfold zcH at h
     show TC _ _ _ _ _ ([]) _ _ [(0, .string text1), (3, zP b1), (4, zP b4), (6, zP b3), (7, .bool first3), (8, .bool row3), (30, zI r2), (31, zI x3)] [cells b1 [zI 0, zI 0] 26, cells b4 [.string p4.text, hd3.v, hd4.v] 128, vec zaD 130 5 hd3.v p4.places, vec zax 132 4 hd4.v p4.lines, cells b3 [.string p14, hd10.v, hd11.v, .string text1] 93, vec zar 36 6 hd10.v p15, vec zaq 34 2 hd11.v p16]
     refine zak (zae (zau rfl dc rfl rfl zbA (zaj (zah (zak ?_)))))
     refine zaI rfl (fun hb2 => ?_) (fun hb2 => ?_)
     ·
      have h := zaT hb2 h
      refine zaK (zah ?_)
      obtain ⟨j2, hj2, h⟩ := zcc h
      refine zbf (β := ByteArray × (List Gapi_Verse) × (List Gapi_Span) × Bool × Bool × Hd × Hd) 0 rfl (fun b => j2 b.1 b.2.1 b.2.2.1 b.2.2.2.1 b.2.2.2.2.1 = some r) (fun b => []) (fun b => [(0, .string text1), (3, zP b1), (4, zP b4), (6, zP b3), (7, .bool b.2.2.2.1), (8, .bool b.2.2.2.2.1), (30, zI r2), (31, zI x3)]) (fun b => [cells b1 [zI 0, zI 0] 26, cells b4 [.string p4.text, hd3.v, hd4.v] 128, vec zaD 130 5 hd3.v p4.places, vec zax 132 4 hd4.v p4.lines, cells b3 [.string b.1, b.2.2.2.2.2.1.v, b.2.2.2.2.2.2.v, .string text1] 93, vec zar 36 6 b.2.2.2.2.2.1.v b.2.1, vec zaq 34 2 b.2.2.2.2.2.2.v b.2.2.1]) (fun cut => ?_) ?_
      ·
       refine cut (zaS ?_)
       obtain ⟨j3, hj3, h⟩ := zcc h
       refine zbf (β := Int × Int × ByteArray × Nat) 3 rfl (fun b => j3 b.1 b.2.1 b.2.2.1 = some r) (fun b => []) (fun b => [(0, .string text1), (3, zP b1), (4, zP b4), (6, zP b3), (8, .bool row3), (10, zP b.2.2.2), (13, .string b.2.2.1), (30, zI r2), (31, zI x3)]) (fun b => [cells b1 [zI 0, zI 0] 26, cells b4 [.string p4.text, hd3.v, hd4.v] 128, vec zaD 130 5 hd3.v p4.places, vec zax 132 4 hd4.v p4.lines, cells b3 [.string p14, hd10.v, hd11.v, .string text1] 93, vec zar 36 6 hd10.v p15, vec zaq 34 2 hd11.v p16, cells b.2.2.2 [zI b.1, zI b.2.1] 34]) (fun cut => ?_) ?_
       ·
        refine zak (zae (zaf rfl dc rfl (zai rfl dc rfl (zaj (zah (zak (zae (zaf rfl dc rfl (zaf rfl dc rfl ?_)))))))))
        obtain ⟨r3, hq4, h⟩ := zbN h
        refine zbe (v := .tuple #[.agg #[zI r3.1.From, zI r3.1.To], zI r3.2.1, zI r3.2.2]) (vs := [zP b4, zI x3]) (Rd.nil : Rd _ _ []) rfl dc rfl rfl rfl zpr (zgS (bm1 := b4) (m1 := p4) (m1_h0 := hd3) (m1_h1 := hd4) hq4) (.own (zam [1] (by kernel_rfl) rfl) (fun _ _ h => sepL.one1.1 h) (.own (zam [2] (by kernel_rfl) rfl) (fun _ _ h => sepL.one1.1 h) (.own (zam [3] (by kernel_rfl) rfl) (fun _ _ h => sepL.one1.1 h) .nil))) ?_
        refine zaf rfl dc rfl (zaZ rfl dc rfl rfl (zaZ rfl dc rfl rfl (zaZ rfl dc rfl rfl ?_)))
        refine zbv zkb rfl dc (fun b6 => ?_)
        refine za4 (k := 7) (vs := [zI r3.1.From, zI r3.1.To]) (l' := [zI r3.1.From, zI r3.1.To]) zf4 rfl rfl rfl rfl rfl (show _ ≤ _ by simp) rfl rfl ?_
        show TO _ _ _ _ _ _ _ _ _ _ [cells b1 [zI 0, zI 0] 26, cells b4 [.string p4.text, hd3.v, hd4.v] 128, vec zaD 130 5 hd3.v p4.places, vec zax 132 4 hd4.v p4.lines, cells b3 [.string p14, hd10.v, hd11.v, .string text1] 93, vec zar 36 6 hd10.v p15, vec zaq 34 2 hd11.v p16, cells b6 [zI r3.1.From, zI r3.1.To] 34]
        refine zai rfl dc rfl (zai rfl dc rfl (zaj (zah (zak (zae (zaf rfl dc rfl (zan zeC rfl dc rfl (show _ = 0 from rfl) (zaM (k := 7) zeL rfl dc rfl rfl rfl (zan zfb rfl dc rfl (show _ = 1 from rfl) (zaM (k := 7) zeL rfl dc rfl rfl rfl ?_))))))))))
        obtain ⟨hg1, h⟩ := zbW h
        refine zee rfl dc rfl rfl rfl (zce (i := r3.1.From) (j := r3.1.To) Tryd.underlying9 (.inr rfl) (.inr rfl) hg1) (zai rfl dc rfl (zaj (zah (cut (zaS (zak (zae (zaf rfl dc rfl ?_))))))))
        obtain ⟨r4, hq5, h⟩ := zbN h
        refine zbs (v := .bool r4) (vs := [.string (zbc text1 r3.1.From r3.1.To)]) rfl dc rfl rfl rfl znP (zft hq5) (zai rfl dc rfl (zaj (zah ?_)))
        refine zaI rfl (fun hb3 => ?_) (fun hb3 => ?_)
        ·
         have h := zaT hb3 h
         refine zak (zae (zai rfl dc rfl (zaj (zah (zbl (zcL dc (zaC (zaN ?_))))))))
         exact zaJ (p14, p15, p16, first3, false, hd10, hd11) h rfl (zab rfl (zab rfl (zab rfl (zab rfl (zab rfl (zab rfl (zab rfl (zab rfl (zay))))))))) (zam [0, 1, 2, 3, 4, 5, 6] kr rfl)
        ·
         have h := zaU hb3 h
         refine zak (zae (zaf rfl dc rfl (zbp rfl dc rfl Tryd.underlying9 (zau rfl dc rfl rfl zdR (zai rfl dc rfl (zaj (zah ?_)))))))
         refine zaI rfl (fun hb4 => ?_) (fun hb4 => ?_)
         ·
          have h := zaT hb4 h
          refine zak ?_
          obtain ⟨hg2, h⟩ := zbW h
          refine zb0 5 [(0, 54, zP b6), (1, 55, zI r3.1.From), (2, 56, zI (r3.1.From + 1024)), (3, 57, .agg #[zI 3, zI (r3.1.From + 1024)]), (4, 2, .pointer none)] mixed kr kr dc (by rfl) kr kr (zad ?_ (zad ?_ (zad ?_ (zad ?_ (zad ?_ DrawPre.nil))))) ?_
          ·
           intro D hn hd hcl hu hi
           refine zan zeC rfl dc (zaL (by rfl) rfl) (show _ = 0 from rfl) ?_
           exact zag 0 hu hi rfl
          ·
           intro D hn hd hcl hu hi
           refine zaM (k := 7) zeL rfl dc (zac (m := 0) hu rfl (hd 0 dc)) rfl rfl ?_
           exact zag 1 hu hi rfl
          ·
           intro D hn hd hcl hu hi
           refine zau rfl dc (zac (m := 1) hu rfl (hd 1 dc)) rfl (za5 (r := r3.1.From + 1024) (IntWalk.i64_in _ hg2)) ?_
           exact zag 2 hu hi rfl
          ·
           intro D hn hd hcl hu hi
           refine zbi (v := .agg #[zI 3, zI (r3.1.From + 1024)]) (ps := [(0, .const (zI 3)), (1, .tmp 56)]) rfl dc (evP.cons rfl (evP.cons (zac (m := 2) hu rfl (hd 2 dc)) evP.nil)) (fun _ => by kernel_rfl) ?_
           exact zag 3 hu hi rfl
          ·
           intro D hn hd hcl hu hi
           refine zai rfl dc rfl ?_
           exact zag 4 hu hi rfl
          refine za4 (k := 0) (vs := [zI 3, zI (r3.1.From + 1024)]) (l' := [zI 3, zI (r3.1.From + 1024)]) zgM rfl rfl rfl rfl rfl (show _ ≤ _ by simp) rfl rfl (zaj (zah (zaQ (zaw (zas (zaw (zas (zas (zaw (zas (zcy (by simp) (zcQ zaB zaz 93 ?_))))))))))))
          show TX _ _ _ _ _ _ _ [cells b1 [zI 3, zI (r3.1.From + 1024)] 26, cells b4 [.string p4.text, hd3.v, hd4.v] 128, vec zaD 130 5 hd3.v p4.places, vec zax 132 4 hd4.v p4.lines, cells b3 [.string p14, hd10.v, hd11.v, .string text1] 93, vec zar 36 6 hd10.v p15, vec zaq 34 2 hd11.v p16, cells b6 [zI r3.1.From, zI r3.1.To] 34, zd5 zaB zaz 93 (.pointer none) none]
          cases h
          exact zaW (rs := [.tmp 2, .cell 3 26]) (.pointer none) (.inl rfl) Tryd.results13 (.cons (.tmp rfl) (.cons (.cells zie (k := 0) rfl rfl rfl) .nil)) rfl (zam [8] kr rfl)
         ·
          have h := zaU hb4 h
          refine zak (zae (zaf rfl dc rfl (zaf rfl dc rfl ?_)))
          refine za3 (s := 60) rfl (fun hb5 => ?_) (fun hb5 => ?_)
          ·
           have h := zaT hb5 h
           refine zaf rfl dc rfl ?_
           obtain ⟨r5, hq6, h⟩ := zbN h
           refine zbs (v := .bool r5) (vs := [.string (zbc text1 r3.1.From r3.1.To)]) rfl dc rfl rfl rfl zoz (zf9 hq6) (zaA (b := true) rfl dc rfl rfl (zai rfl dc rfl (zaj (zah ?_))))
           refine zaI rfl (fun hb6 => ?_) (fun hb6 => ?_)
           ·
            have h := zaT hb6 h
            refine zak (zae (zai rfl dc rfl (zaj (zah (zak (zae (zaf rfl dc rfl (zaf rfl dc rfl ?_))))))))
            obtain ⟨hg3, h⟩ := zbW h
            refine zee rfl dc rfl rfl rfl (zce (i := 1) (j := ((zbc text1 r3.1.From r3.1.To).size : Int)) Tryd.underlying9 (.inr rfl) (.inl ⟨rfl, rfl⟩) hg3) ?_
            obtain ⟨r6, hq7, h⟩ := zbN h
            refine zbs (v := .string r6) (vs := [.string (zbc (zbc text1 r3.1.From r3.1.To) 1 ((zbc text1 r3.1.From r3.1.To).size : Int)), .string (⟨#[32]⟩ : ByteArray)]) rfl dc rfl rfl rfl zpq (zfJ hq7) (zaR rfl dc rfl (zan zbR rfl dc rfl (show _ = 0 from rfl) (zan zfw rfl dc rfl (show _ = 0 from rfl) ?_)))
            refine zbh (k := 4) (l' := [.string r6, hd10.v, hd11.v, .string text1]) zk9 rfl rfl rfl rfl rfl (fun _ _ => rfl) rfl ?_
            refine zaj (zah (zbl (zcL dc (zaC (zaN ?_)))))
            exact zaJ (r6, p15, p16, false, row3, hd10, hd11) h rfl (zab rfl (zab rfl (zab rfl (zab rfl (zab rfl (zab rfl (zab rfl (zab rfl (zay))))))))) (zam [0, 1, 2, 3, 4, 5, 6] kr rfl)
           ·
            have h := zaU hb6 h
            refine zak (zae (zaf rfl dc rfl (zaR rfl dc rfl (zan zbR rfl dc rfl (show _ = 0 from rfl) (zan zdC rfl dc rfl (show _ = 1 from rfl) (zaM (k := 4) zex rfl dc rfl rfl rfl (zc3 (k := 5) rfl dc rfl rfl Tryd.underlying57 (zau rfl dc rfl rfl zbF (zai rfl dc rfl (zaj (zah ?_)))))))))))
            refine zaI rfl (fun hb7 => ?_) (fun hb7 => ?_)
            ·
             have h := zaT hb7 h
             refine zak ?_
             refine zb0 4 [(0, 79, zP b6), (1, 80, zI r3.1.From), (2, 81, .agg #[zI 3, zI r3.1.From]), (3, 2, .pointer none)] mixed kr kr dc (by rfl) kr kr (zad ?_ (zad ?_ (zad ?_ (zad ?_ DrawPre.nil)))) ?_
             ·
              intro D hn hd hcl hu hi
              refine zan zeC rfl dc (zaL (by rfl) rfl) (show _ = 0 from rfl) ?_
              exact zag 0 hu hi rfl
             ·
              intro D hn hd hcl hu hi
              refine zaM (k := 7) zeL rfl dc (zac (m := 0) hu rfl (hd 0 dc)) rfl rfl ?_
              exact zag 1 hu hi rfl
             ·
              intro D hn hd hcl hu hi
              refine zbi (v := .agg #[zI 3, zI r3.1.From]) (ps := [(0, .const (zI 3)), (1, .tmp 80)]) rfl dc (evP.cons rfl (evP.cons (zac (m := 1) hu rfl (hd 1 dc)) evP.nil)) (fun _ => by kernel_rfl) ?_
              exact zag 2 hu hi rfl
             ·
              intro D hn hd hcl hu hi
              refine zai rfl dc rfl ?_
              exact zag 3 hu hi rfl
             refine za4 (k := 0) (vs := [zI 3, zI r3.1.From]) (l' := [zI 3, zI r3.1.From]) zgM rfl rfl rfl rfl rfl (show _ ≤ _ by simp) rfl rfl (zaj (zah (zaQ (zaw (zas (zaw (zas (zas (zaw (zas (zcy (by simp) (zcQ zaB zaz 93 ?_))))))))))))
             show TX _ _ _ _ _ _ _ [cells b1 [zI 3, zI r3.1.From] 26, cells b4 [.string p4.text, hd3.v, hd4.v] 128, vec zaD 130 5 hd3.v p4.places, vec zax 132 4 hd4.v p4.lines, cells b3 [.string p14, hd10.v, hd11.v, .string text1] 93, vec zar 36 6 hd10.v p15, vec zaq 34 2 hd11.v p16, cells b6 [zI r3.1.From, zI r3.1.To] 34, zd5 zaB zaz 93 (.pointer none) none]
             cases h
             exact zaW (rs := [.tmp 2, .cell 3 26]) (.pointer none) (.inl rfl) Tryd.results13 (.cons (.tmp rfl) (.cons (.cells zie (k := 0) rfl rfl rfl) .nil)) rfl (zam [8] kr rfl)
            ·
             have h := zaU hb7 h
             refine zaK (zav ?_)
             exact zaJ (r3.1.From, r3.1.To, zbc text1 r3.1.From r3.1.To, b6) h rfl (zab rfl (zab rfl (zab rfl (zab rfl (zab rfl (zab rfl (zab rfl (zab rfl (zab rfl (zay)))))))))) (zam [0, 1, 2, 3, 4, 5, 6, 7] kr rfl)
          ·
           have h := zaU hb5 h
           refine zal rfl dc (zal rfl dc (zaA (b := false) rfl dc rfl rfl (zai rfl dc rfl (zaj (zah (zbj rfl (zak (zae (zaf rfl dc rfl (zaR rfl dc rfl (zan zbR rfl dc rfl (show _ = 0 from rfl) (zan zdC rfl dc rfl (show _ = 1 from rfl) (zaM (k := 4) zex rfl dc rfl rfl rfl ?_)))))))))))))
           refine zc3 (k := 5) rfl dc rfl rfl Tryd.underlying57 (zau rfl dc rfl rfl zbF (zai rfl dc rfl (zaj (zah ?_))))
           refine zaI rfl (fun hb8 => ?_) (fun hb8 => ?_)
           ·
            have h := zaT hb8 h
            refine zak ?_
            refine zb0 4 [(0, 79, zP b6), (1, 80, zI r3.1.From), (2, 81, .agg #[zI 3, zI r3.1.From]), (3, 2, .pointer none)] mixed kr kr dc (by rfl) kr kr (zad ?_ (zad ?_ (zad ?_ (zad ?_ DrawPre.nil)))) ?_
            ·
             intro D hn hd hcl hu hi
             refine zan zeC rfl dc (zaL (by rfl) rfl) (show _ = 0 from rfl) ?_
             exact zag 0 hu hi rfl
            ·
             intro D hn hd hcl hu hi
             refine zaM (k := 7) zeL rfl dc (zac (m := 0) hu rfl (hd 0 dc)) rfl rfl ?_
             exact zag 1 hu hi rfl
            ·
             intro D hn hd hcl hu hi
             refine zbi (v := .agg #[zI 3, zI r3.1.From]) (ps := [(0, .const (zI 3)), (1, .tmp 80)]) rfl dc (evP.cons rfl (evP.cons (zac (m := 1) hu rfl (hd 1 dc)) evP.nil)) (fun _ => by kernel_rfl) ?_
             exact zag 2 hu hi rfl
            ·
             intro D hn hd hcl hu hi
             refine zai rfl dc rfl ?_
             exact zag 3 hu hi rfl
            refine za4 (k := 0) (vs := [zI 3, zI r3.1.From]) (l' := [zI 3, zI r3.1.From]) zgM rfl rfl rfl rfl rfl (show _ ≤ _ by simp) rfl rfl (zaj (zah (zaQ (zaw (zas (zaw (zas (zas (zaw (zas (zcy (by simp) (zcQ zaB zaz 93 ?_))))))))))))
            show TX _ _ _ _ _ _ _ [cells b1 [zI 3, zI r3.1.From] 26, cells b4 [.string p4.text, hd3.v, hd4.v] 128, vec zaD 130 5 hd3.v p4.places, vec zax 132 4 hd4.v p4.lines, cells b3 [.string p14, hd10.v, hd11.v, .string text1] 93, vec zar 36 6 hd10.v p15, vec zaq 34 2 hd11.v p16, cells b6 [zI r3.1.From, zI r3.1.To] 34, zd5 zaB zaz 93 (.pointer none) none]
            cases h
            exact zaW (rs := [.tmp 2, .cell 3 26]) (.pointer none) (.inl rfl) Tryd.results13 (.cons (.tmp rfl) (.cons (.cells zie (k := 0) rfl rfl rfl) .nil)) rfl (zam [8] kr rfl)
           ·
            have h := zaU hb8 h
            refine zaK (zav ?_)
            exact zaJ (r3.1.From, r3.1.To, zbc text1 r3.1.From r3.1.To, b6) h rfl (zab rfl (zab rfl (zab rfl (zab rfl (zab rfl (zab rfl (zab rfl (zab rfl (zab rfl (zay)))))))))) (zam [0, 1, 2, 3, 4, 5, 6, 7] kr rfl)
       ·
        rintro ⟨span1, span2, line1, b5⟩ h
        rw [hj3] at h
        show TC _ _ _ _ _ ([]) _ _ [(0, .string text1), (3, zP b1), (4, zP b4), (6, zP b3), (8, .bool row3), (10, zP b5), (13, .string line1), (30, zI r2), (31, zI x3)] [cells b1 [zI 0, zI 0] 26, cells b4 [.string p4.text, hd3.v, hd4.v] 128, vec zaD 130 5 hd3.v p4.places, vec zax 132 4 hd4.v p4.lines, cells b3 [.string p14, hd10.v, hd11.v, .string text1] 93, vec zar 36 6 hd10.v p15, vec zaq 34 2 hd11.v p16, cells b5 [zI span1, zI span2] 34]
        obtain ⟨j4, hj4, h⟩ := zcc h
        refine zbf (β := (List Gapi_Span) × Hd) 2 rfl (fun b => j4 b.1 = some r) (fun b => []) (fun b => [(0, .string text1), (3, zP b1), (4, zP b4), (6, zP b3), (7, .bool false), (10, zP b5), (13, .string line1), (14, zI (p15.length : Int)), (30, zI r2), (31, zI x3)]) (fun b => [cells b1 [zI 0, zI 0] 26, cells b4 [.string p4.text, hd3.v, hd4.v] 128, vec zaD 130 5 hd3.v p4.places, vec zax 132 4 hd4.v p4.lines, cells b3 [.string p14, hd10.v, b.2.v, .string text1] 93, vec zar 36 6 hd10.v p15, vec zaq 34 2 b.2.v b.1, cells b5 [zI span1, zI span2] 34]) (fun cut => ?_) ?_
        ·
         refine zak (zae (zai rfl dc rfl (zaj (zah (zak (zae (zaf rfl dc rfl (zaR rfl dc rfl (zan zbR rfl dc rfl (show _ = 0 from rfl) (zan zdC rfl dc rfl (show _ = 1 from rfl) (zaM (k := 4) zex rfl dc rfl rfl rfl (zc3 (k := 5) rfl dc rfl rfl Tryd.underlying57 (zai rfl dc rfl ?_)))))))))))))
         refine zaj (zah (cut (zak (zae (zaf rfl dc rfl (zf7 rfl dc rfl zeE (zaj (zah ?_))))))))
         refine zaI rfl (fun hb9 => ?_) (fun hb9 => ?_)
         ·
          have h := zaT hb9 h
          refine zae (zaf rfl dc rfl (zaf rfl dc rfl (zaR rfl dc rfl (zan zbR rfl dc rfl (show _ = 0 from rfl) (zan zfR rfl dc rfl (show _ = 2 from rfl) (zaM (k := 4) zkf rfl dc rfl rfl rfl (zaf rfl dc rfl (zaf rfl dc rfl ?_))))))))
          refine zbi (v := .agg #[zI (p15.length : Int), zI (p15.length : Int)]) (ps := [(0, .tmp 96), (1, .tmp 97)]) rfl dc rfl (fun _ => by kernel_rfl) ?_
          refine zbb (cs := [zI (p15.length : Int), zI (p15.length : Int)]) (te := 34) (ps := [(0, .tmp 98)]) rfl dc rfl (fun _ => by kernel_rfl) (fun b7 => ?_)
          obtain ⟨hg4, h⟩ := zbW h
          refine zbw (k := 6) (k2 := 8) (ys := [(⟨(p15.length : Int), (p15.length : Int)⟩ : Gapi_Span)]) Tryd.underlying89 zi3 zbk zbU rfl dc rfl rfl rfl rfl rfl rfl hg4 (fun v2 => ?_)
          refine zco (k := 6) rfl (fun hd15 he1 => ?_)
          subst he1
          show TO _ _ _ _ _ _ _ _ _ _ [cells b1 [zI 0, zI 0] 26, cells b4 [.string p4.text, hd3.v, hd4.v] 128, vec zaD 130 5 hd3.v p4.places, vec zax 132 4 hd4.v p4.lines, cells b3 [.string p14, hd10.v, hd11.v, .string text1] 93, vec zar 36 6 hd10.v p15, vec zaq 34 2 hd15.v (p16 ++ [(⟨(p15.length : Int), (p15.length : Int)⟩ : Gapi_Span)]), cells b5 [zI span1, zI span2] 34, cells b7 [zI (p15.length : Int), zI (p15.length : Int)] 34]
          refine zaR rfl dc rfl (zan zbR rfl dc rfl (show _ = 0 from rfl) (zan zfR rfl dc rfl (show _ = 2 from rfl) ?_))
          refine zbh (k := 4) (l' := [.string p14, hd10.v, hd15.v, .string text1]) zo7 rfl rfl rfl rfl rfl (fun _ _ => rfl) rfl ?_
          refine zaj ?_
          exact zaJ (p16 ++ [(⟨(p15.length : Int), (p15.length : Int)⟩ : Gapi_Span)], hd15) h rfl (zab rfl (zab rfl (zab rfl (zab rfl (zab rfl (zab rfl (zab rfl (zab rfl (zab rfl (zab rfl (zay))))))))))) (zam [0, 1, 2, 3, 4, 5, 6, 7] kr rfl)
         ·
          have h := zaU hb9 h
          refine zaK ?_
          exact zaJ (p16, hd11) h rfl (zab rfl (zab rfl (zab rfl (zab rfl (zab rfl (zab rfl (zab rfl (zab rfl (zab rfl (zab rfl (zay))))))))))) (zam [0, 1, 2, 3, 4, 5, 6, 7] kr rfl)
        ·
         rintro ⟨p20, hd14⟩ h
         rw [hj4] at h
         show TC _ _ _ _ _ ([]) _ _ [(0, .string text1), (3, zP b1), (4, zP b4), (6, zP b3), (7, .bool false), (10, zP b5), (13, .string line1), (14, zI (p15.length : Int)), (30, zI r2), (31, zI x3)] [cells b1 [zI 0, zI 0] 26, cells b4 [.string p4.text, hd3.v, hd4.v] 128, vec zaD 130 5 hd3.v p4.places, vec zax 132 4 hd4.v p4.lines, cells b3 [.string p14, hd10.v, hd14.v, .string text1] 93, vec zar 36 6 hd10.v p15, vec zaq 34 2 hd14.v p20, cells b5 [zI span1, zI span2] 34]
         refine zak (zae (zai rfl dc rfl (zaj (zah (zak ?_)))))
         obtain ⟨hg5, h⟩ := zbW h
         obtain ⟨q1, hq8, h⟩ := zbN h
         refine zb0 12 [(0, 104, zP b3), (1, 105, zP b3), (2, 106, zP b3), (3, 107, .pointer (some ⟨b3, 2, none⟩)), (4, 108, hd14.v), (5, 109, zP b3), (6, 110, zP b3), (7, 111, zP b3), (8, 112, .pointer (some ⟨b3, 2, none⟩)), (9, 113, hd14.v), (10, 114, zI (p20.length : Int)), (11, 115, zI ((p20.length : Int) - 1))] mixed kr kr dc (by rfl) kr kr (zad ?_ (zad ?_ (zad ?_ (zad ?_ (zad ?_ (zad ?_ (zad ?_ (zad ?_ (zad ?_ (zad ?_ (zad ?_ (zad ?_ DrawPre.nil)))))))))))) ?_
         ·
          intro D hn hd hcl hu hi
          refine zaf rfl dc (zaL (by rfl) rfl) ?_
          exact zag 0 hu hi rfl
         ·
          intro D hn hd hcl hu hi
          refine zaR rfl dc (zac (m := 0) hu rfl (hd 0 dc)) ?_
          exact zag 1 hu hi rfl
         ·
          intro D hn hd hcl hu hi
          refine zan zbR rfl dc (zac (m := 1) hu rfl (hd 1 dc)) (show _ = 0 from rfl) ?_
          exact zag 2 hu hi rfl
         ·
          intro D hn hd hcl hu hi
          refine zan zfR rfl dc (zac (m := 2) hu rfl (hd 2 dc)) (show _ = 2 from rfl) ?_
          exact zag 3 hu hi rfl
         ·
          intro D hn hd hcl hu hi
          refine zaM (k := 4) zkf rfl dc (zac (m := 3) hu rfl (hd 3 dc)) rfl rfl ?_
          exact zag 4 hu hi rfl
         ·
          intro D hn hd hcl hu hi
          refine zaf rfl dc (zaL (by rfl) rfl) ?_
          exact zag 5 hu hi rfl
         ·
          intro D hn hd hcl hu hi
          refine zaR rfl dc (zac (m := 5) hu rfl (hd 5 dc)) ?_
          exact zag 6 hu hi rfl
         ·
          intro D hn hd hcl hu hi
          refine zan zbR rfl dc (zac (m := 6) hu rfl (hd 6 dc)) (show _ = 0 from rfl) ?_
          exact zag 7 hu hi rfl
         ·
          intro D hn hd hcl hu hi
          refine zan zfR rfl dc (zac (m := 7) hu rfl (hd 7 dc)) (show _ = 2 from rfl) ?_
          exact zag 8 hu hi rfl
         ·
          intro D hn hd hcl hu hi
          refine zaM (k := 4) zkf rfl dc (zac (m := 8) hu rfl (hd 8 dc)) rfl rfl ?_
          exact zag 9 hu hi rfl
         ·
          intro D hn hd hcl hu hi
          refine zc3 (k := 6) rfl dc (zac (m := 9) hu rfl (hd 9 dc)) rfl Tryd.underlying89 ?_
          exact zag 10 hu hi rfl
         ·
          intro D hn hd hcl hu hi
          refine zau rfl dc (zac (m := 10) hu rfl (hd 10 dc)) rfl (zdI (r := (p20.length : Int) - 1) (IntWalk.i64_in _ hg5)) ?_
          exact zag 11 hu hi rfl
         refine zbK (k := 6) hq8 Tryd.underlying89 zf4 rfl dc rfl rfl rfl rfl (zai rfl dc rfl (zaj (zah (zak (zae (zaf rfl dc rfl ?_))))))
         obtain ⟨r7, hq9, h⟩ := zbN h
         refine zbs (v := zI r7) (vs := [.string line1]) rfl dc rfl rfl rfl zpp (zik hq9) (zai rfl dc rfl (zaj (zah (zak ?_))))
         obtain ⟨hg6, h⟩ := zbW h
         obtain ⟨hg7, h⟩ := zbW h
         obtain ⟨hg8, h⟩ := zbW h
         obtain ⟨hg9, h⟩ := zbW h
         obtain ⟨hg10, h⟩ := zbW h
         refine zh4 1 ?_
         show TC _ _ _ _ _ _ _ _ _ [cells b1 [zI 0, zI 0] 26, cells b4 [.string p4.text, hd3.v, hd4.v] 128, vec zaD 130 5 hd3.v p4.places, vec zax 132 4 hd4.v p4.lines, cells b3 [.string p14, hd10.v, hd14.v, .string text1] 93, vec zar 36 6 hd10.v p15, vec zaq 34 2 hd14.v p20, cells b5 [zI span1, zI span2] 34, emp]
         refine let vals1 : (Nat × Hd) → List (Nat × Nat × Value) := fun b => [(0, 119, zP b3), (1, 120, zP b3), (2, 121, zP b3), (3, 122, zP b3), (4, 123, .pointer (some ⟨b3, 1, none⟩)), (5, 124, hd10.v), (6, 125, .string line1), (7, 126, zI r7), (8, 127, .string (zbc line1 r7 (line1.size : Int))), (9, 128, zI r7), (10, 129, zP b3), (11, 130, zP b3), (12, 131, zP b3), (13, 132, .pointer (some ⟨b3, 2, none⟩)), (14, 133, hd14.v), (15, 134, zI (p20.length : Int)), (16, 135, zI ((p20.length : Int) - 1)), (17, 136, zI (p15.length : Int)), (18, 137, .pointer (some ⟨zeD hd14.v, ((p20.length : Int) - 1 : Int).toNat * 2, none⟩)), (19, 138, .pointer (some ⟨zeD hd14.v, ((p20.length : Int) - 1 : Int).toNat * 2, none⟩)), (20, 139, .pointer (some ⟨zeD hd14.v, (((p20.length : Int) - 1 : Int).toNat) * 2, none⟩)), (21, 140, zI q1.From), (22, 141, zI ((p15.length : Int) - q1.From)), (23, 142, zP b5), (24, 143, zI span1), (25, 144, zI r7), (26, 145, zI (span1 + r7)), (27, 146, .pointer (some ⟨b5, 1, none⟩)), (28, 147, zI span2), (29, 148, .agg #[zI (span1 + r7), zI span2]), (30, 149, .agg #[.string (zbc line1 r7 (line1.size : Int)), zI r7, zI ((p20.length : Int) - 1), zI ((p15.length : Int) - q1.From), zI (span1 + r7), zI span2]), (31, 150, .slice (some ⟨b.1, 0, none⟩) 1 1), (32, 151, b.2.v)]; let LL1 : (Nat → Prop) → (Nat × Hd) → List Asn := fun D b => [cells b1 [zI 0, zI 0] 26, cells b4 [.string p4.text, hd3.v, hd4.v] 128, vec zaD 130 5 hd3.v p4.places, vec zax 132 4 hd4.v p4.lines, cells b3 [.string p14, hd10.v, hd14.v, .string text1] 93, eD D (vec zar 36 6 hd10.v p15) [(32, vec zar 36 6 b.2.v (p15 ++ [(⟨zbc line1 r7 (line1.size : Int), r7, (p20.length : Int) - 1, (p15.length : Int) - q1.From, span1 + r7, span2⟩ : Gapi_Verse)]))], vec zaq 34 2 hd14.v p20, cells b5 [zI span1, zI span2] 34, eD D emp [(31, cells b.1 [.string (zbc line1 r7 (line1.size : Int)), zI r7, zI ((p20.length : Int) - 1), zI ((p15.length : Int) - q1.From), zI (span1 + r7), zI span2] 36)]]; ?_
         refine zfB (β := Nat × Hd) 33 ((0 : Nat), Hd.nil) vals1 LL1 mixed kr kr dc (fun _ => rfl) (zaa rfl (zaa rfl (zaa rfl (zaa rfl (zaa rfl (zaa zdX (zaa rfl (zaa rfl (zaa zdX rfl))))))))) (zaH ?_ (zaH ?_ (zaH ?_ (zaH ?_ (zaH ?_ (zaH ?_ (zaH ?_ (zaH ?_ (zaH ?_ (zaH ?_ (zaH ?_ (zaH ?_ (zaH ?_ (zaH ?_ (zaH ?_ (zaH ?_ (zaH ?_ (zaH ?_ (zaH ?_ (zaH ?_ (zaH ?_ (zaH ?_ (zaH ?_ (zaH ?_ (zaH ?_ (zaH ?_ (zaH ?_ (zaH ?_ (zaH ?_ (zaH ?_ (zaH ?_ (zaH ?_ (zaH ?_ DrawG.nil))))))))))))))))))))))))))))))))) ?_
         ·
          intro D b hn hd hcl
          obtain ⟨b8, hd16⟩ := b
          refine zaV rfl (zaf rfl dc (zaL (by rfl) rfl) ?_)
          exact zaX (b8, hd16) 0 (by rfl) (by rfl) rfl (congrArg (dl D) rfl) (zaa rfl (zaa rfl (zaa rfl (zaa rfl (zaa rfl (zaa ((zaG (by rfl)).trans rfl) (zaa rfl (zaa rfl (zaa ((zaG (by rfl)).trans rfl) rfl)))))))))
         ·
          intro D b hn hd hcl
          obtain ⟨b8, hd16⟩ := b
          refine zaV (zaa rfl (zaa rfl (zaa rfl (zaa rfl (zaa rfl (zaa (zat (fun hD => hn (hcl 2 _ rfl (hcl 3 _ rfl (hcl 4 _ rfl (hcl 5 _ rfl (hcl 32 _ rfl hD 5 dc) 4 dc) 3 dc) 2 dc) 1 dc)) zaF) rfl)))))) ?_
          refine zaf rfl dc (zaL (by rfl) rfl) ?_
          exact zaX (b8, hd16) 1 (by rfl) (by rfl) rfl (congrArg (dl D) rfl) (zaa rfl (zaa rfl (zaa rfl (zaa rfl (zaa rfl (zaa ((zaG (by rfl)).trans (zat (fun hD => hn (hcl 2 _ rfl (hcl 3 _ rfl (hcl 4 _ rfl (hcl 5 _ rfl (hcl 32 _ rfl hD 5 dc) 4 dc) 3 dc) 2 dc) 1 dc)) zaF)) (zaa rfl (zaa rfl (zaa ((zaG (by rfl)).trans rfl) rfl)))))))))
         ·
          intro D b hn hd hcl
          obtain ⟨b8, hd16⟩ := b
          refine zaV (zaa rfl (zaa rfl (zaa rfl (zaa rfl (zaa rfl (zaa (zat (fun hD => hn (hcl 3 _ rfl (hcl 4 _ rfl (hcl 5 _ rfl (hcl 32 _ rfl hD 5 dc) 4 dc) 3 dc) 2 dc)) zaF) rfl)))))) ?_
          refine zaR rfl dc (zac (m := 1) rfl rfl (hd 1 dc)) ?_
          exact zaX (b8, hd16) 2 (by rfl) (by rfl) rfl (congrArg (dl D) rfl) (zaa rfl (zaa rfl (zaa rfl (zaa rfl (zaa rfl (zaa ((zaG (by rfl)).trans (zat (fun hD => hn (hcl 3 _ rfl (hcl 4 _ rfl (hcl 5 _ rfl (hcl 32 _ rfl hD 5 dc) 4 dc) 3 dc) 2 dc)) zaF)) (zaa rfl (zaa rfl (zaa ((zaG (by rfl)).trans rfl) rfl)))))))))
         ·
          intro D b hn hd hcl
          obtain ⟨b8, hd16⟩ := b
          refine zaV (zaa rfl (zaa rfl (zaa rfl (zaa rfl (zaa rfl (zaa (zat (fun hD => hn (hcl 4 _ rfl (hcl 5 _ rfl (hcl 32 _ rfl hD 5 dc) 4 dc) 3 dc)) zaF) rfl)))))) ?_
          refine zan zbR rfl dc (zac (m := 2) rfl rfl (hd 2 dc)) (show _ = 0 from rfl) ?_
          exact zaX (b8, hd16) 3 (by rfl) (by rfl) rfl (congrArg (dl D) rfl) (zaa rfl (zaa rfl (zaa rfl (zaa rfl (zaa rfl (zaa ((zaG (by rfl)).trans (zat (fun hD => hn (hcl 4 _ rfl (hcl 5 _ rfl (hcl 32 _ rfl hD 5 dc) 4 dc) 3 dc)) zaF)) (zaa rfl (zaa rfl (zaa ((zaG (by rfl)).trans rfl) rfl)))))))))
         ·
          intro D b hn hd hcl
          obtain ⟨b8, hd16⟩ := b
          refine zaV (zaa rfl (zaa rfl (zaa rfl (zaa rfl (zaa rfl (zaa (zat (fun hD => hn (hcl 5 _ rfl (hcl 32 _ rfl hD 5 dc) 4 dc)) zaF) rfl)))))) ?_
          refine zan zdC rfl dc (zac (m := 3) rfl rfl (hd 3 dc)) (show _ = 1 from rfl) ?_
          exact zaX (b8, hd16) 4 (by rfl) (by rfl) rfl (congrArg (dl D) rfl) (zaa rfl (zaa rfl (zaa rfl (zaa rfl (zaa rfl (zaa ((zaG (by rfl)).trans (zat (fun hD => hn (hcl 5 _ rfl (hcl 32 _ rfl hD 5 dc) 4 dc)) zaF)) (zaa rfl (zaa rfl (zaa ((zaG (by rfl)).trans rfl) rfl)))))))))
         ·
          intro D b hn hd hcl
          obtain ⟨b8, hd16⟩ := b
          refine zaV (zaa rfl (zaa rfl (zaa rfl (zaa rfl (zaa rfl (zaa (zat (fun hD => hn (hcl 32 _ rfl hD 5 dc)) zaF) rfl)))))) ?_
          refine zaM (k := 4) zex rfl dc (zac (m := 4) rfl rfl (hd 4 dc)) rfl rfl ?_
          exact zaX (b8, hd16) 5 (by rfl) (by rfl) rfl (congrArg (dl D) rfl) (zaa rfl (zaa rfl (zaa rfl (zaa rfl (zaa rfl (zaa ((zaG (by rfl)).trans (zat (fun hD => hn (hcl 32 _ rfl hD 5 dc)) zaF)) (zaa rfl (zaa rfl (zaa ((zaG (by rfl)).trans rfl) rfl)))))))))
         ·
          intro D b hn hd hcl
          obtain ⟨b8, hd16⟩ := b
          refine zaV (zaa rfl (zaa rfl (zaa rfl (zaa rfl (zaa rfl (zaa (zat (fun hD => hn (hcl 8 _ rfl (hcl 30 _ rfl (hcl 31 _ rfl (hcl 32 _ rfl hD 31 dc) 30 dc) 8 dc) 6 dc)) zaF) (zaa rfl (zaa rfl (zaa (zat (fun hD => hn (hcl 8 _ rfl (hcl 30 _ rfl (hcl 31 _ rfl hD 30 dc) 8 dc) 6 dc)) zaF) rfl))))))))) ?_
          refine zaf rfl dc (zaL (by rfl) rfl) ?_
          exact zaX (b8, hd16) 6 (by rfl) (by rfl) rfl (congrArg (dl D) rfl) (zaa rfl (zaa rfl (zaa rfl (zaa rfl (zaa rfl (zaa ((zaG (by rfl)).trans (zat (fun hD => hn (hcl 8 _ rfl (hcl 30 _ rfl (hcl 31 _ rfl (hcl 32 _ rfl hD 31 dc) 30 dc) 8 dc) 6 dc)) zaF)) (zaa rfl (zaa rfl (zaa ((zaG (by rfl)).trans (zat (fun hD => hn (hcl 8 _ rfl (hcl 30 _ rfl (hcl 31 _ rfl hD 30 dc) 8 dc) 6 dc)) zaF)) rfl)))))))))
         ·
          intro D b hn hd hcl
          obtain ⟨b8, hd16⟩ := b
          refine zaV (zaa rfl (zaa rfl (zaa rfl (zaa rfl (zaa rfl (zaa (zat (fun hD => hn (hcl 8 _ rfl (hcl 30 _ rfl (hcl 31 _ rfl (hcl 32 _ rfl hD 31 dc) 30 dc) 8 dc) 7 dc)) zaF) (zaa rfl (zaa rfl (zaa (zat (fun hD => hn (hcl 8 _ rfl (hcl 30 _ rfl (hcl 31 _ rfl hD 30 dc) 8 dc) 7 dc)) zaF) rfl))))))))) ?_
          refine zaf rfl dc (zaL (by rfl) rfl) ?_
          exact zaX (b8, hd16) 7 (by rfl) (by rfl) rfl (congrArg (dl D) rfl) (zaa rfl (zaa rfl (zaa rfl (zaa rfl (zaa rfl (zaa ((zaG (by rfl)).trans (zat (fun hD => hn (hcl 8 _ rfl (hcl 30 _ rfl (hcl 31 _ rfl (hcl 32 _ rfl hD 31 dc) 30 dc) 8 dc) 7 dc)) zaF)) (zaa rfl (zaa rfl (zaa ((zaG (by rfl)).trans (zat (fun hD => hn (hcl 8 _ rfl (hcl 30 _ rfl (hcl 31 _ rfl hD 30 dc) 8 dc) 7 dc)) zaF)) rfl)))))))))
         ·
          intro D b hn hd hcl
          obtain ⟨b8, hd16⟩ := b
          refine zaV (zaa rfl (zaa rfl (zaa rfl (zaa rfl (zaa rfl (zaa (zat (fun hD => hn (hcl 30 _ rfl (hcl 31 _ rfl (hcl 32 _ rfl hD 31 dc) 30 dc) 8 dc)) zaF) (zaa rfl (zaa rfl (zaa (zat (fun hD => hn (hcl 30 _ rfl (hcl 31 _ rfl hD 30 dc) 8 dc)) zaF) rfl))))))))) ?_
          refine zee rfl dc (zac (m := 6) rfl rfl (hd 6 dc)) (evO.some (zac (m := 7) rfl rfl (hd 7 dc))) zgz (zce (i := r7) (j := (line1.size : Int)) Tryd.underlying9 (.inr rfl) (.inl ⟨rfl, rfl⟩) hg6) ?_
          exact zaX (b8, hd16) 8 (by rfl) (by rfl) rfl (congrArg (dl D) rfl) (zaa rfl (zaa rfl (zaa rfl (zaa rfl (zaa rfl (zaa ((zaG (by rfl)).trans (zat (fun hD => hn (hcl 30 _ rfl (hcl 31 _ rfl (hcl 32 _ rfl hD 31 dc) 30 dc) 8 dc)) zaF)) (zaa rfl (zaa rfl (zaa ((zaG (by rfl)).trans (zat (fun hD => hn (hcl 30 _ rfl (hcl 31 _ rfl hD 30 dc) 8 dc)) zaF)) rfl)))))))))
         ·
          intro D b hn hd hcl
          obtain ⟨b8, hd16⟩ := b
          refine zaV (zaa rfl (zaa rfl (zaa rfl (zaa rfl (zaa rfl (zaa (zat (fun hD => hn (hcl 30 _ rfl (hcl 31 _ rfl (hcl 32 _ rfl hD 31 dc) 30 dc) 9 dc)) zaF) (zaa rfl (zaa rfl (zaa (zat (fun hD => hn (hcl 30 _ rfl (hcl 31 _ rfl hD 30 dc) 9 dc)) zaF) rfl))))))))) ?_
          refine zaf rfl dc (zaL (by rfl) rfl) ?_
          exact zaX (b8, hd16) 9 (by rfl) (by rfl) rfl (congrArg (dl D) rfl) (zaa rfl (zaa rfl (zaa rfl (zaa rfl (zaa rfl (zaa ((zaG (by rfl)).trans (zat (fun hD => hn (hcl 30 _ rfl (hcl 31 _ rfl (hcl 32 _ rfl hD 31 dc) 30 dc) 9 dc)) zaF)) (zaa rfl (zaa rfl (zaa ((zaG (by rfl)).trans (zat (fun hD => hn (hcl 30 _ rfl (hcl 31 _ rfl hD 30 dc) 9 dc)) zaF)) rfl)))))))))
         ·
          intro D b hn hd hcl
          obtain ⟨b8, hd16⟩ := b
          refine zaV (zaa rfl (zaa rfl (zaa rfl (zaa rfl (zaa rfl (zaa (zat (fun hD => hn (hcl 11 _ rfl (hcl 12 _ rfl (hcl 13 _ rfl (hcl 14 _ rfl (hcl 15 _ rfl (hcl 16 _ rfl (hcl 30 _ rfl (hcl 31 _ rfl (hcl 32 _ rfl hD 31 dc) 30 dc) 16 dc) 15 dc) 14 dc) 13 dc) 12 dc) 11 dc) 10 dc)) zaF) (zaa rfl (zaa rfl (zaa (zat (fun hD => hn (hcl 11 _ rfl (hcl 12 _ rfl (hcl 13 _ rfl (hcl 14 _ rfl (hcl 15 _ rfl (hcl 16 _ rfl (hcl 30 _ rfl (hcl 31 _ rfl hD 30 dc) 16 dc) 15 dc) 14 dc) 13 dc) 12 dc) 11 dc) 10 dc)) zaF) rfl))))))))) ?_
          refine zaf rfl dc (zaL (by rfl) rfl) ?_
          exact zaX (b8, hd16) 10 (by rfl) (by rfl) rfl (congrArg (dl D) rfl) (zaa rfl (zaa rfl (zaa rfl (zaa rfl (zaa rfl (zaa ((zaG (by rfl)).trans (zat (fun hD => hn (hcl 11 _ rfl (hcl 12 _ rfl (hcl 13 _ rfl (hcl 14 _ rfl (hcl 15 _ rfl (hcl 16 _ rfl (hcl 30 _ rfl (hcl 31 _ rfl (hcl 32 _ rfl hD 31 dc) 30 dc) 16 dc) 15 dc) 14 dc) 13 dc) 12 dc) 11 dc) 10 dc)) zaF)) (zaa rfl (zaa rfl (zaa ((zaG (by rfl)).trans (zat (fun hD => hn (hcl 11 _ rfl (hcl 12 _ rfl (hcl 13 _ rfl (hcl 14 _ rfl (hcl 15 _ rfl (hcl 16 _ rfl (hcl 30 _ rfl (hcl 31 _ rfl hD 30 dc) 16 dc) 15 dc) 14 dc) 13 dc) 12 dc) 11 dc) 10 dc)) zaF)) rfl)))))))))
         ·
          intro D b hn hd hcl
          obtain ⟨b8, hd16⟩ := b
          refine zaV (zaa rfl (zaa rfl (zaa rfl (zaa rfl (zaa rfl (zaa (zat (fun hD => hn (hcl 12 _ rfl (hcl 13 _ rfl (hcl 14 _ rfl (hcl 15 _ rfl (hcl 16 _ rfl (hcl 30 _ rfl (hcl 31 _ rfl (hcl 32 _ rfl hD 31 dc) 30 dc) 16 dc) 15 dc) 14 dc) 13 dc) 12 dc) 11 dc)) zaF) (zaa rfl (zaa rfl (zaa (zat (fun hD => hn (hcl 12 _ rfl (hcl 13 _ rfl (hcl 14 _ rfl (hcl 15 _ rfl (hcl 16 _ rfl (hcl 30 _ rfl (hcl 31 _ rfl hD 30 dc) 16 dc) 15 dc) 14 dc) 13 dc) 12 dc) 11 dc)) zaF) rfl))))))))) ?_
          refine zaR rfl dc (zac (m := 10) rfl rfl (hd 10 dc)) ?_
          exact zaX (b8, hd16) 11 (by rfl) (by rfl) rfl (congrArg (dl D) rfl) (zaa rfl (zaa rfl (zaa rfl (zaa rfl (zaa rfl (zaa ((zaG (by rfl)).trans (zat (fun hD => hn (hcl 12 _ rfl (hcl 13 _ rfl (hcl 14 _ rfl (hcl 15 _ rfl (hcl 16 _ rfl (hcl 30 _ rfl (hcl 31 _ rfl (hcl 32 _ rfl hD 31 dc) 30 dc) 16 dc) 15 dc) 14 dc) 13 dc) 12 dc) 11 dc)) zaF)) (zaa rfl (zaa rfl (zaa ((zaG (by rfl)).trans (zat (fun hD => hn (hcl 12 _ rfl (hcl 13 _ rfl (hcl 14 _ rfl (hcl 15 _ rfl (hcl 16 _ rfl (hcl 30 _ rfl (hcl 31 _ rfl hD 30 dc) 16 dc) 15 dc) 14 dc) 13 dc) 12 dc) 11 dc)) zaF)) rfl)))))))))
         ·
          intro D b hn hd hcl
          obtain ⟨b8, hd16⟩ := b
          refine zaV (zaa rfl (zaa rfl (zaa rfl (zaa rfl (zaa rfl (zaa (zat (fun hD => hn (hcl 13 _ rfl (hcl 14 _ rfl (hcl 15 _ rfl (hcl 16 _ rfl (hcl 30 _ rfl (hcl 31 _ rfl (hcl 32 _ rfl hD 31 dc) 30 dc) 16 dc) 15 dc) 14 dc) 13 dc) 12 dc)) zaF) (zaa rfl (zaa rfl (zaa (zat (fun hD => hn (hcl 13 _ rfl (hcl 14 _ rfl (hcl 15 _ rfl (hcl 16 _ rfl (hcl 30 _ rfl (hcl 31 _ rfl hD 30 dc) 16 dc) 15 dc) 14 dc) 13 dc) 12 dc)) zaF) rfl))))))))) ?_
          refine zan zbR rfl dc (zac (m := 11) rfl rfl (hd 11 dc)) (show _ = 0 from rfl) ?_
          exact zaX (b8, hd16) 12 (by rfl) (by rfl) rfl (congrArg (dl D) rfl) (zaa rfl (zaa rfl (zaa rfl (zaa rfl (zaa rfl (zaa ((zaG (by rfl)).trans (zat (fun hD => hn (hcl 13 _ rfl (hcl 14 _ rfl (hcl 15 _ rfl (hcl 16 _ rfl (hcl 30 _ rfl (hcl 31 _ rfl (hcl 32 _ rfl hD 31 dc) 30 dc) 16 dc) 15 dc) 14 dc) 13 dc) 12 dc)) zaF)) (zaa rfl (zaa rfl (zaa ((zaG (by rfl)).trans (zat (fun hD => hn (hcl 13 _ rfl (hcl 14 _ rfl (hcl 15 _ rfl (hcl 16 _ rfl (hcl 30 _ rfl (hcl 31 _ rfl hD 30 dc) 16 dc) 15 dc) 14 dc) 13 dc) 12 dc)) zaF)) rfl)))))))))
         ·
          intro D b hn hd hcl
          obtain ⟨b8, hd16⟩ := b
          refine zaV (zaa rfl (zaa rfl (zaa rfl (zaa rfl (zaa rfl (zaa (zat (fun hD => hn (hcl 14 _ rfl (hcl 15 _ rfl (hcl 16 _ rfl (hcl 30 _ rfl (hcl 31 _ rfl (hcl 32 _ rfl hD 31 dc) 30 dc) 16 dc) 15 dc) 14 dc) 13 dc)) zaF) (zaa rfl (zaa rfl (zaa (zat (fun hD => hn (hcl 14 _ rfl (hcl 15 _ rfl (hcl 16 _ rfl (hcl 30 _ rfl (hcl 31 _ rfl hD 30 dc) 16 dc) 15 dc) 14 dc) 13 dc)) zaF) rfl))))))))) ?_
          refine zan zfR rfl dc (zac (m := 12) rfl rfl (hd 12 dc)) (show _ = 2 from rfl) ?_
          exact zaX (b8, hd16) 13 (by rfl) (by rfl) rfl (congrArg (dl D) rfl) (zaa rfl (zaa rfl (zaa rfl (zaa rfl (zaa rfl (zaa ((zaG (by rfl)).trans (zat (fun hD => hn (hcl 14 _ rfl (hcl 15 _ rfl (hcl 16 _ rfl (hcl 30 _ rfl (hcl 31 _ rfl (hcl 32 _ rfl hD 31 dc) 30 dc) 16 dc) 15 dc) 14 dc) 13 dc)) zaF)) (zaa rfl (zaa rfl (zaa ((zaG (by rfl)).trans (zat (fun hD => hn (hcl 14 _ rfl (hcl 15 _ rfl (hcl 16 _ rfl (hcl 30 _ rfl (hcl 31 _ rfl hD 30 dc) 16 dc) 15 dc) 14 dc) 13 dc)) zaF)) rfl)))))))))
         ·
          intro D b hn hd hcl
          obtain ⟨b8, hd16⟩ := b
          refine zaV (zaa rfl (zaa rfl (zaa rfl (zaa rfl (zaa rfl (zaa (zat (fun hD => hn (hcl 15 _ rfl (hcl 16 _ rfl (hcl 30 _ rfl (hcl 31 _ rfl (hcl 32 _ rfl hD 31 dc) 30 dc) 16 dc) 15 dc) 14 dc)) zaF) (zaa rfl (zaa rfl (zaa (zat (fun hD => hn (hcl 15 _ rfl (hcl 16 _ rfl (hcl 30 _ rfl (hcl 31 _ rfl hD 30 dc) 16 dc) 15 dc) 14 dc)) zaF) rfl))))))))) ?_
          refine zaM (k := 4) zkf rfl dc (zac (m := 13) rfl rfl (hd 13 dc)) rfl rfl ?_
          exact zaX (b8, hd16) 14 (by rfl) (by rfl) rfl (congrArg (dl D) rfl) (zaa rfl (zaa rfl (zaa rfl (zaa rfl (zaa rfl (zaa ((zaG (by rfl)).trans (zat (fun hD => hn (hcl 15 _ rfl (hcl 16 _ rfl (hcl 30 _ rfl (hcl 31 _ rfl (hcl 32 _ rfl hD 31 dc) 30 dc) 16 dc) 15 dc) 14 dc)) zaF)) (zaa rfl (zaa rfl (zaa ((zaG (by rfl)).trans (zat (fun hD => hn (hcl 15 _ rfl (hcl 16 _ rfl (hcl 30 _ rfl (hcl 31 _ rfl hD 30 dc) 16 dc) 15 dc) 14 dc)) zaF)) rfl)))))))))
         ·
          intro D b hn hd hcl
          obtain ⟨b8, hd16⟩ := b
          refine zaV (zaa rfl (zaa rfl (zaa rfl (zaa rfl (zaa rfl (zaa (zat (fun hD => hn (hcl 16 _ rfl (hcl 30 _ rfl (hcl 31 _ rfl (hcl 32 _ rfl hD 31 dc) 30 dc) 16 dc) 15 dc)) zaF) (zaa rfl (zaa rfl (zaa (zat (fun hD => hn (hcl 16 _ rfl (hcl 30 _ rfl (hcl 31 _ rfl hD 30 dc) 16 dc) 15 dc)) zaF) rfl))))))))) ?_
          refine zc3 (k := 6) rfl dc (zac (m := 14) rfl rfl (hd 14 dc)) rfl Tryd.underlying89 ?_
          exact zaX (b8, hd16) 15 (by rfl) (by rfl) rfl (congrArg (dl D) rfl) (zaa rfl (zaa rfl (zaa rfl (zaa rfl (zaa rfl (zaa ((zaG (by rfl)).trans (zat (fun hD => hn (hcl 16 _ rfl (hcl 30 _ rfl (hcl 31 _ rfl (hcl 32 _ rfl hD 31 dc) 30 dc) 16 dc) 15 dc)) zaF)) (zaa rfl (zaa rfl (zaa ((zaG (by rfl)).trans (zat (fun hD => hn (hcl 16 _ rfl (hcl 30 _ rfl (hcl 31 _ rfl hD 30 dc) 16 dc) 15 dc)) zaF)) rfl)))))))))
         ·
          intro D b hn hd hcl
          obtain ⟨b8, hd16⟩ := b
          refine zaV (zaa rfl (zaa rfl (zaa rfl (zaa rfl (zaa rfl (zaa (zat (fun hD => hn (hcl 30 _ rfl (hcl 31 _ rfl (hcl 32 _ rfl hD 31 dc) 30 dc) 16 dc)) zaF) (zaa rfl (zaa rfl (zaa (zat (fun hD => hn (hcl 30 _ rfl (hcl 31 _ rfl hD 30 dc) 16 dc)) zaF) rfl))))))))) ?_
          refine zau rfl dc (zac (m := 15) rfl rfl (hd 15 dc)) rfl (zdI (r := (p20.length : Int) - 1) (IntWalk.i64_in _ hg7)) ?_
          exact zaX (b8, hd16) 16 (by rfl) (by rfl) rfl (congrArg (dl D) rfl) (zaa rfl (zaa rfl (zaa rfl (zaa rfl (zaa rfl (zaa ((zaG (by rfl)).trans (zat (fun hD => hn (hcl 30 _ rfl (hcl 31 _ rfl (hcl 32 _ rfl hD 31 dc) 30 dc) 16 dc)) zaF)) (zaa rfl (zaa rfl (zaa ((zaG (by rfl)).trans (zat (fun hD => hn (hcl 30 _ rfl (hcl 31 _ rfl hD 30 dc) 16 dc)) zaF)) rfl)))))))))
         ·
          intro D b hn hd hcl
          obtain ⟨b8, hd16⟩ := b
          refine zaV (zaa rfl (zaa rfl (zaa rfl (zaa rfl (zaa rfl (zaa (zat (fun hD => hn (hcl 22 _ rfl (hcl 30 _ rfl (hcl 31 _ rfl (hcl 32 _ rfl hD 31 dc) 30 dc) 22 dc) 17 dc)) zaF) (zaa rfl (zaa rfl (zaa (zat (fun hD => hn (hcl 22 _ rfl (hcl 30 _ rfl (hcl 31 _ rfl hD 30 dc) 22 dc) 17 dc)) zaF) rfl))))))))) ?_
          refine zaf rfl dc (zaL (by rfl) rfl) ?_
          exact zaX (b8, hd16) 17 (by rfl) (by rfl) rfl (congrArg (dl D) rfl) (zaa rfl (zaa rfl (zaa rfl (zaa rfl (zaa rfl (zaa ((zaG (by rfl)).trans (zat (fun hD => hn (hcl 22 _ rfl (hcl 30 _ rfl (hcl 31 _ rfl (hcl 32 _ rfl hD 31 dc) 30 dc) 22 dc) 17 dc)) zaF)) (zaa rfl (zaa rfl (zaa ((zaG (by rfl)).trans (zat (fun hD => hn (hcl 22 _ rfl (hcl 30 _ rfl (hcl 31 _ rfl hD 30 dc) 22 dc) 17 dc)) zaF)) rfl)))))))))
         ·
          intro D b hn hd hcl
          obtain ⟨b8, hd16⟩ := b
          refine zaV (zaa rfl (zaa rfl (zaa rfl (zaa rfl (zaa rfl (zaa (zat (fun hD => hn (hcl 19 _ rfl (hcl 20 _ rfl (hcl 21 _ rfl (hcl 22 _ rfl (hcl 30 _ rfl (hcl 31 _ rfl (hcl 32 _ rfl hD 31 dc) 30 dc) 22 dc) 21 dc) 20 dc) 19 dc) 18 dc)) zaF) (zaa rfl (zaa rfl (zaa (zat (fun hD => hn (hcl 19 _ rfl (hcl 20 _ rfl (hcl 21 _ rfl (hcl 22 _ rfl (hcl 30 _ rfl (hcl 31 _ rfl hD 30 dc) 22 dc) 21 dc) 20 dc) 19 dc) 18 dc)) zaF) rfl))))))))) ?_
          refine zaf rfl dc (zaL (by rfl) rfl) ?_
          exact zaX (b8, hd16) 18 (by rfl) (by rfl) rfl (congrArg (dl D) rfl) (zaa rfl (zaa rfl (zaa rfl (zaa rfl (zaa rfl (zaa ((zaG (by rfl)).trans (zat (fun hD => hn (hcl 19 _ rfl (hcl 20 _ rfl (hcl 21 _ rfl (hcl 22 _ rfl (hcl 30 _ rfl (hcl 31 _ rfl (hcl 32 _ rfl hD 31 dc) 30 dc) 22 dc) 21 dc) 20 dc) 19 dc) 18 dc)) zaF)) (zaa rfl (zaa rfl (zaa ((zaG (by rfl)).trans (zat (fun hD => hn (hcl 19 _ rfl (hcl 20 _ rfl (hcl 21 _ rfl (hcl 22 _ rfl (hcl 30 _ rfl (hcl 31 _ rfl hD 30 dc) 22 dc) 21 dc) 20 dc) 19 dc) 18 dc)) zaF)) rfl)))))))))
         ·
          intro D b hn hd hcl
          obtain ⟨b8, hd16⟩ := b
          refine zaV (zaa rfl (zaa rfl (zaa rfl (zaa rfl (zaa rfl (zaa (zat (fun hD => hn (hcl 20 _ rfl (hcl 21 _ rfl (hcl 22 _ rfl (hcl 30 _ rfl (hcl 31 _ rfl (hcl 32 _ rfl hD 31 dc) 30 dc) 22 dc) 21 dc) 20 dc) 19 dc)) zaF) (zaa rfl (zaa rfl (zaa (zat (fun hD => hn (hcl 20 _ rfl (hcl 21 _ rfl (hcl 22 _ rfl (hcl 30 _ rfl (hcl 31 _ rfl hD 30 dc) 22 dc) 21 dc) 20 dc) 19 dc)) zaF) rfl))))))))) ?_
          refine zaR rfl dc (zac (m := 18) rfl rfl (hd 18 dc)) ?_
          exact zaX (b8, hd16) 19 (by rfl) (by rfl) rfl (congrArg (dl D) rfl) (zaa rfl (zaa rfl (zaa rfl (zaa rfl (zaa rfl (zaa ((zaG (by rfl)).trans (zat (fun hD => hn (hcl 20 _ rfl (hcl 21 _ rfl (hcl 22 _ rfl (hcl 30 _ rfl (hcl 31 _ rfl (hcl 32 _ rfl hD 31 dc) 30 dc) 22 dc) 21 dc) 20 dc) 19 dc)) zaF)) (zaa rfl (zaa rfl (zaa ((zaG (by rfl)).trans (zat (fun hD => hn (hcl 20 _ rfl (hcl 21 _ rfl (hcl 22 _ rfl (hcl 30 _ rfl (hcl 31 _ rfl hD 30 dc) 22 dc) 21 dc) 20 dc) 19 dc)) zaF)) rfl)))))))))
         ·
          intro D b hn hd hcl
          obtain ⟨b8, hd16⟩ := b
          refine zaV (zaa rfl (zaa rfl (zaa rfl (zaa rfl (zaa rfl (zaa (zat (fun hD => hn (hcl 21 _ rfl (hcl 22 _ rfl (hcl 30 _ rfl (hcl 31 _ rfl (hcl 32 _ rfl hD 31 dc) 30 dc) 22 dc) 21 dc) 20 dc)) zaF) (zaa rfl (zaa rfl (zaa (zat (fun hD => hn (hcl 21 _ rfl (hcl 22 _ rfl (hcl 30 _ rfl (hcl 31 _ rfl hD 30 dc) 22 dc) 21 dc) 20 dc)) zaF) rfl))))))))) ?_
          refine zan zeC rfl dc (zac (m := 19) rfl rfl (hd 19 dc)) (show _ = (((p20.length : Int) - 1 : Int).toNat) * 2 from rfl) ?_
          exact zaX (b8, hd16) 20 (by rfl) (by rfl) rfl (congrArg (dl D) rfl) (zaa rfl (zaa rfl (zaa rfl (zaa rfl (zaa rfl (zaa ((zaG (by rfl)).trans (zat (fun hD => hn (hcl 21 _ rfl (hcl 22 _ rfl (hcl 30 _ rfl (hcl 31 _ rfl (hcl 32 _ rfl hD 31 dc) 30 dc) 22 dc) 21 dc) 20 dc)) zaF)) (zaa rfl (zaa rfl (zaa ((zaG (by rfl)).trans (zat (fun hD => hn (hcl 21 _ rfl (hcl 22 _ rfl (hcl 30 _ rfl (hcl 31 _ rfl hD 30 dc) 22 dc) 21 dc) 20 dc)) zaF)) rfl)))))))))
         ·
          intro D b hn hd hcl
          obtain ⟨b8, hd16⟩ := b
          refine zaV (zaa rfl (zaa rfl (zaa rfl (zaa rfl (zaa rfl (zaa (zat (fun hD => hn (hcl 22 _ rfl (hcl 30 _ rfl (hcl 31 _ rfl (hcl 32 _ rfl hD 31 dc) 30 dc) 22 dc) 21 dc)) zaF) (zaa rfl (zaa rfl (zaa (zat (fun hD => hn (hcl 22 _ rfl (hcl 30 _ rfl (hcl 31 _ rfl hD 30 dc) 22 dc) 21 dc)) zaF) rfl))))))))) ?_
          refine zcV (i := ((p20.length : Int) - 1 : Int).toNat) (j := 0) (k := 6) (q := q1) zeL zbk rfl dc (zac (m := 20) rfl rfl (hd 20 dc)) rfl (zbz hq8) rfl dc rfl ?_
          exact zaX (b8, hd16) 21 (by rfl) (by rfl) rfl (congrArg (dl D) rfl) (zaa rfl (zaa rfl (zaa rfl (zaa rfl (zaa rfl (zaa ((zaG (by rfl)).trans (zat (fun hD => hn (hcl 22 _ rfl (hcl 30 _ rfl (hcl 31 _ rfl (hcl 32 _ rfl hD 31 dc) 30 dc) 22 dc) 21 dc)) zaF)) (zaa rfl (zaa rfl (zaa ((zaG (by rfl)).trans (zat (fun hD => hn (hcl 22 _ rfl (hcl 30 _ rfl (hcl 31 _ rfl hD 30 dc) 22 dc) 21 dc)) zaF)) rfl)))))))))
         ·
          intro D b hn hd hcl
          obtain ⟨b8, hd16⟩ := b
          refine zaV (zaa rfl (zaa rfl (zaa rfl (zaa rfl (zaa rfl (zaa (zat (fun hD => hn (hcl 30 _ rfl (hcl 31 _ rfl (hcl 32 _ rfl hD 31 dc) 30 dc) 22 dc)) zaF) (zaa rfl (zaa rfl (zaa (zat (fun hD => hn (hcl 30 _ rfl (hcl 31 _ rfl hD 30 dc) 22 dc)) zaF) rfl))))))))) ?_
          refine zau rfl dc (zac (m := 17) rfl rfl (hd 17 dc)) (zac (m := 21) rfl rfl (hd 21 dc)) (zdI (r := (p15.length : Int) - q1.From) (IntWalk.i64_in _ hg8)) ?_
          exact zaX (b8, hd16) 22 (by rfl) (by rfl) rfl (congrArg (dl D) rfl) (zaa rfl (zaa rfl (zaa rfl (zaa rfl (zaa rfl (zaa ((zaG (by rfl)).trans (zat (fun hD => hn (hcl 30 _ rfl (hcl 31 _ rfl (hcl 32 _ rfl hD 31 dc) 30 dc) 22 dc)) zaF)) (zaa rfl (zaa rfl (zaa ((zaG (by rfl)).trans (zat (fun hD => hn (hcl 30 _ rfl (hcl 31 _ rfl hD 30 dc) 22 dc)) zaF)) rfl)))))))))
         ·
          intro D b hn hd hcl
          obtain ⟨b8, hd16⟩ := b
          refine zaV (zaa rfl (zaa rfl (zaa rfl (zaa rfl (zaa rfl (zaa (zat (fun hD => hn (hcl 24 _ rfl (hcl 26 _ rfl (hcl 29 _ rfl (hcl 30 _ rfl (hcl 31 _ rfl (hcl 32 _ rfl hD 31 dc) 30 dc) 29 dc) 26 dc) 24 dc) 23 dc)) zaF) (zaa rfl (zaa rfl (zaa (zat (fun hD => hn (hcl 24 _ rfl (hcl 26 _ rfl (hcl 29 _ rfl (hcl 30 _ rfl (hcl 31 _ rfl hD 30 dc) 29 dc) 26 dc) 24 dc) 23 dc)) zaF) rfl))))))))) ?_
          refine zan zeC rfl dc (zaL (by rfl) rfl) (show _ = 0 from rfl) ?_
          exact zaX (b8, hd16) 23 (by rfl) (by rfl) rfl (congrArg (dl D) rfl) (zaa rfl (zaa rfl (zaa rfl (zaa rfl (zaa rfl (zaa ((zaG (by rfl)).trans (zat (fun hD => hn (hcl 24 _ rfl (hcl 26 _ rfl (hcl 29 _ rfl (hcl 30 _ rfl (hcl 31 _ rfl (hcl 32 _ rfl hD 31 dc) 30 dc) 29 dc) 26 dc) 24 dc) 23 dc)) zaF)) (zaa rfl (zaa rfl (zaa ((zaG (by rfl)).trans (zat (fun hD => hn (hcl 24 _ rfl (hcl 26 _ rfl (hcl 29 _ rfl (hcl 30 _ rfl (hcl 31 _ rfl hD 30 dc) 29 dc) 26 dc) 24 dc) 23 dc)) zaF)) rfl)))))))))
         ·
          intro D b hn hd hcl
          obtain ⟨b8, hd16⟩ := b
          refine zaV (zaa rfl (zaa rfl (zaa rfl (zaa rfl (zaa rfl (zaa (zat (fun hD => hn (hcl 26 _ rfl (hcl 29 _ rfl (hcl 30 _ rfl (hcl 31 _ rfl (hcl 32 _ rfl hD 31 dc) 30 dc) 29 dc) 26 dc) 24 dc)) zaF) (zaa rfl (zaa rfl (zaa (zat (fun hD => hn (hcl 26 _ rfl (hcl 29 _ rfl (hcl 30 _ rfl (hcl 31 _ rfl hD 30 dc) 29 dc) 26 dc) 24 dc)) zaF) rfl))))))))) ?_
          refine zaM (k := 7) zeL rfl dc (zac (m := 23) rfl rfl (hd 23 dc)) rfl rfl ?_
          exact zaX (b8, hd16) 24 (by rfl) (by rfl) rfl (congrArg (dl D) rfl) (zaa rfl (zaa rfl (zaa rfl (zaa rfl (zaa rfl (zaa ((zaG (by rfl)).trans (zat (fun hD => hn (hcl 26 _ rfl (hcl 29 _ rfl (hcl 30 _ rfl (hcl 31 _ rfl (hcl 32 _ rfl hD 31 dc) 30 dc) 29 dc) 26 dc) 24 dc)) zaF)) (zaa rfl (zaa rfl (zaa ((zaG (by rfl)).trans (zat (fun hD => hn (hcl 26 _ rfl (hcl 29 _ rfl (hcl 30 _ rfl (hcl 31 _ rfl hD 30 dc) 29 dc) 26 dc) 24 dc)) zaF)) rfl)))))))))
         ·
          intro D b hn hd hcl
          obtain ⟨b8, hd16⟩ := b
          refine zaV (zaa rfl (zaa rfl (zaa rfl (zaa rfl (zaa rfl (zaa (zat (fun hD => hn (hcl 26 _ rfl (hcl 29 _ rfl (hcl 30 _ rfl (hcl 31 _ rfl (hcl 32 _ rfl hD 31 dc) 30 dc) 29 dc) 26 dc) 25 dc)) zaF) (zaa rfl (zaa rfl (zaa (zat (fun hD => hn (hcl 26 _ rfl (hcl 29 _ rfl (hcl 30 _ rfl (hcl 31 _ rfl hD 30 dc) 29 dc) 26 dc) 25 dc)) zaF) rfl))))))))) ?_
          refine zaf rfl dc (zaL (by rfl) rfl) ?_
          exact zaX (b8, hd16) 25 (by rfl) (by rfl) rfl (congrArg (dl D) rfl) (zaa rfl (zaa rfl (zaa rfl (zaa rfl (zaa rfl (zaa ((zaG (by rfl)).trans (zat (fun hD => hn (hcl 26 _ rfl (hcl 29 _ rfl (hcl 30 _ rfl (hcl 31 _ rfl (hcl 32 _ rfl hD 31 dc) 30 dc) 29 dc) 26 dc) 25 dc)) zaF)) (zaa rfl (zaa rfl (zaa ((zaG (by rfl)).trans (zat (fun hD => hn (hcl 26 _ rfl (hcl 29 _ rfl (hcl 30 _ rfl (hcl 31 _ rfl hD 30 dc) 29 dc) 26 dc) 25 dc)) zaF)) rfl)))))))))
         ·
          intro D b hn hd hcl
          obtain ⟨b8, hd16⟩ := b
          refine zaV (zaa rfl (zaa rfl (zaa rfl (zaa rfl (zaa rfl (zaa (zat (fun hD => hn (hcl 29 _ rfl (hcl 30 _ rfl (hcl 31 _ rfl (hcl 32 _ rfl hD 31 dc) 30 dc) 29 dc) 26 dc)) zaF) (zaa rfl (zaa rfl (zaa (zat (fun hD => hn (hcl 29 _ rfl (hcl 30 _ rfl (hcl 31 _ rfl hD 30 dc) 29 dc) 26 dc)) zaF) rfl))))))))) ?_
          refine zau rfl dc (zac (m := 24) rfl rfl (hd 24 dc)) (zac (m := 25) rfl rfl (hd 25 dc)) (za5 (r := span1 + r7) (IntWalk.i64_in _ hg9)) ?_
          exact zaX (b8, hd16) 26 (by rfl) (by rfl) rfl (congrArg (dl D) rfl) (zaa rfl (zaa rfl (zaa rfl (zaa rfl (zaa rfl (zaa ((zaG (by rfl)).trans (zat (fun hD => hn (hcl 29 _ rfl (hcl 30 _ rfl (hcl 31 _ rfl (hcl 32 _ rfl hD 31 dc) 30 dc) 29 dc) 26 dc)) zaF)) (zaa rfl (zaa rfl (zaa ((zaG (by rfl)).trans (zat (fun hD => hn (hcl 29 _ rfl (hcl 30 _ rfl (hcl 31 _ rfl hD 30 dc) 29 dc) 26 dc)) zaF)) rfl)))))))))
         ·
          intro D b hn hd hcl
          obtain ⟨b8, hd16⟩ := b
          refine zaV (zaa rfl (zaa rfl (zaa rfl (zaa rfl (zaa rfl (zaa (zat (fun hD => hn (hcl 28 _ rfl (hcl 29 _ rfl (hcl 30 _ rfl (hcl 31 _ rfl (hcl 32 _ rfl hD 31 dc) 30 dc) 29 dc) 28 dc) 27 dc)) zaF) (zaa rfl (zaa rfl (zaa (zat (fun hD => hn (hcl 28 _ rfl (hcl 29 _ rfl (hcl 30 _ rfl (hcl 31 _ rfl hD 30 dc) 29 dc) 28 dc) 27 dc)) zaF) rfl))))))))) ?_
          refine zan zfb rfl dc (zaL (by rfl) rfl) (show _ = 1 from rfl) ?_
          exact zaX (b8, hd16) 27 (by rfl) (by rfl) rfl (congrArg (dl D) rfl) (zaa rfl (zaa rfl (zaa rfl (zaa rfl (zaa rfl (zaa ((zaG (by rfl)).trans (zat (fun hD => hn (hcl 28 _ rfl (hcl 29 _ rfl (hcl 30 _ rfl (hcl 31 _ rfl (hcl 32 _ rfl hD 31 dc) 30 dc) 29 dc) 28 dc) 27 dc)) zaF)) (zaa rfl (zaa rfl (zaa ((zaG (by rfl)).trans (zat (fun hD => hn (hcl 28 _ rfl (hcl 29 _ rfl (hcl 30 _ rfl (hcl 31 _ rfl hD 30 dc) 29 dc) 28 dc) 27 dc)) zaF)) rfl)))))))))
         ·
          intro D b hn hd hcl
          obtain ⟨b8, hd16⟩ := b
          refine zaV (zaa rfl (zaa rfl (zaa rfl (zaa rfl (zaa rfl (zaa (zat (fun hD => hn (hcl 29 _ rfl (hcl 30 _ rfl (hcl 31 _ rfl (hcl 32 _ rfl hD 31 dc) 30 dc) 29 dc) 28 dc)) zaF) (zaa rfl (zaa rfl (zaa (zat (fun hD => hn (hcl 29 _ rfl (hcl 30 _ rfl (hcl 31 _ rfl hD 30 dc) 29 dc) 28 dc)) zaF) rfl))))))))) ?_
          refine zaM (k := 7) zeL rfl dc (zac (m := 27) rfl rfl (hd 27 dc)) rfl rfl ?_
          exact zaX (b8, hd16) 28 (by rfl) (by rfl) rfl (congrArg (dl D) rfl) (zaa rfl (zaa rfl (zaa rfl (zaa rfl (zaa rfl (zaa ((zaG (by rfl)).trans (zat (fun hD => hn (hcl 29 _ rfl (hcl 30 _ rfl (hcl 31 _ rfl (hcl 32 _ rfl hD 31 dc) 30 dc) 29 dc) 28 dc)) zaF)) (zaa rfl (zaa rfl (zaa ((zaG (by rfl)).trans (zat (fun hD => hn (hcl 29 _ rfl (hcl 30 _ rfl (hcl 31 _ rfl hD 30 dc) 29 dc) 28 dc)) zaF)) rfl)))))))))
         ·
          intro D b hn hd hcl
          obtain ⟨b8, hd16⟩ := b
          refine zaV (zaa rfl (zaa rfl (zaa rfl (zaa rfl (zaa rfl (zaa (zat (fun hD => hn (hcl 30 _ rfl (hcl 31 _ rfl (hcl 32 _ rfl hD 31 dc) 30 dc) 29 dc)) zaF) (zaa rfl (zaa rfl (zaa (zat (fun hD => hn (hcl 30 _ rfl (hcl 31 _ rfl hD 30 dc) 29 dc)) zaF) rfl))))))))) ?_
          refine zbi (v := .agg #[zI (span1 + r7), zI span2]) (ps := [(0, .tmp 145), (1, .tmp 147)]) rfl dc (evP.cons (zac (m := 26) rfl rfl (hd 26 dc)) (evP.cons (zac (m := 28) rfl rfl (hd 28 dc)) evP.nil)) (fun _ => by kernel_rfl) ?_
          exact zaX (b8, hd16) 29 (by rfl) (by rfl) rfl (congrArg (dl D) rfl) (zaa rfl (zaa rfl (zaa rfl (zaa rfl (zaa rfl (zaa ((zaG (by rfl)).trans (zat (fun hD => hn (hcl 30 _ rfl (hcl 31 _ rfl (hcl 32 _ rfl hD 31 dc) 30 dc) 29 dc)) zaF)) (zaa rfl (zaa rfl (zaa ((zaG (by rfl)).trans (zat (fun hD => hn (hcl 30 _ rfl (hcl 31 _ rfl hD 30 dc) 29 dc)) zaF)) rfl)))))))))
         ·
          intro D b hn hd hcl
          obtain ⟨b8, hd16⟩ := b
          refine zaV (zaa rfl (zaa rfl (zaa rfl (zaa rfl (zaa rfl (zaa (zat (fun hD => hn (hcl 31 _ rfl (hcl 32 _ rfl hD 31 dc) 30 dc)) zaF) (zaa rfl (zaa rfl (zaa (zat (fun hD => hn (hcl 31 _ rfl hD 30 dc)) zaF) rfl))))))))) ?_
          refine zbi (v := .agg #[.string (zbc line1 r7 (line1.size : Int)), zI r7, zI ((p20.length : Int) - 1), zI ((p15.length : Int) - q1.From), zI (span1 + r7), zI span2]) (ps := [(0, .tmp 127), (1, .tmp 128), (2, .tmp 135), (3, .tmp 141), (4, .tmp 148)]) rfl dc (evP.cons (zac (m := 8) rfl rfl (hd 8 dc)) (evP.cons (zac (m := 9) rfl rfl (hd 9 dc)) (evP.cons (zac (m := 16) rfl rfl (hd 16 dc)) (evP.cons (zac (m := 22) rfl rfl (hd 22 dc)) (evP.cons (zac (m := 29) rfl rfl (hd 29 dc)) evP.nil))))) (fun _ => by kernel_rfl) ?_
          exact zaX (b8, hd16) 30 (by rfl) (by rfl) rfl (congrArg (dl D) rfl) (zaa rfl (zaa rfl (zaa rfl (zaa rfl (zaa rfl (zaa ((zaG (by rfl)).trans (zat (fun hD => hn (hcl 31 _ rfl (hcl 32 _ rfl hD 31 dc) 30 dc)) zaF)) (zaa rfl (zaa rfl (zaa ((zaG (by rfl)).trans (zat (fun hD => hn (hcl 31 _ rfl hD 30 dc)) zaF)) rfl)))))))))
         ·
          intro D b hn hd hcl
          obtain ⟨_, hd16⟩ := b
          refine zaV (zaa rfl (zaa rfl (zaa rfl (zaa rfl (zaa rfl (zaa (zat (fun hD => hn (hcl 32 _ rfl hD 31 dc)) zaF) (zaa rfl (zaa rfl (zaa (zat hn zaF) rfl))))))))) ?_
          refine zbb (cs := [.string (zbc line1 r7 (line1.size : Int)), zI r7, zI ((p20.length : Int) - 1), zI ((p15.length : Int) - q1.From), zI (span1 + r7), zI span2]) (te := 36) (ps := [(0, .tmp 149)]) rfl dc (evP.cons (zac (m := 30) rfl rfl (hd 30 dc)) evP.nil) (fun _ => by kernel_rfl) (fun b8 => ?_)
          refine zfA 8 rfl rfl ?_
          show TO _ _ _ _ _ _ _ _ _ _ [cells b1 [zI 0, zI 0] 26, cells b4 [.string p4.text, hd3.v, hd4.v] 128, vec zaD 130 5 hd3.v p4.places, vec zax 132 4 hd4.v p4.lines, cells b3 [.string p14, hd10.v, hd14.v, .string text1] 93, vec zar 36 6 hd10.v p15, vec zaq 34 2 hd14.v p20, cells b5 [zI span1, zI span2] 34, cells b8 [.string (zbc line1 r7 (line1.size : Int)), zI r7, zI ((p20.length : Int) - 1), zI ((p15.length : Int) - q1.From), zI (span1 + r7), zI span2] 36]
          exact zaX (b8, hd16) 31 (by rfl) (by rfl) rfl (zap (fun _ => rfl) (zap (fun _ => rfl) (zap (fun _ => rfl) (zap (fun _ => rfl) (zap (fun _ => rfl) (zap (fun _ => rfl) (zap (fun _ => rfl) (zap (fun _ => rfl) (zap (fun _ => rfl) (zap (fun _ => rfl) (zap (fun _ => rfl) (zap (fun _ => rfl) (zap (fun _ => rfl) (zap (fun _ => rfl) (zap (fun _ => rfl) (zap (fun _ => rfl) (zap (fun _ => rfl) (zap (fun _ => rfl) (zap (fun _ => rfl) (zap (fun _ => rfl) (zap (fun _ => rfl) (zap (fun _ => rfl) (zap (fun _ => rfl) (zap (fun _ => rfl) (zap (fun _ => rfl) (zap (fun _ => rfl) (zap (fun _ => rfl) (zap (fun _ => rfl) (zap (fun _ => rfl) (zap (fun _ => rfl) (zap (fun _ => rfl) (zap (fun hD => absurd hD hn) (zap (fun _ => rfl) rfl))))))))))))))))))))))))))))))))) (zaa rfl (zaa rfl (zaa rfl (zaa rfl (zaa rfl (zaa ((zaG (by rfl)).trans (zat (fun hD => hn (hcl 32 _ rfl hD 31 dc)) zaF)) (zaa rfl (zaa rfl (zaa (zb9 (Or.inr rfl) rfl) rfl)))))))))
         ·
          intro D b hn hd hcl
          obtain ⟨b8, _⟩ := b
          refine zaV (zaa rfl (zaa rfl (zaa rfl (zaa rfl (zaa rfl (zaa (zat hn zaF) (zaa rfl (zaa rfl (zaa (zb9 (hd 31 dc) rfl) rfl))))))))) ?_
          refine zbw (k := 5) (k2 := 8) (ys := [(⟨zbc line1 r7 (line1.size : Int), r7, (p20.length : Int) - 1, (p15.length : Int) - q1.From, span1 + r7, span2⟩ : Gapi_Verse)]) Tryd.underlying57 zoK zbM ze4 rfl dc (zac (m := 5) rfl rfl (hd 5 dc)) (zac (m := 31) rfl rfl (hd 31 dc)) rfl rfl rfl rfl hg10 (fun v3 => ?_)
          refine zco (k := 5) rfl (fun hd16 he2 => ?_)
          subst he2
          exact zaX (b8, hd16) 32 (by rfl) (by rfl) rfl (zap (fun _ => rfl) (zap (fun _ => rfl) (zap (fun _ => rfl) (zap (fun _ => rfl) (zap (fun _ => rfl) (zap (fun _ => rfl) (zap (fun _ => rfl) (zap (fun _ => rfl) (zap (fun _ => rfl) (zap (fun _ => rfl) (zap (fun _ => rfl) (zap (fun _ => rfl) (zap (fun _ => rfl) (zap (fun _ => rfl) (zap (fun _ => rfl) (zap (fun _ => rfl) (zap (fun _ => rfl) (zap (fun _ => rfl) (zap (fun _ => rfl) (zap (fun _ => rfl) (zap (fun _ => rfl) (zap (fun _ => rfl) (zap (fun _ => rfl) (zap (fun _ => rfl) (zap (fun _ => rfl) (zap (fun _ => rfl) (zap (fun _ => rfl) (zap (fun _ => rfl) (zap (fun _ => rfl) (zap (fun _ => rfl) (zap (fun _ => rfl) (zap (fun _ => rfl) (zap (fun hD => absurd hD hn) rfl))))))))))))))))))))))))))))))))) (zaa rfl (zaa rfl (zaa rfl (zaa rfl (zaa rfl (zaa (zb9 (Or.inr rfl) rfl) (zaa rfl (zaa rfl (zaa ((zaG (by rfl)).trans (zb9 (hd 31 dc) rfl)) rfl)))))))))
         intro D b hall
         obtain ⟨b8, hd16⟩ := b
         refine zaV (zaa rfl (zaa rfl (zaa rfl (zaa rfl (zaa rfl (zaa (zb9 (hall 32 dc) rfl) (zaa rfl (zaa rfl (zaa (zb9 (hall 31 dc) rfl) rfl))))))))) (zaR rfl dc rfl (zan zbR rfl dc rfl (show _ = 0 from rfl) (zan zdC rfl dc rfl (show _ = 1 from rfl) ?_)))
         refine zbh (k := 4) (l' := [.string p14, hd16.v, hd14.v, .string text1]) zo8 rfl rfl rfl rfl rfl (fun _ _ => rfl) rfl ?_
         refine zaj (zah (zae (zaf rfl dc rfl (zaf rfl dc rfl ?_))))
         obtain ⟨hg11, h⟩ := zbW h
         refine zau rfl dc rfl rfl (za5 (r := (p15.length : Int) + 1) (IntWalk.i64_in _ hg11)) (zaR rfl dc rfl (zan zfb rfl dc rfl (show _ = (((p20.length : Int) - 1 : Int).toNat) * 2 + 1 from rfl) ?_))
         refine zfz (i := ((p20.length : Int) - 1 : Int).toNat) (j := 1) (k := 6) (q := q1) (q' := (⟨q1.From, (p15.length : Int) + 1⟩ : Gapi_Span)) ziP zbk rfl rfl rfl rfl (zbz hq8) rfl dc rfl (fun _ _ => rfl) ?_
         show TO _ _ _ _ _ _ _ _ _ _ [cells b1 [zI 0, zI 0] 26, cells b4 [.string p4.text, hd3.v, hd4.v] 128, vec zaD 130 5 hd3.v p4.places, vec zax 132 4 hd4.v p4.lines, cells b3 [.string p14, hd16.v, hd14.v, .string text1] 93, vec zar 36 6 hd16.v (p15 ++ [(⟨zbc line1 r7 (line1.size : Int), r7, (p20.length : Int) - 1, (p15.length : Int) - q1.From, span1 + r7, span2⟩ : Gapi_Verse)]), vec zaq 34 2 hd14.v (p20.set ((p20.length : Int) - 1 : Int).toNat (⟨q1.From, (p15.length : Int) + 1⟩ : Gapi_Span)), cells b5 [zI span1, zI span2] 34, cells b8 [.string (zbc line1 r7 (line1.size : Int)), zI r7, zI ((p20.length : Int) - 1), zI ((p15.length : Int) - q1.From), zI (span1 + r7), zI span2] 36]
         refine zaj (zav ?_)
         exact zaJ (p14, p15 ++ [(⟨zbc line1 r7 (line1.size : Int), r7, (p20.length : Int) - 1, (p15.length : Int) - q1.From, span1 + r7, span2⟩ : Gapi_Verse)], p20.set ((p20.length : Int) - 1 : Int).toNat (⟨q1.From, (p15.length : Int) + 1⟩ : Gapi_Span), false, true, hd16, hd14) h rfl (zab rfl (zab rfl (zab rfl (zab rfl (zab rfl (zab rfl (zab rfl (zab rfl (zay))))))))) (zam [0, 1, 2, 3, 4, 5, 6] kr rfl)
      ·
       rintro ⟨p17, p18, p19, first4, row4, hd12, hd13⟩ h
       rw [hj2] at h
       show TC _ _ _ _ _ ([]) _ _ [(0, .string text1), (3, zP b1), (4, zP b4), (6, zP b3), (7, .bool first4), (8, .bool row4), (30, zI r2), (31, zI x3)] [cells b1 [zI 0, zI 0] 26, cells b4 [.string p4.text, hd3.v, hd4.v] 128, vec zaD 130 5 hd3.v p4.places, vec zax 132 4 hd4.v p4.lines, cells b3 [.string p17, hd12.v, hd13.v, .string text1] 93, vec zar 36 6 hd12.v p18, vec zaq 34 2 hd13.v p19]
       refine zae ?_
       obtain ⟨hg12, h⟩ := zbW h
       refine zau rfl dc rfl rfl (za5 (r := x3 + 1) (IntWalk.i64_in _ hg12)) (zaf rfl dc rfl (zaj ?_))
       subst hag1
       exact za6 (n1, p17, p18, p19, first4, row4, x3 + 1, hd12, hd13) h (Nat.lt_succ_self _) rfl (zab rfl (zab rfl (zab rfl (zab rfl (zab rfl (zab rfl (zab rfl (zab rfl (zay))))))))) (zam [0, 1, 2, 3, 4, 5, 6] kr rfl)
     ·
      have h := zaU hb2 h
      refine zbl (zaC (zaC (zaN ?_)))
      exact zaJ (p14, p15, p16, b3, hd10, hd11) h rfl (zab rfl (zab rfl (zay))) (zam [0, 4, 5, 6] kr rfl)
   ·
    rintro ⟨p1, p2, p3, b2, hd1, hd2⟩ h
    rw [hj1] at h
    show TC _ _ _ _ _ ([]) _ _ [(3, zP b1), (6, zP b2)] [cells b1 [zI 0, zI 0] 26, cells b2 [.string p1, hd1.v, hd2.v, .string text1] 93, vec zar 36 6 hd1.v p2, vec zaq 34 2 hd2.v p3]
    refine zak (zae (zaf rfl dc rfl ?_))
    refine zbi (v := .agg #[zI 0, zI 0]) (ps := []) rfl dc rfl (fun _ => by kernel_rfl) ?_
    refine zai rfl dc rfl (za4 (k := 0) (vs := [zI 0, zI 0]) (l' := [zI 0, zI 0]) zgM rfl rfl rfl rfl rfl (show _ ≤ _ by simp) rfl rfl (zaj (zah (zaQ (zcy (by simp) ?_)))))
    refine zmz (As := [cells b2 [.string p1, hd1.v, hd2.v, .string text1] 93, vec zar 36 6 hd1.v p2, vec zaq 34 2 hd2.v p3]) (zam [1, 2, 3] kr rfl) (ziK (enc := zaB) (nest := zaz) (t := 93) (x := (⟨p1, p2, p3, text1⟩ : Gpoem_Poem)) (b := b2) (hd := (hd1, hd2))) (fun _ _ => ?_)
    show TX _ _ _ _ _ _ _ [cells b1 [zI 0, zI 0] 26, emp, emp, emp, zd5 zaB zaz 93 (zP b2) (some (⟨p1, p2, p3, text1⟩ : Gpoem_Poem))]
    cases h
    exact zaW (rs := [.tmp 2, .cell 3 26]) (zP b2) (.inl rfl) Tryd.results13 (.cons (.tmp rfl) (.cons (.cells zie (k := 0) rfl rfl rfl) .nil)) rfl (zam [4] kr rfl)
 ·
  exact fun b hb => hb.elim
end Go.Proofs.YtgfkogafkhbgnaaDoor
namespace Go.Proofs.YtgfkogafkhbgnaaDoor
open Go.RowKit Go.Lib
set_option linter.unusedVariables false
set_option linter.unusedSimpArgs false
theorem zld {α : Type} {enc : α → List Value} {size k : Nat} {vv : Value} {xs : List α} {e : TypeId} (hz : ∀ x, (enc x).length = size) {C : Nat → Prop} {w : World} (h : (vec enc e size vv xs).P C w) : (roRow enc size vv k xs).P C w :=
  ⟨(zeR hz h).1, fun i x j v h1 h2 h3 => (zeR hz h).2 i x j v (Nat.zero_le _) h2 h3⟩
/-- Where a slice's records lie: a block's beginning, a place, what lies there. -/
structure Seat (α : Type) where
  vv : Value
  k : Nat
  L : List α
/-- The slice of that header can be read: xs. -/
def zfp {α : Type} (enc : α → List Value) (size : Nat) (hd : Hd) (xs : List α) : Asn :=
  exA fun b : {b : Seat α // Vw b.vv b.L size b.k hd.v xs} => roRow enc size b.1.vv b.1.k b.1.L
theorem zmQ {α : Type} {enc : α → List Value} {size : Nat} {e : TypeId} {hd : Hd} {xs : List α} (hlen : ∀ x, (enc x).length = size) {C : Nat → Prop} {w : World} (h : (vec enc e size hd.v xs).P C w) : (zfp enc size hd xs).P C w :=
  ⟨⟨⟨hd.v, 0, xs⟩, ziN h⟩, zeR hlen h⟩
theorem rdSl_see {α : Type} {enc : α → List Value} {size : Nat} {hd : Hd} {xs : List α} {vv : Value} {k : Nat} {L : List α} (hV : Vw vv L size k hd.v xs) {C : Nat → Prop} {w : World} (h : (roRow enc size vv k L).P C w) : (zfp enc size hd xs).P C w :=
  ⟨⟨⟨vv, k, L⟩, hV⟩, h⟩
section
variable {α η : Type} {enc : α × η → List Value} {nest nestR : α × η → List Asn} {e : TypeId} {size : Nat} {v : Value} {xs : List α} {zs : List (α × η)} {z : α × η}
/-- What the records zs own can be read. -/
def rdOwn (nestR : α × η → List Asn) (zs : List (α × η)) : Asn :=
  ⟨fun C w => (∀ k, C k → k < w.heap.size) ∧ ∀ z ∈ zs, ∀ A ∈ nestR z, ∃ D, A.P D w ∧ ∀ k, D k → C k,
   fun h k hk => h.1 k hk,
   fun {C w w'} h hs hk => ⟨fun k hC => Nat.lt_of_lt_of_le (h.1 k hC) hs, fun z hz A hA => by
     obtain ⟨D, h1, h2⟩ := h.2 z hz A hA
     exact ⟨D, A.loc h1 hs (fun k hD => hk k (h2 k hD)), h2⟩⟩⟩
/-- What is owned gives what is read. -/
def zni (nest nestR : α × η → List Asn) : Prop := ∀ z C w, sepL (nest z) C w → ∀ A ∈ nestR z, ∃ D, A.P D w ∧ ∀ k, D k → C k
theorem zmk {C : Nat → Prop} {w : World} (h : sepL (zs.flatMap nest) C w) (hz : z ∈ zs) : ∃ D, sepL (nest z) D w ∧ ∀ k, D k → C k := by
  obtain ⟨i, hi⟩ := List.getElem?_of_mem hz
  obtain ⟨C1, C2, h1, _, _, h4⟩ := (zhy hi).1 h
  exact ⟨C1, h1, fun k hk => (h4 k).2 (.inl hk)⟩
theorem zjx (hG : zni nest nestR) {C : Nat → Prop} {w : World} (h : (own nest zs).P C w) : (rdOwn nestR zs).P C w :=
  ⟨(own nest zs).lt h, fun z hz A hA => by
    obtain ⟨D, h1, h2⟩ := zmk (show sepL (zs.flatMap nest) C w from h) hz
    obtain ⟨E, h3, h4⟩ := hG z D w h1 A hA
    exact ⟨E, h3, fun k hk => h2 k (h4 k hk)⟩⟩
variable {w0 : World} {K : Nat → Prop} {RD : List Asn} {i j : Nat}
theorem Rd.openEl (hr : Rd w0 K RD) (hi : RD[i]? = some (rdOwn nestR zs)) (hz : zs[j]? = some z) : Rd w0 K (RD ++ nestR z) :=
  hr.more hi fun C hC B hB => hC.2 z (List.mem_of_getElem? hz) B hB
theorem Rd.openSl {β : Type} {enc1 : β → List Value} {hd : Hd} {ys : List β} (hr : Rd w0 K RD) (hi : RD[i]? = some (zfp enc1 size hd ys)) : ∃ vv k L, Vw vv L size k hd.v ys ∧ Rd w0 K (RD ++ [roRow enc1 size vv k L]) := by
  obtain ⟨C, ⟨⟨⟨vv, k, L⟩, hV⟩, hC⟩, hk⟩ := hr _ (List.mem_of_getElem? hi)
  refine ⟨vv, k, L, hV, hr.append fun B hB => ?_⟩
  rw [List.mem_singleton] at hB
  subst hB
  exact ⟨C, hC, hk⟩
theorem Rd.openN (hr : Rd w0 K RD) (hi : RD[i]? = some (zcU enc nest e size v xs)) (hlen : ∀ z, (enc z).length = size) (hG : zni nest nestR) :
    ∃ zs : List (α × η), zs.map Prod.fst = xs ∧ Vw v zs size 0 v zs ∧ Rd w0 K (RD ++ [roRow enc size v 0 zs, rdOwn nestR zs]) := by
  obtain ⟨C, h, hk⟩ := hr _ (List.mem_of_getElem? hi)
  obtain ⟨zs, hz, h1⟩ := zjC C w0 h
  obtain ⟨C1, C2, g1, g2, _, g4⟩ := ziu h1
  refine ⟨zs, hz, ziN g1, hr.append fun B hB => ?_⟩
  rcases List.mem_cons.1 hB with rfl | hB
  · exact ⟨C1, zeR hlen g1, fun k h => hk k ((g4 k).2 (.inl h))⟩
  · rw [List.mem_singleton] at hB
    subst hB
    exact ⟨C2, zjx hG g2, fun k h => hk k ((g4 k).2 (.inr h))⟩
/-- A contract that reads a slice's records, closed: it reads the slice that owns them. -/
theorem ziJ {P : Program} {f : FuncId} {vs : List Value} {RD1 RD2 As : List Asn} {β : Type} {V : β → Value} {Bs : β → List Asn} (hlen : ∀ z, (enc z).length = size) (hG : zni nest nestR)
    (h : ∀ zs : List (α × η), zs.map Prod.fst = xs → Vw v zs size 0 v zs → FnR P f vs (RD1 ++ [roRow enc size v 0 zs, rdOwn nestR zs] ++ RD2) As V Bs) : FnR P f vs (RD1 ++ [zcU enc nest e size v xs] ++ RD2) As V Bs := fun w C hR => by
  obtain ⟨zs, hz, hV, h1⟩ := hR.openN (i := RD1.length) (nest := nest) (e := e) (v := v) (xs := xs) (by simp) hlen hG
  refine h zs hz hV w C fun A hA => h1 A ?_
  simp only [List.mem_append, List.mem_cons, List.not_mem_nil, or_false] at hA ⊢
  rcases hA with (hA | hA) | hA
  · exact .inl (.inl (.inl hA))
  · exact .inr hA
  · exact .inl (.inr hA)
end
section
variable {α η : Type} {nest : α × η → List Asn} {zs ys : List (α × η)}
end
section
variable {F : Fence} {P : Program} {w0 : World} {K : Nat → Prop} {N : Nat} {dfs : List Deferred} {Q : Exit → Act → World → Prop} {σ : List (Nat × Value)} {L : List Asn} {c : Code} {k : Nat} {α η : Type} {enc : α × η → List Value} {nest : α × η → List Asn} {t : TypeId} {p : Value} {m : Option α}
end
end Go.Proofs.YtgfkogafkhbgnaaDoor
namespace Go.Proofs.YtgfkogafkhbgnaaDoor
open Go.RowKit Go.Lib
def nestR_T_string (z : (List ByteArray) × Hd) : List Asn := [zfp encS 1 z.2 z.1]
theorem zfa : zni zao nestR_T_string := by
  intro z C w h A hA
  simp only [nestR_T_string, List.mem_cons, List.not_mem_nil, or_false] at hA
  rcases hA with rfl
  · obtain ⟨D, h1, h2⟩ := zhz h _ (List.mem_of_getElem? (i := 0) rfl); exact ⟨D, zmQ zev h1, h2⟩
end Go.Proofs.YtgfkogafkhbgnaaDoor
namespace Go.Proofs.YtgfkogafkhbgnaaDoor
open Go.RowKit Go.Lib
set_option linter.unusedVariables false
set_option linter.unusedSimpArgs false
def zc6 (p1 : Gref17_Poem) (j1 : Int → Option Int) (ag1 : Int → Int → Option Int) (n4 : Int) (i3 : Int) : Option Int :=
zaO (decide ((i3 : Int) < (p1.Stanzas.length : Int))) (
zaE (zdk p1.Stanzas i3) fun (x1 : List ByteArray) =>
grd (I64 (n4 + (x1.length : Int))) <|
grd (I64 (i3 + 1)) <|
ag1 (n4 + (x1.length : Int)) (i3 + 1)
) (
j1 n4
)
def zdv (p1 : Gref17_Poem) : Option Int :=
zbE (fun (j1 : Int → Option Int) =>
za2 (fun _ _ => none) (zc6 p1 j1) zbG 0 0
) (fun (n1 : Int) =>
some n1
)
theorem zij {p1 : Gref17_Poem} {p1_h0 : Hd} {vvp10 : Value} {kp10 : Nat} {Zp10 zp10 : List ((List ByteArray) × Hd)} (hwp10 : Vw vvp10 Zp10 1 kp10 p1_h0.v zp10) (hzp10 : zp10.map Prod.fst = p1.Stanzas) {r : Int} (h : zdv p1 = some r) : FnR Tryd.prog 70 [.agg #[.string p1.Title, p1_h0.v]] [roRow encN_T_string 1 vvp10 kp10 Zp10, rdOwn nestR_T_string Zp10] [] (fun _ : Unit => (zI r)) (fun _ => []) := by
 unfold zdv at h
 refine FnR.intro Tryd.func70 rfl Tryd.ntmps70 (by simp) ?_
 intro w0 K hrd
 obtain ⟨j1, hj1, h⟩ := zcc h
 refine zbf (β := Int) 2 rfl (fun b => j1 b = some r) (fun b => []) (fun b => [(3, zI b)]) (fun b => []) (fun cut => ?_) ?_
 ·
  refine zak (zae ?_)
  refine zfo rfl dc rfl (fun b1 => ?_)
  refine zai rfl dc rfl (zaj (zah (zak (zae (zai rfl dc rfl (zaj (zah (cut (zak (zae (zai rfl dc rfl (zaj (zah ?_)))))))))))))
  refine zaS ?_
  refine zbx (β := Nat × Int × Int) (fun b => za2 (fun _ _ => none) (zc6 p1 j1) b.1 b.2.1 b.2.2 = some r) (fun b => []) (fun b => [(1, zP b1), (3, zI b.2.1), (4, zI b.2.2)]) (fun b => [cells b1 [.string p1.Title, p1_h0.v] 56]) (fun b => b.1) (zbG, 0, 0) h rfl (zab rfl (zab rfl (zab rfl (zay)))) (zam [0] kr rfl) ?_
  rintro ⟨n5, n4, i3⟩ h
  cases n5 with
  | zero => exact zdy h
  | succ n5 =>
   obtain ⟨ag1, hag1⟩ : ∃ ag, ag = za2 (fun _ _ => none) (zc6 p1 j1) n5 := ⟨_, rfl⟩
   have h : zc6 p1 j1 ag1 n4 i3 = some r := by rw [hag1]; exact h
   unfold zc6 at h
   show TC _ _ _ _ _ ([]) _ _ [(1, zP b1), (3, zI n4), (4, zI i3)] [cells b1 [.string p1.Title, p1_h0.v] 56]
   refine zak (zak (zae (zaf rfl dc rfl (zan zdD rfl dc rfl (show _ = 1 from rfl) (zaM (k := 0) ze1 rfl dc rfl rfl rfl (zdm hzp10 hwp10 rfl dc rfl Tryd.underlying54 (zau rfl dc rfl rfl zbA (zaj (zah ?_)))))))))
   refine zaI rfl (fun hb1 => ?_) (fun hb1 => ?_)
   ·
    have h := zaT hb1 h
    refine zaK (zah (zak (zaS (zae (zaf rfl dc rfl (zan zdD rfl dc rfl (show _ = 1 from rfl) (zaM (k := 0) ze1 rfl dc rfl rfl rfl (zaf rfl dc rfl ?_))))))))
    obtain ⟨x1, hq1, h⟩ := zbN h
    obtain ⟨eh1, eq1⟩ := zd3 hzp10 hq1
    have hrd : Rd _ _ [roRow encN_T_string 1 vvp10 kp10 Zp10, rdOwn nestR_T_string Zp10, zfp encS 1 eh1 x1] := hrd.openEl (i := 1) (z := (x1, eh1)) rfl (Vw.get hwp10 eq1)
    obtain ⟨vv1, k1, L1, hV1, hrd⟩ := hrd.openSl (i := 2) rfl
    replace hrd : Rd _ _ [roRow encN_T_string 1 vvp10 kp10 Zp10, rdOwn nestR_T_string Zp10, zfp encS 1 eh1 x1, roRow encS 1 vv1 k1 L1] := hrd
    refine zbd hwp10 eq1 Tryd.underlying54 zez rfl dc rfl rfl rfl (zbm (n := kp10 + (i3 : Int).toNat) (j := 0) (i := 0) (q := (x1, eh1)) hrd rfl (by omega) ze8 rfl dc rfl (Vw.get hwp10 eq1) rfl rfl (zbt hV1 rfl dc rfl Tryd.underlying48 ?_))
    obtain ⟨hg1, h⟩ := zbW h
    refine zau rfl dc rfl rfl (za5 (r := n4 + (x1.length : Int)) (IntWalk.i64_in _ hg1)) (zai rfl dc rfl (zaj (zav (zah (zae (zaf rfl dc rfl ?_))))))
    obtain ⟨hg2, h⟩ := zbW h
    refine zau rfl dc rfl rfl (za5 (r := i3 + 1) (IntWalk.i64_in _ hg2)) (zai rfl dc rfl (zaj ?_))
    subst hag1
    exact za6 (n5, n4 + (x1.length : Int), i3 + 1) h (Nat.lt_succ_self _) rfl (zab rfl (zab rfl (zab rfl (zay)))) (zam [0] kr rfl)
   ·
    have h := zaU hb1 h
    refine zbl (zaC (zaC (zaN ?_)))
    exact zaJ n4 h rfl (zab rfl (zay)) Splits.nil
 ·
  rintro n1 h
  rw [hj1] at h
  show TC _ _ _ _ _ ([]) _ _ [(3, zI n1)] []
  refine zak (zae (zaf rfl dc rfl (zai rfl dc rfl (zaj (zah (zaQ ?_))))))
  cases h
  exact zaW (rs := [.tmp 2]) () (.inl rfl) Tryd.results70 (.cons (.tmp rfl) .nil) rfl Splits.nil
def zcE (p1 : Gref17_Poem) (i3 : Int) (j3 : ByteArray → Option ByteArray) (ag2 : ByteArray → Int → Option ByteArray) (s10 : ByteArray) (k4 : Int) : Option ByteArray :=
zaE (zdk p1.Stanzas i3) fun (x2 : List ByteArray) =>
zaO (decide ((k4 : Int) < (x2.length : Int))) (
zaE (zdk p1.Stanzas i3) fun (x3 : List ByteArray) =>
zaE (zdk x3 k4) fun (q2 : ByteArray) =>
grd (q2.size + (⟨#[10]⟩ : ByteArray).size ≤ 9223372036854775807) <|
grd (s10.size + (q2 ++ (⟨#[10]⟩ : ByteArray)).size ≤ 9223372036854775807) <|
grd (I64 (k4 + 1)) <|
ag2 (s10 ++ (q2 ++ (⟨#[10]⟩ : ByteArray))) (k4 + 1)
) (
j3 s10
)
def zb8 (p1 : Gref17_Poem) (j2 : ByteArray → Option ByteArray) (ag1 : ByteArray → Int → Option ByteArray) (s5 : ByteArray) (i3 : Int) : Option ByteArray :=
zaO (decide ((i3 : Int) < (p1.Stanzas.length : Int))) (
zbE (fun (j3 : ByteArray → Option ByteArray) =>
zbE (fun (j4 : ByteArray → Option ByteArray) =>
zaO (!decide (s5 = (⟨#[]⟩ : ByteArray))) (
grd (s5.size + (⟨#[10]⟩ : ByteArray).size ≤ 9223372036854775807) <|
j4 (s5 ++ (⟨#[10]⟩ : ByteArray))
) (
j4 s5
)
) (fun (s7 : ByteArray) =>
za2 (fun _ _ => none) (zcE p1 i3 j3) zbG s7 0
)
) (fun (s6 : ByteArray) =>
grd (I64 (i3 + 1)) <|
ag1 s6 (i3 + 1)
)
) (
j2 s5
)
def zcC (p1 : Gref17_Poem) : Option ByteArray :=
zbE (fun (j1 : ByteArray → Option ByteArray) =>
zaO (!decide (p1.Title = (⟨#[]⟩ : ByteArray))) (
grd ((⟨#[35, 32]⟩ : ByteArray).size + p1.Title.size ≤ 9223372036854775807) <|
grd (((⟨#[35, 32]⟩ : ByteArray) ++ p1.Title).size + (⟨#[10]⟩ : ByteArray).size ≤ 9223372036854775807) <|
j1 (((⟨#[35, 32]⟩ : ByteArray) ++ p1.Title) ++ (⟨#[10]⟩ : ByteArray))
) (
zaO (decide ((0 : Int) < (p1.Stanzas.length : Int))) (
zaE (zdk p1.Stanzas 0) fun (x1 : List ByteArray) =>
zaE (zdk x1 0) fun (q1 : ByteArray) =>
zaE (zdB q1) fun (r1 : Bool) =>
zaO (r1) (
grd ((⟨#[35, 32]⟩ : ByteArray).size + p1.Title.size ≤ 9223372036854775807) <|
grd (((⟨#[35, 32]⟩ : ByteArray) ++ p1.Title).size + (⟨#[10]⟩ : ByteArray).size ≤ 9223372036854775807) <|
j1 (((⟨#[35, 32]⟩ : ByteArray) ++ p1.Title) ++ (⟨#[10]⟩ : ByteArray))
) (
j1 (⟨#[]⟩ : ByteArray)
)
) (
j1 (⟨#[]⟩ : ByteArray)
)
)
) (fun (s1 : ByteArray) =>
zbE (fun (j2 : ByteArray → Option ByteArray) =>
za2 (fun _ _ => none) (zb8 p1 j2) zbG s1 0
) (fun (s2 : ByteArray) =>
some s2
)
)
theorem zes {p1 : Gref17_Poem} {p1_h0 : Hd} {vvp10 : Value} {kp10 : Nat} {Zp10 zp10 : List ((List ByteArray) × Hd)} (hwp10 : Vw vvp10 Zp10 1 kp10 p1_h0.v zp10) (hzp10 : zp10.map Prod.fst = p1.Stanzas) {r : ByteArray} (h : zcC p1 = some r) : FnR Tryd.prog 68 [.agg #[.string p1.Title, p1_h0.v]] [roRow encN_T_string 1 vvp10 kp10 Zp10, rdOwn nestR_T_string Zp10] [] (fun _ : Unit => (.string r)) (fun _ => []) := by
 unfold zcC at h
 refine FnR.intro Tryd.func68 rfl Tryd.ntmps68 (by simp) ?_
 intro w0 K hrd
 obtain ⟨j1, hj1, h⟩ := zcc h
 refine zbf (β := ByteArray × Nat) 2 rfl (fun b => j1 b.1 = some r) (fun b => []) (fun b => [(1, zP b.2), (3, .string b.1)]) (fun b => [cells b.2 [.string p1.Title, p1_h0.v] 56]) (fun cut => ?_) ?_
 ·
  refine zak (zae ?_)
  refine zfo rfl dc rfl (fun b2 => ?_)
  refine zai rfl dc rfl (zaj (zah (zak (zae (zai rfl dc rfl (zaj (zah (cut (zak (zae (zan zfS rfl dc rfl (show _ = 0 from rfl) (zaM (k := 0) zgN rfl dc rfl rfl rfl (zau rfl dc rfl rfl zcS ?_)))))))))))))
  refine zaf rfl dc rfl ?_
  refine za3 (s := 9) rfl (fun hb1 => ?_) (fun hb1 => ?_)
  ·
   have h := zaT hb1 h
   refine zal rfl dc (zal rfl dc (zal rfl dc (zal rfl dc (zal rfl dc (zal rfl dc (zal rfl dc (zal rfl dc (zal rfl dc (zal rfl dc (zal rfl dc (zal rfl dc (zal rfl dc (zaA (b := true) rfl dc rfl rfl ?_)))))))))))))
   refine zaj (zah (zbn rfl (zae (zan zfS rfl dc rfl (show _ = 0 from rfl) (zaM (k := 0) zgN rfl dc rfl rfl rfl ?_)))))
   obtain ⟨hg1, h⟩ := zbW h
   refine zau rfl dc rfl rfl (zdN hg1) ?_
   obtain ⟨hg2, h⟩ := zbW h
   refine zau rfl dc rfl rfl (zdN hg2) (zai rfl dc rfl (zaj ?_))
   exact zaJ (((⟨#[35, 32]⟩ : ByteArray) ++ p1.Title) ++ (⟨#[10]⟩ : ByteArray), b2) h rfl (zab rfl (zab rfl (zay))) (zam [0] kr rfl)
  ·
   have h := zaU hb1 h
   refine zan zdD rfl dc rfl (show _ = 1 from rfl) (zaM (k := 0) ze1 rfl dc rfl rfl rfl (zdm hzp10 hwp10 rfl dc rfl Tryd.underlying54 (zau rfl dc rfl rfl zdR (zaf rfl dc rfl ?_))))
   refine za3 (s := 14) rfl (fun hb2 => ?_) (fun hb2 => ?_)
   ·
    have h := zaT hb2 h
    refine zan zdD rfl dc rfl (show _ = 1 from rfl) (zaM (k := 0) ze1 rfl dc rfl rfl rfl ?_)
    obtain ⟨x1, hq1, h⟩ := zbN h
    obtain ⟨eh1, eq1⟩ := zd3 hzp10 hq1
    have hrd : Rd _ _ [roRow encN_T_string 1 vvp10 kp10 Zp10, rdOwn nestR_T_string Zp10, zfp encS 1 eh1 x1] := hrd.openEl (i := 1) (z := (x1, eh1)) rfl (Vw.get hwp10 eq1)
    obtain ⟨vv1, k1, L1, hV1, hrd⟩ := hrd.openSl (i := 2) rfl
    replace hrd : Rd _ _ [roRow encN_T_string 1 vvp10 kp10 Zp10, rdOwn nestR_T_string Zp10, zfp encS 1 eh1 x1, roRow encS 1 vv1 k1 L1] := hrd
    refine zbd hwp10 eq1 Tryd.underlying54 zez rfl dc rfl rfl rfl (zbm (n := kp10 + (0 : Int).toNat) (j := 0) (i := 0) (q := (x1, eh1)) hrd rfl (by omega) ze8 rfl dc rfl (Vw.get hwp10 eq1) rfl rfl ?_)
    obtain ⟨q1, hq2, h⟩ := zbN h
    refine zbd hV1 hq2 Tryd.underlying48 zk9 rfl dc rfl rfl rfl (zbm (n := k1 + (0 : Int).toNat) (j := 0) (i := 3) (q := q1) hrd rfl (by omega) zgN rfl dc rfl (Vw.get hV1 hq2) rfl rfl ?_)
    obtain ⟨r1, hq3, h⟩ := zbN h
    refine zbs (v := .bool r1) (vs := [.string q1]) rfl dc rfl rfl rfl zos (zfM hq3) (zaA (b := true) rfl dc rfl rfl (zaA (b := false) rfl dc rfl rfl (zaj (zah ?_))))
    refine zaI rfl (fun hb3 => ?_) (fun hb3 => ?_)
    ·
     have h := zaT hb3 h
     refine zae (zan zfS rfl dc rfl (show _ = 0 from rfl) (zaM (k := 0) zgN rfl dc rfl rfl rfl ?_))
     obtain ⟨hg3, h⟩ := zbW h
     refine zau rfl dc rfl rfl (zdN hg3) ?_
     obtain ⟨hg4, h⟩ := zbW h
     refine zau rfl dc rfl rfl (zdN hg4) (zai rfl dc rfl (zaj ?_))
     exact zaJ (((⟨#[35, 32]⟩ : ByteArray) ++ p1.Title) ++ (⟨#[10]⟩ : ByteArray), b2) h rfl (zab rfl (zab rfl (zay))) (zam [0] kr rfl)
    ·
     have h := zaU hb3 h
     refine zaK ?_
     exact zaJ ((⟨#[]⟩ : ByteArray), b2) h rfl (zab rfl (zab rfl (zay))) (zam [0] kr rfl)
   ·
    have h := zaU hb2 h
    refine zal rfl dc (zal rfl dc (zal rfl dc (zal rfl dc (zal rfl dc (zal rfl dc (zal rfl dc (zaA (b := false) rfl dc rfl rfl (zaA (b := false) rfl dc rfl rfl (zaj (zah (zbj rfl (zaK ?_))))))))))))
    exact zaJ ((⟨#[]⟩ : ByteArray), b2) h rfl (zab rfl (zab rfl (zay))) (zam [0] kr rfl)
 ·
  rintro ⟨s1, b1⟩ h
  rw [hj1] at h
  show TC _ _ _ _ _ ([]) _ _ [(1, zP b1), (3, .string s1)] [cells b1 [.string p1.Title, p1_h0.v] 56]
  obtain ⟨j2, hj2, h⟩ := zcc h
  refine zbf (β := ByteArray) 0 rfl (fun b => j2 b = some r) (fun b => []) (fun b => [(3, .string b)]) (fun b => []) (fun cut => ?_) ?_
  ·
   refine cut (zak (zae (zai rfl dc rfl (zaj (zah (zaS ?_))))))
   refine zbx (β := Nat × ByteArray × Int) (fun b => za2 (fun _ _ => none) (zb8 p1 j2) b.1 b.2.1 b.2.2 = some r) (fun b => []) (fun b => [(1, zP b1), (3, .string b.2.1), (4, zI b.2.2)]) (fun b => [cells b1 [.string p1.Title, p1_h0.v] 56]) (fun b => b.1) (zbG, s1, 0) h rfl (zab rfl (zab rfl (zab rfl (zay)))) (zam [0] kr rfl) ?_
   rintro ⟨n1, s5, i3⟩ h
   cases n1 with
   | zero => exact zdy h
   | succ n1 =>
    obtain ⟨ag1, hag1⟩ : ∃ ag, ag = za2 (fun _ _ => none) (zb8 p1 j2) n1 := ⟨_, rfl⟩
    have h : zb8 p1 j2 ag1 s5 i3 = some r := by rw [hag1]; exact h
    unfold zb8 at h
    show TC _ _ _ _ _ ([]) _ _ [(1, zP b1), (3, .string s5), (4, zI i3)] [cells b1 [.string p1.Title, p1_h0.v] 56]
    refine zak (zak (zae (zaf rfl dc rfl (zan zdD rfl dc rfl (show _ = 1 from rfl) (zaM (k := 0) ze1 rfl dc rfl rfl rfl (zdm hzp10 hwp10 rfl dc rfl Tryd.underlying54 (zau rfl dc rfl rfl zbA (zaj (zah ?_)))))))))
    refine zaI rfl (fun hb4 => ?_) (fun hb4 => ?_)
    ·
     have h := zaT hb4 h
     refine zaK (zah ?_)
     obtain ⟨j3, hj3, h⟩ := zcc h
     refine zbf (β := ByteArray) 0 rfl (fun b => j3 b = some r) (fun b => []) (fun b => [(1, zP b1), (3, .string b), (4, zI i3)]) (fun b => [cells b1 [.string p1.Title, p1_h0.v] 56]) (fun cut => ?_) ?_
     ·
      refine cut (zaS ?_)
      obtain ⟨j4, hj4, h⟩ := zcc h
      refine zbf (β := ByteArray) 0 rfl (fun b => j4 b = some r) (fun b => []) (fun b => [(1, zP b1), (3, .string b), (4, zI i3)]) (fun b => [cells b1 [.string p1.Title, p1_h0.v] 56]) (fun cut => ?_) ?_
      ·
       refine cut (zak (zae (zaf rfl dc rfl (zau rfl dc rfl rfl zcS (zaj (zah ?_))))))
       refine zaI rfl (fun hb5 => ?_) (fun hb5 => ?_)
       ·
        have h := zaT hb5 h
        refine zae (zaf rfl dc rfl ?_)
        obtain ⟨hg5, h⟩ := zbW h
        refine zau rfl dc rfl rfl (zdN hg5) (zai rfl dc rfl (zaj ?_))
        exact zaJ (s5 ++ (⟨#[10]⟩ : ByteArray)) h rfl (zab rfl (zab rfl (zab rfl (zay)))) (zam [0] kr rfl)
       ·
        have h := zaU hb5 h
        refine zaK ?_
        exact zaJ s5 h rfl (zab rfl (zab rfl (zab rfl (zay)))) (zam [0] kr rfl)
      ·
       rintro s7 h
       rw [hj4] at h
       show TC _ _ _ _ _ ([]) _ _ [(1, zP b1), (3, .string s7), (4, zI i3)] [cells b1 [.string p1.Title, p1_h0.v] 56]
       refine zak (zae (zai rfl dc rfl (zaj (zah (zaS ?_)))))
       refine zbx (β := Nat × ByteArray × Int) (fun b => za2 (fun _ _ => none) (zcE p1 i3 j3) b.1 b.2.1 b.2.2 = some r) (fun b => []) (fun b => [(1, zP b1), (3, .string b.2.1), (4, zI i3), (5, zI b.2.2)]) (fun b => [cells b1 [.string p1.Title, p1_h0.v] 56]) (fun b => b.1) (zbG, s7, 0) h rfl (zab rfl (zab rfl (zab rfl (zab rfl (zay))))) (zam [0] kr rfl) ?_
       rintro ⟨n2, s10, k4⟩ h
       cases n2 with
       | zero => exact zdy h
       | succ n2 =>
        obtain ⟨ag2, hag2⟩ : ∃ ag, ag = za2 (fun _ _ => none) (zcE p1 i3 j3) n2 := ⟨_, rfl⟩
        have h : zcE p1 i3 j3 ag2 s10 k4 = some r := by rw [hag2]; exact h
        unfold zcE at h
        show TC _ _ _ _ _ ([]) _ _ [(1, zP b1), (3, .string s10), (4, zI i3), (5, zI k4)] [cells b1 [.string p1.Title, p1_h0.v] 56]
        refine zak (zak (zae (zaf rfl dc rfl (zan zdD rfl dc rfl (show _ = 1 from rfl) (zaM (k := 0) ze1 rfl dc rfl rfl rfl (zaf rfl dc rfl ?_))))))
        obtain ⟨x2, hq4, h⟩ := zbN h
        obtain ⟨eh2, eq2⟩ := zd3 hzp10 hq4
        have hrd : Rd _ _ [roRow encN_T_string 1 vvp10 kp10 Zp10, rdOwn nestR_T_string Zp10, zfp encS 1 eh2 x2] := hrd.openEl (i := 1) (z := (x2, eh2)) rfl (Vw.get hwp10 eq2)
        obtain ⟨vv2, k5, L2, hV2, hrd⟩ := hrd.openSl (i := 2) rfl
        replace hrd : Rd _ _ [roRow encN_T_string 1 vvp10 kp10 Zp10, rdOwn nestR_T_string Zp10, zfp encS 1 eh2 x2, roRow encS 1 vv2 k5 L2] := hrd
        refine zbd hwp10 eq2 Tryd.underlying54 zez rfl dc rfl rfl rfl (zbm (n := kp10 + (i3 : Int).toNat) (j := 0) (i := 0) (q := (x2, eh2)) hrd rfl (by omega) ze8 rfl dc rfl (Vw.get hwp10 eq2) rfl rfl (zbt hV2 rfl dc rfl Tryd.underlying48 (zau rfl dc rfl rfl zbA (zaj (zah ?_)))))
        refine zaI rfl (fun hb6 => ?_) (fun hb6 => ?_)
        ·
         have h := zaT hb6 h
         refine zaK (zah (zak (zaS (zae (zaf rfl dc rfl (zan zdD rfl dc rfl (show _ = 1 from rfl) (zaM (k := 0) ze1 rfl dc rfl rfl rfl (zaf rfl dc rfl ?_))))))))
         obtain ⟨x3, hq5, h⟩ := zbN h
         obtain ⟨eh3, eq3⟩ := zd3 hzp10 hq5
         have hrd : Rd _ _ [roRow encN_T_string 1 vvp10 kp10 Zp10, rdOwn nestR_T_string Zp10, zfp encS 1 eh2 x2, roRow encS 1 vv2 k5 L2, zfp encS 1 eh3 x3] := hrd.openEl (i := 1) (z := (x3, eh3)) rfl (Vw.get hwp10 eq3)
         obtain ⟨vv3, k6, L3, hV3, hrd⟩ := hrd.openSl (i := 4) rfl
         replace hrd : Rd _ _ [roRow encN_T_string 1 vvp10 kp10 Zp10, rdOwn nestR_T_string Zp10, zfp encS 1 eh2 x2, roRow encS 1 vv2 k5 L2, zfp encS 1 eh3 x3, roRow encS 1 vv3 k6 L3] := hrd
         refine zbd hwp10 eq3 Tryd.underlying54 zez rfl dc rfl rfl rfl (zbm (n := kp10 + (i3 : Int).toNat) (j := 0) (i := 0) (q := (x3, eh3)) hrd rfl (by omega) ze8 rfl dc rfl (Vw.get hwp10 eq3) rfl rfl (zaf rfl dc rfl ?_))
         obtain ⟨q2, hq6, h⟩ := zbN h
         refine zbd hV3 hq6 Tryd.underlying48 zk9 rfl dc rfl rfl rfl (zbm (n := k6 + (k4 : Int).toNat) (j := 0) (i := 5) (q := q2) hrd rfl (by omega) zgN rfl dc rfl (Vw.get hV3 hq6) rfl rfl ?_)
         obtain ⟨hg6, h⟩ := zbW h
         refine zau rfl dc rfl rfl (zdN hg6) ?_
         obtain ⟨hg7, h⟩ := zbW h
         refine zau rfl dc rfl rfl (zdN hg7) (zai rfl dc rfl (zaj (zav (zah (zae (zaf rfl dc rfl ?_))))))
         obtain ⟨hg8, h⟩ := zbW h
         refine zau rfl dc rfl rfl (za5 (r := k4 + 1) (IntWalk.i64_in _ hg8)) (zai rfl dc rfl (zaj ?_))
         subst hag2
         exact za6 (n2, s10 ++ (q2 ++ (⟨#[10]⟩ : ByteArray)), k4 + 1) h (Nat.lt_succ_self _) rfl (zab rfl (zab rfl (zab rfl (zab rfl (zay))))) (zam [0] kr rfl)
        ·
         have h := zaU hb6 h
         refine zbl (zaC (zaC (zaN (zav ?_))))
         exact zaJ s10 h rfl (zab rfl (zab rfl (zab rfl (zay)))) (zam [0] kr rfl)
     ·
      rintro s6 h
      rw [hj3] at h
      show TC _ _ _ _ _ ([]) _ _ [(1, zP b1), (3, .string s6), (4, zI i3)] [cells b1 [.string p1.Title, p1_h0.v] 56]
      refine zae (zaf rfl dc rfl ?_)
      obtain ⟨hg9, h⟩ := zbW h
      refine zau rfl dc rfl rfl (za5 (r := i3 + 1) (IntWalk.i64_in _ hg9)) (zai rfl dc rfl (zaj ?_))
      subst hag1
      exact za6 (n1, s6, i3 + 1) h (Nat.lt_succ_self _) rfl (zab rfl (zab rfl (zab rfl (zay)))) (zam [0] kr rfl)
    ·
     have h := zaU hb4 h
     refine zbl (zaC (zaC (zaN ?_)))
     exact zaJ s5 h rfl (zab rfl (zay)) Splits.nil
  ·
   rintro s2 h
   rw [hj2] at h
   show TC _ _ _ _ _ ([]) _ _ [(3, .string s2)] []
   refine zak (zae (zaf rfl dc rfl (zai rfl dc rfl (zaj (zah (zaQ ?_))))))
   cases h
   exact zaW (rs := [.tmp 2]) () (.inl rfl) Tryd.results68 (.cons (.tmp rfl) .nil) rfl Splits.nil
def zcW (stanzas1 : List (List ByteArray)) (i3 : Int) (j2 : Option Int) (ag2 : Int → Option Int) (k4 : Int) : Option Int :=
zaE (zdk stanzas1 i3) fun (x2 : List ByteArray) =>
zaO (decide ((k4 : Int) < (x2.length : Int))) (
zaE (zdk stanzas1 i3) fun (x3 : List ByteArray) =>
zaE (zdk x3 k4) fun (q1 : ByteArray) =>
zaE (zeS q1) fun (r2 : Bool) =>
zaO (!r2) (
some 170
) (
grd (I64 (k4 + 1)) <|
ag2 (k4 + 1)
)
) (
j2
)
def zcD (stanzas1 : List (List ByteArray)) (j1 : Option Int) (ag1 : Int → Option Int) (i3 : Int) : Option Int :=
zaO (decide ((i3 : Int) < (stanzas1.length : Int))) (
zbE (fun (j2 : Option Int) =>
zaE (zdk stanzas1 i3) fun (x1 : List ByteArray) =>
zaO (((x1.length : Int) : Int) == 0) (
some 170
) (
za2 (fun _ => none) (zcW stanzas1 i3 j2) zbG 0
)
) (
grd (I64 (i3 + 1)) <|
ag1 (i3 + 1)
)
) (
j1
)
def zd0 (t1 : ByteArray) (stanzas1 : List (List ByteArray)) : Option Int :=
zaE (zd8 t1) fun (r1 : Bool) =>
zaO (!r1) (
some 170
) (
zbE (fun (j1 : Option Int) =>
za2 (fun _ => none) (zcD stanzas1 j1) zbG 0
) (
zaE (zdv (⟨t1, stanzas1⟩ : Gref17_Poem)) fun (r3 : Int) =>
zaO (decide ((512 : Int) < r3)) (
some 3
) (
zaE (zcC (⟨t1, stanzas1⟩ : Gref17_Poem)) fun (r4 : ByteArray) =>
zaO (decide ((65536 : Int) < (r4.size : Int))) (
some 3
) (
some 0
)
)
)
)
theorem ziV {t1 : ByteArray} {vvstanzas1 : Value} {vstanzas1 : Hd} {Zstanzas1 : List ((List ByteArray) × Hd)} {kstanzas1 : Nat} {zstanzas1 : List ((List ByteArray) × Hd)} {stanzas1 : List (List ByteArray)} (hwstanzas1 : Vw vvstanzas1 Zstanzas1 1 kstanzas1 vstanzas1.v zstanzas1) (hzstanzas1 : zstanzas1.map Prod.fst = stanzas1) {r : Int} (h : zd0 t1 stanzas1 = some r) : FnR Tryd.prog 41 [.string t1, vstanzas1.v] [roRow encN_T_string 1 vvstanzas1 kstanzas1 Zstanzas1, rdOwn nestR_T_string Zstanzas1] [] (fun _ : Unit => (zI r)) (fun _ => []) := by
 unfold zd0 at h
 refine FnR.intro Tryd.func41 rfl Tryd.ntmps41 (by simp) ?_
 intro w0 K hrd
 refine zak (zae (zai rfl dc rfl (zaj (zah (zak (zak (zae (zaf rfl dc rfl ?_))))))))
 obtain ⟨r1, hq1, h⟩ := zbN h
 refine zbs (v := .bool r1) (vs := [.string t1]) rfl dc rfl rfl rfl zpi (zih hq1) (zf7 rfl dc rfl zeE (zaj (zah ?_)))
 refine zaI rfl (fun hb1 => ?_) (fun hb1 => ?_)
 ·
  have h := zaT hb1 h
  refine zak (zae (zai rfl dc rfl (zaj (zah (zaQ (zas ?_))))))
  cases h
  exact zaW (rs := [.tmp 4]) () (.inl rfl) Tryd.results41 (.cons (.tmp rfl) .nil) rfl Splits.nil
 ·
  have h := zaU hb1 h
  refine zaK (zah ?_)
  obtain ⟨j1, hj1, h⟩ := zcc h
  refine zbf (β := Unit) 0 rfl (fun b => j1 = some r) (fun b => []) (fun b => [(0, .string t1), (1, vstanzas1.v)]) (fun b => []) (fun cut => ?_) ?_
  ·
   refine cut (zak (zae (zai rfl dc rfl (zaj (zah (zaS ?_))))))
   refine zbx (β := Nat × Int) (fun b => za2 (fun _ => none) (zcD stanzas1 j1) b.1 b.2 = some r) (fun b => []) (fun b => [(0, .string t1), (1, vstanzas1.v), (5, zI b.2)]) (fun b => []) (fun b => b.1) (zbG, 0) h rfl (zab rfl (zab rfl (zab rfl (zay)))) Splits.nil ?_
   rintro ⟨n1, i3⟩ h
   cases n1 with
   | zero => exact zdy h
   | succ n1 =>
    obtain ⟨ag1, hag1⟩ : ∃ ag, ag = za2 (fun _ => none) (zcD stanzas1 j1) n1 := ⟨_, rfl⟩
    have h : zcD stanzas1 j1 ag1 i3 = some r := by rw [hag1]; exact h
    unfold zcD at h
    show TC _ _ _ _ _ ([]) _ _ [(0, .string t1), (1, vstanzas1.v), (5, zI i3)] []
    refine zak (zak (zae (zaf rfl dc rfl (zaf rfl dc rfl (zdm hzstanzas1 hwstanzas1 rfl dc rfl Tryd.underlying54 (zau rfl dc rfl rfl zbA (zaj (zah ?_))))))))
    refine zaI rfl (fun hb2 => ?_) (fun hb2 => ?_)
    ·
     have h := zaT hb2 h
     refine zaK (zah ?_)
     obtain ⟨j2, hj2, h⟩ := zcc h
     refine zbf (β := Unit) 0 rfl (fun b => j2 = some r) (fun b => []) (fun b => [(0, .string t1), (1, vstanzas1.v), (5, zI i3)]) (fun b => []) (fun cut => ?_) ?_
     ·
      refine cut (zaS (zak (zak (zae (zaf rfl dc rfl (zaf rfl dc rfl ?_))))))
      obtain ⟨x1, hq2, h⟩ := zbN h
      obtain ⟨eh1, eq1⟩ := zd3 hzstanzas1 hq2
      have hrd : Rd _ _ [roRow encN_T_string 1 vvstanzas1 kstanzas1 Zstanzas1, rdOwn nestR_T_string Zstanzas1, zfp encS 1 eh1 x1] := hrd.openEl (i := 1) (z := (x1, eh1)) rfl (Vw.get hwstanzas1 eq1)
      obtain ⟨vv1, k1, L1, hV1, hrd⟩ := hrd.openSl (i := 2) rfl
      replace hrd : Rd _ _ [roRow encN_T_string 1 vvstanzas1 kstanzas1 Zstanzas1, rdOwn nestR_T_string Zstanzas1, zfp encS 1 eh1 x1, roRow encS 1 vv1 k1 L1] := hrd
      refine zbd hwstanzas1 eq1 Tryd.underlying54 zez rfl dc rfl rfl rfl (zbm (n := kstanzas1 + (i3 : Int).toNat) (j := 0) (i := 0) (q := (x1, eh1)) hrd rfl (by omega) ze8 rfl dc rfl (Vw.get hwstanzas1 eq1) rfl rfl (zbt hV1 rfl dc rfl Tryd.underlying48 (zau rfl dc rfl rfl zbF (zaj (zah ?_)))))
      refine zaI rfl (fun hb3 => ?_) (fun hb3 => ?_)
      ·
       have h := zaT hb3 h
       refine zak (zae (zai rfl dc rfl (zaj (zah (zaQ (zas (zaw (zas (zas (zaw (zas ?_)))))))))))
       cases h
       exact zaW (rs := [.tmp 4]) () (.inl rfl) Tryd.results41 (.cons (.tmp rfl) .nil) rfl Splits.nil
      ·
       have h := zaU hb3 h
       refine zaK (zah (zak (zae (zai rfl dc rfl (zaj (zah (zaS ?_)))))))
       refine zbx (β := Nat × Int) (fun b => za2 (fun _ => none) (zcW stanzas1 i3 j2) b.1 b.2 = some r) (fun b => []) (fun b => [(0, .string t1), (1, vstanzas1.v), (5, zI i3), (6, zI b.2)]) (fun b => []) (fun b => b.1) (zbG, 0) h rfl (zab rfl (zab rfl (zab rfl (zab rfl (zay))))) Splits.nil ?_
       rintro ⟨n2, k4⟩ h
       cases n2 with
       | zero => exact zdy h
       | succ n2 =>
        obtain ⟨ag2, hag2⟩ : ∃ ag, ag = za2 (fun _ => none) (zcW stanzas1 i3 j2) n2 := ⟨_, rfl⟩
        have h : zcW stanzas1 i3 j2 ag2 k4 = some r := by rw [hag2]; exact h
        unfold zcW at h
        show TC _ _ _ _ _ ([]) _ _ [(0, .string t1), (1, vstanzas1.v), (5, zI i3), (6, zI k4)] []
        refine zak (zak (zae (zaf rfl dc rfl (zaf rfl dc rfl (zaf rfl dc rfl ?_)))))
        obtain ⟨x2, hq3, h⟩ := zbN h
        obtain ⟨eh2, eq2⟩ := zd3 hzstanzas1 hq3
        have hrd : Rd _ _ [roRow encN_T_string 1 vvstanzas1 kstanzas1 Zstanzas1, rdOwn nestR_T_string Zstanzas1, zfp encS 1 eh1 x1, roRow encS 1 vv1 k1 L1, zfp encS 1 eh2 x2] := hrd.openEl (i := 1) (z := (x2, eh2)) rfl (Vw.get hwstanzas1 eq2)
        obtain ⟨vv2, k5, L2, hV2, hrd⟩ := hrd.openSl (i := 4) rfl
        replace hrd : Rd _ _ [roRow encN_T_string 1 vvstanzas1 kstanzas1 Zstanzas1, rdOwn nestR_T_string Zstanzas1, zfp encS 1 eh1 x1, roRow encS 1 vv1 k1 L1, zfp encS 1 eh2 x2, roRow encS 1 vv2 k5 L2] := hrd
        refine zbd hwstanzas1 eq2 Tryd.underlying54 zez rfl dc rfl rfl rfl (zbm (n := kstanzas1 + (i3 : Int).toNat) (j := 0) (i := 0) (q := (x2, eh2)) hrd rfl (by omega) ze8 rfl dc rfl (Vw.get hwstanzas1 eq2) rfl rfl (zbt hV2 rfl dc rfl Tryd.underlying48 (zau rfl dc rfl rfl zbA (zaj (zah ?_)))))
        refine zaI rfl (fun hb4 => ?_) (fun hb4 => ?_)
        ·
         have h := zaT hb4 h
         refine zaK (zah (zak (zaS (zak (zae (zaf rfl dc rfl (zaf rfl dc rfl ?_)))))))
         obtain ⟨x3, hq4, h⟩ := zbN h
         obtain ⟨eh3, eq3⟩ := zd3 hzstanzas1 hq4
         have hrd : Rd _ _ [roRow encN_T_string 1 vvstanzas1 kstanzas1 Zstanzas1, rdOwn nestR_T_string Zstanzas1, zfp encS 1 eh1 x1, roRow encS 1 vv1 k1 L1, zfp encS 1 eh2 x2, roRow encS 1 vv2 k5 L2, zfp encS 1 eh3 x3] := hrd.openEl (i := 1) (z := (x3, eh3)) rfl (Vw.get hwstanzas1 eq3)
         obtain ⟨vv3, k6, L3, hV3, hrd⟩ := hrd.openSl (i := 6) rfl
         replace hrd : Rd _ _ [roRow encN_T_string 1 vvstanzas1 kstanzas1 Zstanzas1, rdOwn nestR_T_string Zstanzas1, zfp encS 1 eh1 x1, roRow encS 1 vv1 k1 L1, zfp encS 1 eh2 x2, roRow encS 1 vv2 k5 L2, zfp encS 1 eh3 x3, roRow encS 1 vv3 k6 L3] := hrd
         refine zbd hwstanzas1 eq3 Tryd.underlying54 zez rfl dc rfl rfl rfl (zbm (n := kstanzas1 + (i3 : Int).toNat) (j := 0) (i := 0) (q := (x3, eh3)) hrd rfl (by omega) ze8 rfl dc rfl (Vw.get hwstanzas1 eq3) rfl rfl (zaf rfl dc rfl ?_))
         obtain ⟨q1, hq5, h⟩ := zbN h
         refine zbd hV3 hq5 Tryd.underlying48 zk9 rfl dc rfl rfl rfl (zbm (n := k6 + (k4 : Int).toNat) (j := 0) (i := 7) (q := q1) hrd rfl (by omega) zgN rfl dc rfl (Vw.get hV3 hq5) rfl rfl ?_)
         obtain ⟨r2, hq6, h⟩ := zbN h
         refine zbs (v := .bool r2) (vs := [.string q1]) rfl dc rfl rfl rfl zpk (zjw hq6) (zf7 rfl dc rfl zeE (zaj (zah ?_)))
         refine zaI rfl (fun hb5 => ?_) (fun hb5 => ?_)
         ·
          have h := zaT hb5 h
          refine zak (zae (zai rfl dc rfl (zaj (zah (zaQ (zaw (zas (zas (zaw (zaw (zas (zas (zaw ?_)))))))))))))
          refine zas ?_
          cases h
          exact zaW (rs := [.tmp 4]) () (.inl rfl) Tryd.results41 (.cons (.tmp rfl) .nil) rfl Splits.nil
         ·
          have h := zaU hb5 h
          refine zaK (zav (zah (zae (zaf rfl dc rfl ?_))))
          obtain ⟨hg1, h⟩ := zbW h
          refine zau rfl dc rfl rfl (za5 (r := k4 + 1) (IntWalk.i64_in _ hg1)) (zai rfl dc rfl (zaj ?_))
          subst hag2
          exact za6 (n2, k4 + 1) h (Nat.lt_succ_self _) rfl (zab rfl (zab rfl (zab rfl (zab rfl (zay))))) Splits.nil
        ·
         have h := zaU hb4 h
         refine zbl (zaC (zaC (zaN (zav ?_))))
         exact zaJ () h rfl (zab rfl (zab rfl (zab rfl (zay)))) Splits.nil
     ·
      rintro _ h
      rw [hj2] at h
      show TC _ _ _ _ _ ([]) _ _ [(0, .string t1), (1, vstanzas1.v), (5, zI i3)] []
      refine zae (zaf rfl dc rfl ?_)
      obtain ⟨hg2, h⟩ := zbW h
      refine zau rfl dc rfl rfl (za5 (r := i3 + 1) (IntWalk.i64_in _ hg2)) (zai rfl dc rfl (zaj ?_))
      subst hag1
      exact za6 (n1, i3 + 1) h (Nat.lt_succ_self _) rfl (zab rfl (zab rfl (zab rfl (zay)))) Splits.nil
    ·
     have h := zaU hb2 h
     refine zbl (zaC (zaC (zaN ?_)))
     exact zaJ () h rfl (zab rfl (zab rfl (zay))) Splits.nil
  ·
   rintro _ h
   rw [hj1] at h
   show TC _ _ _ _ _ ([]) _ _ [(0, .string t1), (1, vstanzas1.v)] []
   refine zak (zae (zaf rfl dc rfl (zaf rfl dc rfl ?_)))
   refine zbi (v := .agg #[.string t1, vstanzas1.v]) (ps := [(0, .tmp 41), (1, .tmp 42)]) rfl dc rfl (fun _ => by kernel_rfl) ?_
   refine zbv zlJ rfl dc (fun b1 => ?_)
   refine za4 (k := 0) (vs := [.string t1, vstanzas1.v]) (l' := [.string t1, vstanzas1.v]) zke rfl rfl rfl rfl rfl (show _ ≤ _ by simp) rfl rfl ?_
   show TO _ _ _ _ _ _ _ _ _ _ [cells b1 [.string t1, vstanzas1.v] 56]
   refine zaj (zah (zak (zak (zae (zcj (k := 0) (cs := [.string t1, vstanzas1.v]) zgO rfl dc rfl rfl rfl rfl ?_)))))
   obtain ⟨r3, hq7, h⟩ := zbN h
   refine zbe (v := zI r3) (vs := [.agg #[.string t1, vstanzas1.v]]) hrd rfl dc rfl rfl rfl zpj (zij (p1_h0 := vstanzas1) (p1 := (⟨t1, stanzas1⟩ : Gref17_Poem)) hwstanzas1 hzstanzas1 hq7) (.ro 0 rfl (.ro 1 rfl .nil)) (zau rfl dc rfl rfl zdR (zaf rfl dc rfl ?_))
   refine za3 (s := 47) rfl (fun hb6 => ?_) (fun hb6 => ?_)
   ·
    have h := zaT hb6 h
    refine zal rfl dc (zal rfl dc (zal rfl dc (zal rfl dc (zaA (b := true) rfl dc rfl rfl (zaj (zah (zbn rfl (zak (zae (zai rfl dc rfl (zaj (zah (zaQ ?_)))))))))))))
    refine zas ?_
    cases h
    exact zaW (rs := [.tmp 4]) () (.inl rfl) Tryd.results41 (.cons (.tmp rfl) .nil) rfl Splits.nil
   ·
    have h := zaU hb6 h
    refine zcj (k := 0) (cs := [.string t1, vstanzas1.v]) zgO rfl dc rfl rfl rfl rfl ?_
    obtain ⟨r4, hq8, h⟩ := zbN h
    refine zbe (v := .string r4) (vs := [.agg #[.string t1, vstanzas1.v]]) hrd rfl dc rfl rfl rfl zm4 (zes (p1_h0 := vstanzas1) (p1 := (⟨t1, stanzas1⟩ : Gref17_Poem)) hwstanzas1 hzstanzas1 hq8) (.ro 0 rfl (.ro 1 rfl .nil)) (zbp rfl dc rfl Tryd.underlying9 (zau rfl dc rfl rfl zdR (zaA (b := false) rfl dc rfl rfl (zaj (zah ?_)))))
    refine zaI rfl (fun hb7 => ?_) (fun hb7 => ?_)
    ·
     have h := zaT hb7 h
     refine zak (zae (zai rfl dc rfl (zaj (zah (zaQ (zas ?_))))))
     cases h
     exact zaW (rs := [.tmp 4]) () (.inl rfl) Tryd.results41 (.cons (.tmp rfl) .nil) rfl Splits.nil
    ·
     have h := zaU hb7 h
     refine zaK (zah (zak (zae (zai rfl dc rfl (zaj (zah (zaQ ?_)))))))
     cases h
     exact zaW (rs := [.tmp 4]) () (.inl rfl) Tryd.results41 (.cons (.tmp rfl) .nil) rfl Splits.nil
def zcs (s1 : ByteArray) (j1 : ByteArray → (List (List ByteArray)) → (List Gapi_Verse) → Option (Gref17_Poem × (List Gapi_Verse) × Gapi_Spot)) (r1 : (List Gapi_Span)) (ag1 : ByteArray → (List (List ByteArray)) → (List Gapi_Verse) → Bool → Bool → Int → Option (Gref17_Poem × (List Gapi_Verse) × Gapi_Spot)) (p10 : ByteArray) (p11 : List (List ByteArray)) (l4 : List Gapi_Verse) (first3 : Bool) (row3 : Bool) (i3 : Int) : Option (Gref17_Poem × (List Gapi_Verse) × Gapi_Spot) :=
zaO (decide ((i3 : Int) < (r1.length : Int))) (
zbE (fun (j2 : ByteArray → (List (List ByteArray)) → (List Gapi_Verse) → Bool → Bool → Option (Gref17_Poem × (List Gapi_Verse) × Gapi_Spot)) =>
zaE (zdk r1 i3) fun (q1 : Gapi_Span) =>
grd (0 ≤ (q1.From : Int) ∧ (q1.From : Int) ≤ q1.To ∧ (q1.To : Int) ≤ (s1.size : Int)) <|
zaE (zcX (zbc s1 q1.From q1.To)) fun (r2 : Bool) =>
zaO (r2) (
j2 p10 p11 l4 first3 false
) (
zaO (decide ((1024 : Int) < ((zbc s1 q1.From q1.To).size : Int))) (
grd (I64 (q1.From + 1024)) <|
some ((⟨ByteArray.empty, ([] : List (List ByteArray))⟩ : Gref17_Poem), ([] : List Gapi_Verse), (⟨3, q1.From + 1024⟩ : Gapi_Spot))
) (
zbE (fun (j3 : Option (Gref17_Poem × (List Gapi_Verse) × Gapi_Spot)) =>
zaO (first3) (
zaE (zdB (zbc s1 q1.From q1.To)) fun (r3 : Bool) =>
zaO (r3) (
zbE (fun (j4 : ByteArray → Option (Gref17_Poem × (List Gapi_Verse) × Gapi_Spot)) =>
zaO (decide ((2 : Int) < ((zbc s1 q1.From q1.To).size : Int))) (
grd (0 ≤ (2 : Int) ∧ (2 : Int) ≤ ((zbc s1 q1.From q1.To).size : Int) ∧ (((zbc s1 q1.From q1.To).size : Int) : Int) ≤ ((zbc s1 q1.From q1.To).size : Int)) <|
j4 (zbc (zbc s1 q1.From q1.To) 2 ((zbc s1 q1.From q1.To).size : Int))
) (
j4 p10
)
) (fun (p14 : ByteArray) =>
j2 p14 p11 l4 false row3
)
) (
j3
)
) (
j3
)
) (
zaO (((l4.length : Int) : Int) == 512) (
some ((⟨ByteArray.empty, ([] : List (List ByteArray))⟩ : Gref17_Poem), ([] : List Gapi_Verse), (⟨3, q1.From⟩ : Gapi_Spot))
) (
zbE (fun (j5 : (List (List ByteArray)) → Option (Gref17_Poem × (List Gapi_Verse) × Gapi_Spot)) =>
zaO (!row3) (
grd (p11.length + 1 ≤ 2147483648) <|
j5 (p11 ++ [([] : List ByteArray)])
) (
j5 p11
)
) (fun (p15 : List (List ByteArray)) =>
grd (I64 ((p15.length : Int) - 1)) <|
zaE (zbJ (zbc s1 q1.From q1.To)) fun (r4 : Int) =>
grd (0 ≤ (r4 : Int) ∧ (r4 : Int) ≤ ((zbc s1 q1.From q1.To).size : Int) ∧ (((zbc s1 q1.From q1.To).size : Int) : Int) ≤ ((zbc s1 q1.From q1.To).size : Int)) <|
zaE (zbJ (zbc s1 q1.From q1.To)) fun (r5 : Int) =>
zaE (zdk p15 ((p15.length : Int) - 1)) fun (x1 : List ByteArray) =>
zaE (zbJ (zbc s1 q1.From q1.To)) fun (r6 : Int) =>
grd (I64 (q1.From + r6)) <|
grd (l4.length + 1 ≤ 2147483648) <|
zaE (zdk p15 ((p15.length : Int) - 1)) fun (x2 : List ByteArray) =>
grd (x2.length + 1 ≤ 2147483648) <|
j2 p10 (p15.set ((p15.length : Int) - 1 : Int).toNat (x2 ++ [zbc s1 q1.From q1.To])) (l4 ++ [(⟨zbc (zbc s1 q1.From q1.To) r4 ((zbc s1 q1.From q1.To).size : Int), r5, (p15.length : Int) - 1, (x1.length : Int), q1.From + r6, q1.To⟩ : Gapi_Verse)]) false true
)
)
)
)
)
) (fun (p12 : ByteArray) (p13 : List (List ByteArray)) (l5 : List Gapi_Verse) (first4 : Bool) (row4 : Bool) =>
grd (I64 (i3 + 1)) <|
ag1 p12 p13 l5 first4 row4 (i3 + 1)
)
) (
j1 p10 p11 l4
)
def zdo (s1 : ByteArray) : Option (Gref17_Poem × (List Gapi_Verse) × Gapi_Spot) :=
zaO (decide ((65536 : Int) < (s1.size : Int))) (
some ((⟨ByteArray.empty, ([] : List (List ByteArray))⟩ : Gref17_Poem), ([] : List Gapi_Verse), (⟨3, 65536⟩ : Gapi_Spot))
) (
zbE (fun (j1 : ByteArray → (List (List ByteArray)) → (List Gapi_Verse) → Option (Gref17_Poem × (List Gapi_Verse) × Gapi_Spot)) =>
zaE (zd9 s1) fun (r1 : (List Gapi_Span)) =>
za2 (fun _ _ _ _ _ _ => none) (zcs s1 j1 r1) zbG ByteArray.empty ([] : List (List ByteArray)) ([] : List Gapi_Verse) true false 0
) (fun (p1 : ByteArray) (p2 : List (List ByteArray)) (l1 : List Gapi_Verse) =>
some ((⟨p1, p2⟩ : Gref17_Poem), l1, (⟨0, 0⟩ : Gapi_Spot))
)
)
theorem zgq {s1 : ByteArray} {r : (Gref17_Poem × (List Gapi_Verse) × Gapi_Spot)} (h : zdo s1 = some r) : Fn Tryd.prog 30 [.string s1] [] (fun b : Hd × Value => .tuple #[.agg #[.string r.1.Title, b.1.v], b.2, .agg #[zI r.2.2.Err, zI r.2.2.At]]) (fun b => [zcU encN_T_string zao 48 1 b.1.v r.1.Stanzas, vec zar 36 6 b.2 r.2.1]) := by
 unfold zdo at h
 refine Fn.intro Tryd.func30 rfl Tryd.ntmps30 (by simp) ?_
 intro w0 K
 refine zak (zae ?_)
 refine zbv zlJ rfl dc (fun b1 => ?_)
 refine zai rfl dc rfl ?_
 refine zbv zk5 rfl dc (fun b2 => ?_)
 show TO _ _ _ _ _ _ _ _ _ _ [cells b1 [.string ByteArray.empty, .slice none 0 0] 56, cells b2 [zI 0, zI 0] 26]
 refine zaj (zah (zak (zae ?_)))
 refine zbv zlJ rfl dc (fun b3 => ?_)
 refine zaj (zah (zak (zae (zai rfl dc rfl (zaj (zah (zak (zak (zae (zaf rfl dc rfl (zbp rfl dc rfl Tryd.underlying9 (zau rfl dc rfl rfl zdR (zaj ?_)))))))))))))
 refine zah ?_
 refine zaI rfl (fun hb1 => ?_) (fun hb1 => ?_)
 ·
  have h := zaT hb1 h
  refine zak (zae (zcj (k := 2) (cs := [.string ByteArray.empty, .slice none 0 0]) zgO rfl dc rfl rfl rfl rfl ?_))
  refine zbi (v := .agg #[zI 3, zI 65536]) (ps := [(0, .const (zI 3)), (1, .const (zI 65536))]) rfl dc rfl (fun _ => by kernel_rfl) ?_
  refine za4 (k := 0) (vs := [.string ByteArray.empty, .slice none 0 0]) (l' := [.string ByteArray.empty, .slice none 0 0]) zke rfl rfl rfl rfl rfl (show _ ≤ _ by simp) rfl rfl ?_
  show TO _ _ _ _ _ _ _ _ _ _ [cells b1 [.string ByteArray.empty, .slice none 0 0] 56, cells b2 [zI 0, zI 0] 26, cells b3 [.string ByteArray.empty, .slice none 0 0] 56]
  refine zai rfl dc rfl (za4 (k := 1) (vs := [zI 3, zI 65536]) (l' := [zI 3, zI 65536]) zgM rfl rfl rfl rfl rfl (show _ ≤ _ by simp) rfl rfl (zaj (zah (zaQ (zas (zky (enc := encN_T_string) (nest := zao) (e := 48) (size := 1) ?_))))))
  show TX _ _ _ _ _ _ _ [cells b1 [.string ByteArray.empty, .slice none 0 0] 56, cells b2 [zI 3, zI 65536] 26, cells b3 [.string ByteArray.empty, .slice none 0 0] 56, zcU encN_T_string zao 48 1 (.slice none 0 0) ([] : List (List ByteArray))]
  refine zh1 (enc := zar) (e := 36) (size := 6) ?_
  show TX _ _ _ _ _ _ _ [cells b1 [.string ByteArray.empty, .slice none 0 0] 56, cells b2 [zI 3, zI 65536] 26, cells b3 [.string ByteArray.empty, .slice none 0 0] 56, zcU encN_T_string zao 48 1 (.slice none 0 0) ([] : List (List ByteArray)), vec zar 36 6 (.slice none 0 0) ([] : List Gapi_Verse)]
  cases h
  exact zaW (rs := [.cell 2 56, .tmp 3, .cell 4 26]) (Hd.nil, (.slice none 0 0)) (.inl rfl) Tryd.results30 (.cons (.cells zgO (k := 0) rfl rfl rfl) (.cons (.tmp rfl) (.cons (.cells zie (k := 1) rfl rfl rfl) .nil))) rfl (zam [3, 4] kr rfl)
 ·
  have h := zaU hb1 h
  refine zaK (zah ?_)
  obtain ⟨j1, hj1, h⟩ := zcc h
  refine zbf (β := ByteArray × (List (List ByteArray)) × (List Gapi_Verse) × Hd × Hd) 2 rfl (fun b => j1 b.1 b.2.1 b.2.2.1 = some r) (fun b => []) (fun b => [(2, zP b1), (4, zP b2), (5, zP b3), (6, b.2.2.2.2.v)]) (fun b => [cells b1 [.string ByteArray.empty, .slice none 0 0] 56, cells b2 [zI 0, zI 0] 26, cells b3 [.string b.1, b.2.2.2.1.v] 56, zcU encN_T_string zao 48 1 b.2.2.2.1.v b.2.1, vec zar 36 6 b.2.2.2.2.v b.2.2.1]) (fun cut => ?_) ?_
  ·
   refine zak (zae (zaf rfl dc rfl ?_))
   obtain ⟨r1, hq1, h⟩ := zbN h
   refine zeq (vs := [.string s1]) rfl dc rfl rfl rfl zpl (zii hq1) Splits.nil ?_
   rintro v1
   show TO _ _ _ _ _ _ _ _ _ _ [cells b1 [.string ByteArray.empty, .slice none 0 0] 56, cells b2 [zI 0, zI 0] 26, cells b3 [.string ByteArray.empty, .slice none 0 0] 56, vec zaq 34 2 v1 r1]
   refine zb3 (L' := [cells b1 [.string ByteArray.empty, .slice none 0 0] 56, cells b2 [zI 0, zI 0] 26, cells b3 [.string ByteArray.empty, .slice none 0 0] 56, vec zaq 34 2 v1 r1]) (zam [0, 1, 2, 3] kr rfl) ?_
   refine zco (k := 3) rfl (fun hd3 he1 => ?_)
   subst he1
   refine zai rfl dc rfl (zaj (zah (zak (zae (zai rfl dc rfl (zai rfl dc rfl (zaj (zah (cut (zak (zae (zai rfl dc rfl (zaj ?_)))))))))))))
   refine zah (zaS (zkH (enc := encN_T_string) (nest := zao) (e := 48) (size := 1) ?_))
   show TC _ _ _ _ _ _ _ _ _ [cells b1 [.string ByteArray.empty, .slice none 0 0] 56, cells b2 [zI 0, zI 0] 26, cells b3 [.string ByteArray.empty, .slice none 0 0] 56, vec zaq 34 2 hd3.v r1, zcU encN_T_string zao 48 1 (.slice none 0 0) ([] : List (List ByteArray))]
   refine ze0 (enc := zar) (e := 36) (size := 6) ?_
   show TC _ _ _ _ _ _ _ _ _ [cells b1 [.string ByteArray.empty, .slice none 0 0] 56, cells b2 [zI 0, zI 0] 26, cells b3 [.string ByteArray.empty, (.slice none 0 0)] 56, vec zaq 34 2 hd3.v r1, zcU encN_T_string zao 48 1 (.slice none 0 0) ([] : List (List ByteArray)), vec zar 36 6 (.slice none 0 0) ([] : List Gapi_Verse)]
   refine zbx (β := Nat × ByteArray × (List (List ByteArray)) × (List Gapi_Verse) × Bool × Bool × Int × Hd × Hd) (fun b => za2 (fun _ _ _ _ _ _ => none) (zcs s1 j1 r1) b.1 b.2.1 b.2.2.1 b.2.2.2.1 b.2.2.2.2.1 b.2.2.2.2.2.1 b.2.2.2.2.2.2.1 = some r) (fun b => []) (fun b => [(0, .string s1), (2, zP b1), (4, zP b2), (5, zP b3), (6, b.2.2.2.2.2.2.2.2.v), (7, hd3.v), (8, .bool b.2.2.2.2.1), (9, .bool b.2.2.2.2.2.1), (10, zI b.2.2.2.2.2.2.1)]) (fun b => [cells b1 [.string ByteArray.empty, .slice none 0 0] 56, cells b2 [zI 0, zI 0] 26, cells b3 [.string b.2.1, b.2.2.2.2.2.2.2.1.v] 56, zcU encN_T_string zao 48 1 b.2.2.2.2.2.2.2.1.v b.2.2.1, vec zar 36 6 b.2.2.2.2.2.2.2.2.v b.2.2.2.1, vec zaq 34 2 hd3.v r1]) (fun b => b.1) (zbG, ByteArray.empty, ([] : List (List ByteArray)), ([] : List Gapi_Verse), true, false, 0, Hd.nil, Hd.nil) h rfl (zab rfl (zab rfl (zab rfl (zab rfl (zab rfl (zab rfl (zab rfl (zab rfl (zab rfl (zay)))))))))) (zam [0, 1, 2, 4, 5, 3] kr rfl) ?_
   rintro ⟨n1, p10, p11, l4, first3, row3, i3, hd9, hd10⟩ h
   cases n1 with
   | zero => exact zdy h
   | succ n1 =>
    obtain ⟨ag1, hag1⟩ : ∃ ag, ag = za2 (fun _ _ _ _ _ _ => none) (zcs s1 j1 r1) n1 := ⟨_, rfl⟩
    have h : zcs s1 j1 r1 ag1 p10 p11 l4 first3 row3 i3 = some r := by rw [hag1]; exact h
    unfold zcs at h
    show TC _ _ _ _ _ ([]) _ _ [(0, .string s1), (2, zP b1), (4, zP b2), (5, zP b3), (6, hd10.v), (7, hd3.v), (8, .bool first3), (9, .bool row3), (10, zI i3)] [cells b1 [.string ByteArray.empty, .slice none 0 0] 56, cells b2 [zI 0, zI 0] 26, cells b3 [.string p10, hd9.v] 56, zcU encN_T_string zao 48 1 hd9.v p11, vec zar 36 6 hd10.v l4, vec zaq 34 2 hd3.v r1]
    refine zak (zak (zae (zaf rfl dc rfl (zaf rfl dc rfl (zc3 (k := 5) rfl dc rfl rfl Tryd.underlying89 (zau rfl dc rfl rfl zbA (zaj (zah ?_))))))))
    refine zaI rfl (fun hb2 => ?_) (fun hb2 => ?_)
    ·
     have h := zaT hb2 h
     refine zaK (zah ?_)
     obtain ⟨j2, hj2, h⟩ := zcc h
     refine zbf (β := ByteArray × (List (List ByteArray)) × (List Gapi_Verse) × Bool × Bool × Hd × Hd) 0 rfl (fun b => j2 b.1 b.2.1 b.2.2.1 b.2.2.2.1 b.2.2.2.2.1 = some r) (fun b => []) (fun b => [(0, .string s1), (2, zP b1), (4, zP b2), (5, zP b3), (6, b.2.2.2.2.2.2.v), (7, hd3.v), (8, .bool b.2.2.2.1), (9, .bool b.2.2.2.2.1), (10, zI i3)]) (fun b => [cells b1 [.string ByteArray.empty, .slice none 0 0] 56, cells b2 [zI 0, zI 0] 26, cells b3 [.string b.1, b.2.2.2.2.2.1.v] 56, zcU encN_T_string zao 48 1 b.2.2.2.2.2.1.v b.2.1, vec zar 36 6 b.2.2.2.2.2.2.v b.2.2.1, vec zaq 34 2 hd3.v r1]) (fun cut => ?_) ?_
     ·
      refine cut (zaS (zak (zae (zaf rfl dc rfl (zaf rfl dc rfl ?_)))))
      obtain ⟨q1, hq2, h⟩ := zbN h
      refine zbK (k := 5) hq2 Tryd.underlying89 zf4 rfl dc rfl rfl rfl rfl (zkB (i := (i3 : Int).toNat) (j := 0) (k := 5) (q := q1) (cs := [zI q1.From, zI q1.To]) zgP zbk rfl dc rfl rfl (zbz hq2) rfl rfl rfl ?_)
      refine zbv zkb rfl dc (fun b4 => ?_)
      refine za4 (k := 6) (vs := [zI q1.From, zI q1.To]) (l' := [zI q1.From, zI q1.To]) zf4 rfl rfl rfl rfl rfl (show _ ≤ _ by simp) rfl rfl ?_
      show TO _ _ _ _ _ _ _ _ _ _ [cells b1 [.string ByteArray.empty, .slice none 0 0] 56, cells b2 [zI 0, zI 0] 26, cells b3 [.string p10, hd9.v] 56, zcU encN_T_string zao 48 1 hd9.v p11, vec zar 36 6 hd10.v l4, vec zaq 34 2 hd3.v r1, cells b4 [zI q1.From, zI q1.To] 34]
      refine zaj (zah (zak (zae (zaf rfl dc rfl (zan zeC rfl dc rfl (show _ = 0 from rfl) (zaM (k := 6) zeL rfl dc rfl rfl rfl (zan zfb rfl dc rfl (show _ = 1 from rfl) (zaM (k := 6) zeL rfl dc rfl rfl rfl ?_))))))))
      obtain ⟨hg1, h⟩ := zbW h
      refine zee rfl dc rfl rfl rfl (zce (i := q1.From) (j := q1.To) Tryd.underlying9 (.inr rfl) (.inr rfl) hg1) (zai rfl dc rfl (zaj (zah (zak (zak (zae (zaf rfl dc rfl ?_)))))))
      obtain ⟨r2, hq3, h⟩ := zbN h
      refine zbs (v := .bool r2) (vs := [.string (zbc s1 q1.From q1.To)]) rfl dc rfl rfl rfl zot (zf8 hq3) (zaj (zah ?_))
      refine zaI rfl (fun hb3 => ?_) (fun hb3 => ?_)
      ·
       have h := zaT hb3 h
       refine zak (zae (zai rfl dc rfl (zaj (zah (zbl (zaC (zaN ?_)))))))
       exact zaJ (p10, p11, l4, first3, false, hd9, hd10) h rfl (zab rfl (zab rfl (zab rfl (zab rfl (zab rfl (zab rfl (zab rfl (zab rfl (zab rfl (zay)))))))))) (zam [0, 1, 2, 3, 4, 5] kr rfl)
      ·
       have h := zaU hb3 h
       refine zaK (zah (zak (zak (zae (zaf rfl dc rfl (zbp rfl dc rfl Tryd.underlying9 (zau rfl dc rfl rfl zdR (zaj (zah ?_)))))))))
       refine zaI rfl (fun hb4 => ?_) (fun hb4 => ?_)
       ·
        have h := zaT hb4 h
        refine zak ?_
        obtain ⟨hg2, h⟩ := zbW h
        refine zb0 7 [(0, 43, .agg #[.string ByteArray.empty, .slice none 0 0]), (1, 44, zP b4), (2, 45, zI q1.From), (3, 46, zI (q1.From + 1024)), (4, 47, .agg #[zI 3, zI (q1.From + 1024)]), (6, 3, .slice none 0 0)] mixed kr kr dc (by rfl) kr kr (zad ?_ (zad ?_ (zad ?_ (zad ?_ (zad ?_ (zad ?_ (zad ?_ DrawPre.nil))))))) ?_
        ·
         intro D hn hd hcl hu hi
         refine zbi (v := .agg #[.string ByteArray.empty, .slice none 0 0]) (ps := []) rfl dc evP.nil (fun _ => by kernel_rfl) ?_
         exact zag 0 hu hi rfl
        ·
         intro D hn hd hcl hu hi
         refine zan zeC rfl dc (zaL (by rfl) rfl) (show _ = 0 from rfl) ?_
         exact zag 1 hu hi rfl
        ·
         intro D hn hd hcl hu hi
         refine zaM (k := 6) zeL rfl dc (zac (m := 1) hu rfl (hd 1 dc)) rfl rfl ?_
         exact zag 2 hu hi rfl
        ·
         intro D hn hd hcl hu hi
         refine zau rfl dc (zac (m := 2) hu rfl (hd 2 dc)) rfl (za5 (r := q1.From + 1024) (IntWalk.i64_in _ hg2)) ?_
         exact zag 3 hu hi rfl
        ·
         intro D hn hd hcl hu hi
         refine zbi (v := .agg #[zI 3, zI (q1.From + 1024)]) (ps := [(0, .const (zI 3)), (1, .tmp 46)]) rfl dc (evP.cons rfl (evP.cons (zac (m := 3) hu rfl (hd 3 dc)) evP.nil)) (fun _ => by kernel_rfl) ?_
         exact zag 4 hu hi rfl
        ·
         intro D hn hd hcl hu hi
         refine za4 (k := 0) (vs := [.string ByteArray.empty, .slice none 0 0]) (l' := [.string ByteArray.empty, .slice none 0 0]) zke rfl (zaL (by rfl) rfl) (zac (m := 0) hu rfl (hd 0 dc)) rfl rfl (show _ ≤ _ by simp) rfl rfl ?_
         exact zj7 (by rfl)
        ·
         intro D hn hd hcl hu hi
         refine zai rfl dc rfl ?_
         exact zag 5 hu hi rfl
        refine za4 (k := 1) (vs := [zI 3, zI (q1.From + 1024)]) (l' := [zI 3, zI (q1.From + 1024)]) zgM rfl rfl rfl rfl rfl (show _ ≤ _ by simp) rfl rfl (zaj (zah (zaQ (zas (zaw (zas (zas (zaw (zas (zky (enc := encN_T_string) (nest := zao) (e := 48) (size := 1) ?_))))))))))
        show TX _ _ _ _ _ _ _ [cells b1 [.string ByteArray.empty, .slice none 0 0] 56, cells b2 [zI 3, zI (q1.From + 1024)] 26, cells b3 [.string p10, hd9.v] 56, zcU encN_T_string zao 48 1 hd9.v p11, vec zar 36 6 hd10.v l4, vec zaq 34 2 hd3.v r1, cells b4 [zI q1.From, zI q1.To] 34, zcU encN_T_string zao 48 1 (.slice none 0 0) ([] : List (List ByteArray))]
        refine zh1 (enc := zar) (e := 36) (size := 6) ?_
        show TX _ _ _ _ _ _ _ [cells b1 [.string ByteArray.empty, .slice none 0 0] 56, cells b2 [zI 3, zI (q1.From + 1024)] 26, cells b3 [.string p10, hd9.v] 56, zcU encN_T_string zao 48 1 hd9.v p11, vec zar 36 6 hd10.v l4, vec zaq 34 2 hd3.v r1, cells b4 [zI q1.From, zI q1.To] 34, zcU encN_T_string zao 48 1 (.slice none 0 0) ([] : List (List ByteArray)), vec zar 36 6 (.slice none 0 0) ([] : List Gapi_Verse)]
        cases h
        exact zaW (rs := [.cell 2 56, .tmp 3, .cell 4 26]) (Hd.nil, (.slice none 0 0)) (.inl rfl) Tryd.results30 (.cons (.cells zgO (k := 0) rfl rfl rfl) (.cons (.tmp rfl) (.cons (.cells zie (k := 1) rfl rfl rfl) .nil))) rfl (zam [7, 8] kr rfl)
       ·
        have h := zaU hb4 h
        refine zaK (zah ?_)
        obtain ⟨j3, hj3, h⟩ := zcc h
        refine zbf (β := Unit) 0 rfl (fun b => j3 = some r) (fun b => []) (fun b => [(0, .string s1), (2, zP b1), (4, zP b2), (5, zP b3), (6, hd10.v), (7, hd3.v), (9, .bool row3), (10, zI i3), (11, zP b4), (12, .string (zbc s1 q1.From q1.To))]) (fun b => [cells b1 [.string ByteArray.empty, .slice none 0 0] 56, cells b2 [zI 0, zI 0] 26, cells b3 [.string p10, hd9.v] 56, zcU encN_T_string zao 48 1 hd9.v p11, vec zar 36 6 hd10.v l4, vec zaq 34 2 hd3.v r1, cells b4 [zI q1.From, zI q1.To] 34]) (fun cut => ?_) ?_
        ·
         refine cut (zak (zae (zaf rfl dc rfl (zaf rfl dc rfl ?_))))
         refine za3 (s := 49) rfl (fun hb5 => ?_) (fun hb5 => ?_)
         ·
          have h := zaT hb5 h
          refine zaf rfl dc rfl ?_
          obtain ⟨r3, hq4, h⟩ := zbN h
          refine zbs (v := .bool r3) (vs := [.string (zbc s1 q1.From q1.To)]) rfl dc rfl rfl rfl zos (zfM hq4) (zaA (b := true) rfl dc rfl rfl (zaj (zah ?_)))
          refine zaI rfl (fun hb6 => ?_) (fun hb6 => ?_)
          ·
           have h := zaT hb6 h
           obtain ⟨j4, hj4, h⟩ := zcc h
           refine zbf (β := ByteArray) 1 rfl (fun b => j4 b = some r) (fun b => []) (fun b => [(0, .string s1), (2, zP b1), (4, zP b2), (5, zP b3), (6, hd10.v), (7, hd3.v), (8, .bool false), (9, .bool row3), (10, zI i3), (50, .string (zbc s1 q1.From q1.To)), (51, .bool r3)]) (fun b => [cells b1 [.string ByteArray.empty, .slice none 0 0] 56, cells b2 [zI 0, zI 0] 26, cells b3 [.string b, hd9.v] 56, zcU encN_T_string zao 48 1 hd9.v p11, vec zar 36 6 hd10.v l4, vec zaq 34 2 hd3.v r1]) (fun cut => ?_) ?_
           ·
            refine zak (zae (zai rfl dc rfl (zaj (zah (cut (zak (zae (zaf rfl dc rfl (zbp rfl dc rfl Tryd.underlying9 (zau rfl dc rfl rfl zdR (zaj (zah ?_))))))))))))
            refine zaI rfl (fun hb7 => ?_) (fun hb7 => ?_)
            ·
             have h := zaT hb7 h
             refine zae (zaf rfl dc rfl ?_)
             obtain ⟨hg3, h⟩ := zbW h
             refine zee rfl dc rfl rfl rfl (zce (i := 2) (j := ((zbc s1 q1.From q1.To).size : Int)) Tryd.underlying9 (.inr rfl) (.inl ⟨rfl, rfl⟩) hg3) (zan zfS rfl dc rfl (show _ = 0 from rfl) ?_)
             refine zbh (k := 2) (l' := [.string (zbc (zbc s1 q1.From q1.To) 2 ((zbc s1 q1.From q1.To).size : Int)), hd9.v]) zk9 rfl rfl rfl rfl rfl (fun _ _ => rfl) rfl ?_
             refine zaj ?_
             exact zaJ (zbc (zbc s1 q1.From q1.To) 2 ((zbc s1 q1.From q1.To).size : Int)) h rfl (zab rfl (zab rfl (zab rfl (zab rfl (zab rfl (zab rfl (zab rfl (zab rfl (zab rfl (zab rfl (zab rfl (zay)))))))))))) (zam [0, 1, 2, 3, 4, 5] kr rfl)
            ·
             have h := zaU hb7 h
             refine zaK ?_
             exact zaJ p10 h rfl (zab rfl (zab rfl (zab rfl (zab rfl (zab rfl (zab rfl (zab rfl (zab rfl (zab rfl (zab rfl (zab rfl (zay)))))))))))) (zam [0, 1, 2, 3, 4, 5] kr rfl)
           ·
            rintro p14 h
            rw [hj4] at h
            show TC _ _ _ _ _ ([]) _ _ [(0, .string s1), (2, zP b1), (4, zP b2), (5, zP b3), (6, hd10.v), (7, hd3.v), (8, .bool false), (9, .bool row3), (10, zI i3), (50, .string (zbc s1 q1.From q1.To)), (51, .bool r3)] [cells b1 [.string ByteArray.empty, .slice none 0 0] 56, cells b2 [zI 0, zI 0] 26, cells b3 [.string p14, hd9.v] 56, zcU encN_T_string zao 48 1 hd9.v p11, vec zar 36 6 hd10.v l4, vec zaq 34 2 hd3.v r1]
            refine zbl (zaC (zaN ?_))
            exact zaJ (p14, p11, l4, false, row3, hd9, hd10) h rfl (zab rfl (zab rfl (zab rfl (zab rfl (zab rfl (zab rfl (zab rfl (zab rfl (zab rfl (zay)))))))))) (zam [0, 1, 2, 3, 4, 5] kr rfl)
          ·
           have h := zaU hb6 h
           refine zaK ?_
           exact zaJ () h rfl (zab rfl (zab rfl (zab rfl (zab rfl (zab rfl (zab rfl (zab rfl (zab rfl (zab rfl (zab rfl (zay))))))))))) (zam [0, 1, 2, 3, 4, 5, 6] kr rfl)
         ·
          have h := zaU hb5 h
          refine zal rfl dc (zal rfl dc (zaA (b := false) rfl dc rfl rfl (zaj (zah (zbj rfl (zaK ?_))))))
          exact zaJ () h rfl (zab rfl (zab rfl (zab rfl (zab rfl (zab rfl (zab rfl (zab rfl (zab rfl (zab rfl (zab rfl (zay))))))))))) (zam [0, 1, 2, 3, 4, 5, 6] kr rfl)
        ·
         rintro _ h
         rw [hj3] at h
         show TC _ _ _ _ _ ([]) _ _ [(0, .string s1), (2, zP b1), (4, zP b2), (5, zP b3), (6, hd10.v), (7, hd3.v), (9, .bool row3), (10, zI i3), (11, zP b4), (12, .string (zbc s1 q1.From q1.To))] [cells b1 [.string ByteArray.empty, .slice none 0 0] 56, cells b2 [zI 0, zI 0] 26, cells b3 [.string p10, hd9.v] 56, zcU encN_T_string zao 48 1 hd9.v p11, vec zar 36 6 hd10.v l4, vec zaq 34 2 hd3.v r1, cells b4 [zI q1.From, zI q1.To] 34]
         refine zak (zae (zai rfl dc rfl (zaj (zah (zak (zak (zae (zaf rfl dc rfl (zc3 (k := 4) rfl dc rfl rfl Tryd.underlying57 (zau rfl dc rfl rfl zbF (zaj (zah ?_))))))))))))
         refine zaI rfl (fun hb8 => ?_) (fun hb8 => ?_)
         ·
          have h := zaT hb8 h
          refine zak ?_
          refine zb0 6 [(0, 62, .agg #[.string ByteArray.empty, .slice none 0 0]), (1, 63, zP b4), (2, 64, zI q1.From), (3, 65, .agg #[zI 3, zI q1.From]), (5, 3, .slice none 0 0)] mixed kr kr dc (by rfl) kr kr (zad ?_ (zad ?_ (zad ?_ (zad ?_ (zad ?_ (zad ?_ DrawPre.nil)))))) ?_
          ·
           intro D hn hd hcl hu hi
           refine zbi (v := .agg #[.string ByteArray.empty, .slice none 0 0]) (ps := []) rfl dc evP.nil (fun _ => by kernel_rfl) ?_
           exact zag 0 hu hi rfl
          ·
           intro D hn hd hcl hu hi
           refine zan zeC rfl dc (zaL (by rfl) rfl) (show _ = 0 from rfl) ?_
           exact zag 1 hu hi rfl
          ·
           intro D hn hd hcl hu hi
           refine zaM (k := 6) zeL rfl dc (zac (m := 1) hu rfl (hd 1 dc)) rfl rfl ?_
           exact zag 2 hu hi rfl
          ·
           intro D hn hd hcl hu hi
           refine zbi (v := .agg #[zI 3, zI q1.From]) (ps := [(0, .const (zI 3)), (1, .tmp 64)]) rfl dc (evP.cons rfl (evP.cons (zac (m := 2) hu rfl (hd 2 dc)) evP.nil)) (fun _ => by kernel_rfl) ?_
           exact zag 3 hu hi rfl
          ·
           intro D hn hd hcl hu hi
           refine za4 (k := 0) (vs := [.string ByteArray.empty, .slice none 0 0]) (l' := [.string ByteArray.empty, .slice none 0 0]) zke rfl (zaL (by rfl) rfl) (zac (m := 0) hu rfl (hd 0 dc)) rfl rfl (show _ ≤ _ by simp) rfl rfl ?_
           exact zj7 (by rfl)
          ·
           intro D hn hd hcl hu hi
           refine zai rfl dc rfl ?_
           exact zag 4 hu hi rfl
          refine za4 (k := 1) (vs := [zI 3, zI q1.From]) (l' := [zI 3, zI q1.From]) zgM rfl rfl rfl rfl rfl (show _ ≤ _ by simp) rfl rfl (zaj (zah (zaQ (zas (zaw (zas (zas (zaw (zas (zky (enc := encN_T_string) (nest := zao) (e := 48) (size := 1) ?_))))))))))
          show TX _ _ _ _ _ _ _ [cells b1 [.string ByteArray.empty, .slice none 0 0] 56, cells b2 [zI 3, zI q1.From] 26, cells b3 [.string p10, hd9.v] 56, zcU encN_T_string zao 48 1 hd9.v p11, vec zar 36 6 hd10.v l4, vec zaq 34 2 hd3.v r1, cells b4 [zI q1.From, zI q1.To] 34, zcU encN_T_string zao 48 1 (.slice none 0 0) ([] : List (List ByteArray))]
          refine zh1 (enc := zar) (e := 36) (size := 6) ?_
          show TX _ _ _ _ _ _ _ [cells b1 [.string ByteArray.empty, .slice none 0 0] 56, cells b2 [zI 3, zI q1.From] 26, cells b3 [.string p10, hd9.v] 56, zcU encN_T_string zao 48 1 hd9.v p11, vec zar 36 6 hd10.v l4, vec zaq 34 2 hd3.v r1, cells b4 [zI q1.From, zI q1.To] 34, zcU encN_T_string zao 48 1 (.slice none 0 0) ([] : List (List ByteArray)), vec zar 36 6 (.slice none 0 0) ([] : List Gapi_Verse)]
          cases h
          exact zaW (rs := [.cell 2 56, .tmp 3, .cell 4 26]) (Hd.nil, (.slice none 0 0)) (.inl rfl) Tryd.results30 (.cons (.cells zgO (k := 0) rfl rfl rfl) (.cons (.tmp rfl) (.cons (.cells zie (k := 1) rfl rfl rfl) .nil))) rfl (zam [7, 8] kr rfl)
         ·
          have h := zaU hb8 h
          refine zaK (zah ?_)
          obtain ⟨j5, hj5, h⟩ := zcc h
          refine zbf (β := (List (List ByteArray)) × Hd) 0 rfl (fun b => j5 b.1 = some r) (fun b => []) (fun b => [(0, .string s1), (2, zP b1), (4, zP b2), (5, zP b3), (6, hd10.v), (7, hd3.v), (8, .bool false), (10, zI i3), (11, zP b4), (12, .string (zbc s1 q1.From q1.To))]) (fun b => [cells b1 [.string ByteArray.empty, .slice none 0 0] 56, cells b2 [zI 0, zI 0] 26, cells b3 [.string p10, b.2.v] 56, zcU encN_T_string zao 48 1 b.2.v b.1, vec zar 36 6 hd10.v l4, vec zaq 34 2 hd3.v r1, cells b4 [zI q1.From, zI q1.To] 34]) (fun cut => ?_) ?_
          ·
           refine cut (zak (zae (zaf rfl dc rfl (zf7 rfl dc rfl zeE (zaj (zah ?_))))))
           refine zaI rfl (fun hb9 => ?_) (fun hb9 => ?_)
           ·
            have h := zaT hb9 h
            refine zae (zan zdD rfl dc rfl (show _ = 1 from rfl) (zaM (k := 2) ze1 rfl dc rfl rfl rfl ?_))
            refine zbb (cs := [.slice none 0 0]) (te := 48) (ps := [(0, .const (.slice none 0 0))]) rfl dc rfl (fun _ => by kernel_rfl) (fun b5 => ?_)
            refine zh2 (enc := encS) (e := 9) (size := 1) ?_
            show TO _ _ _ _ _ _ _ _ _ _ [cells b1 [.string ByteArray.empty, .slice none 0 0] 56, cells b2 [zI 0, zI 0] 26, cells b3 [.string p10, hd9.v] 56, zcU encN_T_string zao 48 1 hd9.v p11, vec zar 36 6 hd10.v l4, vec zaq 34 2 hd3.v r1, cells b4 [zI q1.From, zI q1.To] 34, cells b5 [.slice none 0 0] 48, vec encS 9 1 (.slice none 0 0) ([] : List ByteArray)]
            refine zf2 (k := 3) rfl zjC (fun zs1 hz1 => ?_)
            show TO _ _ _ _ _ _ _ _ _ _ [cells b1 [.string ByteArray.empty, .slice none 0 0] 56, cells b2 [zI 0, zI 0] 26, cells b3 [.string p10, hd9.v] 56, vec encN_T_string 48 1 hd9.v zs1, vec zar 36 6 hd10.v l4, vec zaq 34 2 hd3.v r1, cells b4 [zI q1.From, zI q1.To] 34, cells b5 [.slice none 0 0] 48, vec encS 9 1 (.slice none 0 0) ([] : List ByteArray), own zao zs1]
            obtain ⟨hg4, h⟩ := zbW h
            refine zbw (k := 3) (k2 := 7) (ys := [(([] : List ByteArray), Hd.nil)]) Tryd.underlying54 znS zba zem rfl dc rfl rfl rfl rfl rfl rfl (by rw [zob hz1]; exact hg4) (fun v2 => ?_)
            show TO _ _ _ _ _ _ _ _ _ _ [cells b1 [.string ByteArray.empty, .slice none 0 0] 56, cells b2 [zI 0, zI 0] 26, cells b3 [.string p10, hd9.v] 56, vec encN_T_string 48 1 v2 (zs1 ++ [(([] : List ByteArray), Hd.nil)]), vec zar 36 6 hd10.v l4, vec zaq 34 2 hd3.v r1, cells b4 [zI q1.From, zI q1.To] 34, cells b5 [.slice none 0 0] 48, vec encS 9 1 (.slice none 0 0) ([] : List ByteArray), own zao zs1]
            refine zco (k := 3) rfl (fun hd14 he2 => ?_)
            subst he2
            refine zew (k := 9) rfl (zam [8] kr rfl) rfl (zl6 (nest := zao) (zs := zs1) (z := (([] : List ByteArray), Hd.nil))) ?_
            show TO _ _ _ _ _ _ _ _ _ _ [cells b1 [.string ByteArray.empty, .slice none 0 0] 56, cells b2 [zI 0, zI 0] 26, cells b3 [.string p10, hd9.v] 56, vec encN_T_string 48 1 hd14.v (zs1 ++ [(([] : List ByteArray), Hd.nil)]), vec zar 36 6 hd10.v l4, vec zaq 34 2 hd3.v r1, cells b4 [zI q1.From, zI q1.To] 34, cells b5 [.slice none 0 0] 48, emp, own zao (zs1 ++ [(([] : List ByteArray), Hd.nil)])]
            refine zew (k := 3) rfl (zam [9] kr rfl) rfl (ziC (enc := encN_T_string) (nest := zao) (zo6 hz1)) ?_
            show TO _ _ _ _ _ _ _ _ _ _ [cells b1 [.string ByteArray.empty, .slice none 0 0] 56, cells b2 [zI 0, zI 0] 26, cells b3 [.string p10, hd9.v] 56, zcU encN_T_string zao 48 1 hd14.v (p11 ++ [([] : List ByteArray)]), vec zar 36 6 hd10.v l4, vec zaq 34 2 hd3.v r1, cells b4 [zI q1.From, zI q1.To] 34, cells b5 [.slice none 0 0] 48, emp, emp]
            refine zb3 (L' := [cells b1 [.string ByteArray.empty, .slice none 0 0] 56, cells b2 [zI 0, zI 0] 26, cells b3 [.string p10, hd9.v] 56, zcU encN_T_string zao 48 1 hd14.v (p11 ++ [([] : List ByteArray)]), vec zar 36 6 hd10.v l4, vec zaq 34 2 hd3.v r1, cells b4 [zI q1.From, zI q1.To] 34, cells b5 [.slice none 0 0] 48]) (zam [0, 1, 2, 3, 4, 5, 6, 7] kr rfl) (zan zdD rfl dc rfl (show _ = 1 from rfl) ?_)
            refine zbh (k := 2) (l' := [.string p10, hd14.v]) zof rfl rfl rfl rfl rfl (fun _ _ => rfl) rfl ?_
            show TO _ _ _ _ _ _ _ _ _ _ [cells b1 [.string ByteArray.empty, .slice none 0 0] 56, cells b2 [zI 0, zI 0] 26, cells b3 [.string p10, hd14.v] 56, zcU encN_T_string zao 48 1 hd14.v (p11 ++ [([] : List ByteArray)]), vec zar 36 6 hd10.v l4, vec zaq 34 2 hd3.v r1, cells b4 [zI q1.From, zI q1.To] 34, cells b5 [.slice none 0 0] 48]
            refine zaj ?_
            exact zaJ (p11 ++ [([] : List ByteArray)], hd14) h rfl (zab rfl (zab rfl (zab rfl (zab rfl (zab rfl (zab rfl (zab rfl (zab rfl (zab rfl (zab rfl (zay))))))))))) (zam [0, 1, 2, 3, 4, 5, 6] kr rfl)
           ·
            have h := zaU hb9 h
            refine zaK ?_
            exact zaJ (p11, hd9) h rfl (zab rfl (zab rfl (zab rfl (zab rfl (zab rfl (zab rfl (zab rfl (zab rfl (zab rfl (zab rfl (zay))))))))))) (zam [0, 1, 2, 3, 4, 5, 6] kr rfl)
          ·
           rintro ⟨p15, hd13⟩ h
           rw [hj5] at h
           show TC _ _ _ _ _ ([]) _ _ [(0, .string s1), (2, zP b1), (4, zP b2), (5, zP b3), (6, hd10.v), (7, hd3.v), (8, .bool false), (10, zI i3), (11, zP b4), (12, .string (zbc s1 q1.From q1.To))] [cells b1 [.string ByteArray.empty, .slice none 0 0] 56, cells b2 [zI 0, zI 0] 26, cells b3 [.string p10, hd13.v] 56, zcU encN_T_string zao 48 1 hd13.v p15, vec zar 36 6 hd10.v l4, vec zaq 34 2 hd3.v r1, cells b4 [zI q1.From, zI q1.To] 34]
           refine zak (zae (zai rfl dc rfl (zaj (zah (zak (zae (zan zdD rfl dc rfl (show _ = 1 from rfl) (zaM (k := 2) ze1 rfl dc rfl rfl rfl (zg2 (k := 3) rfl dc rfl rfl Tryd.underlying54 ?_)))))))))
           obtain ⟨hg5, h⟩ := zbW h
           refine zau rfl dc rfl rfl (zdI (r := (p15.length : Int) - 1) (IntWalk.i64_in _ hg5)) (zai rfl dc rfl (zaj (zah (zak ?_))))
           refine zdO (k := 3) rfl zjC (fun zs2 hz2 => ?_)
           show TC _ _ _ _ _ _ _ _ _ [cells b1 [.string ByteArray.empty, .slice none 0 0] 56, cells b2 [zI 0, zI 0] 26, cells b3 [.string p10, hd13.v] 56, vec encN_T_string 48 1 hd13.v zs2, vec zar 36 6 hd10.v l4, vec zaq 34 2 hd3.v r1, cells b4 [zI q1.From, zI q1.To] 34, own zao zs2]
           obtain ⟨r4, hq5, h⟩ := zbN h
           obtain ⟨hg6, h⟩ := zbW h
           obtain ⟨r5, hq6, h⟩ := zbN h
           obtain ⟨x1, hq7, h⟩ := zbN h
           obtain ⟨eh1, eq1⟩ := zd3 hz2 hq7
           obtain ⟨r6, hq8, h⟩ := zbN h
           obtain ⟨hg7, h⟩ := zbW h
           refine zdO (k := 7) rfl (zli (zbz eq1)) (fun _ _ => ?_)
           show TC _ _ _ _ _ _ _ _ _ [cells b1 [.string ByteArray.empty, .slice none 0 0] 56, cells b2 [zI 0, zI 0] 26, cells b3 [.string p10, hd13.v] 56, vec encN_T_string 48 1 hd13.v zs2, vec zar 36 6 hd10.v l4, vec zaq 34 2 hd3.v r1, cells b4 [zI q1.From, zI q1.To] 34, own zao (zs2.eraseIdx (((p15.length : Int) - 1 : Int).toNat)), vec encS 9 1 eh1.v x1]
           refine zjk (β := Nat) 23 22 _ [(0, 77, .string (zbc s1 q1.From q1.To)), (1, 78, .string (zbc s1 q1.From q1.To)), (2, 79, zI r4), (3, 80, .string (zbc (zbc s1 q1.From q1.To) r4 ((zbc s1 q1.From q1.To).size : Int))), (4, 81, .string (zbc s1 q1.From q1.To)), (5, 82, zI r5), (6, 83, zI ((p15.length : Int) - 1)), (7, 84, .pointer (some ⟨b3, 1, none⟩)), (8, 85, hd13.v), (9, 86, zI ((p15.length : Int) - 1)), (10, 87, .pointer (some ⟨zeD hd13.v, ((p15.length : Int) - 1 : Int).toNat * 1, none⟩)), (11, 88, eh1.v), (12, 89, zI (x1.length : Int)), (13, 90, zP b4), (14, 91, zI q1.From), (15, 92, .string (zbc s1 q1.From q1.To)), (16, 93, zI r6), (17, 94, zI (q1.From + r6)), (18, 95, .pointer (some ⟨b4, 1, none⟩)), (19, 96, zI q1.To), (20, 97, .agg #[zI (q1.From + r6), zI q1.To]), (21, 98, .agg #[.string (zbc (zbc s1 q1.From q1.To) r4 ((zbc s1 q1.From q1.To).size : Int)), zI r5, zI ((p15.length : Int) - 1), zI (x1.length : Int), zI (q1.From + r6), zI q1.To])] (fun b6 => [(14, zP b6)]) (fun b6 => [cells b1 [.string ByteArray.empty, .slice none 0 0] 56, cells b2 [zI 0, zI 0] 26, cells b3 [.string p10, hd13.v] 56, vec encN_T_string 48 1 hd13.v zs2, vec zar 36 6 hd10.v l4, vec zaq 34 2 hd3.v r1, cells b4 [zI q1.From, zI q1.To] 34, own zao (zs2.eraseIdx (((p15.length : Int) - 1 : Int).toNat)), vec encS 9 1 eh1.v x1, cells b6 [.string ByteArray.empty, zI 0, zI 0, zI 0, zI 0, zI 0] 36]) mixed kr kr rfl dc dc (by rfl) kr kr (DrawPreX.cons ?_ (DrawPreX.cons ?_ (DrawPreX.cons ?_ (DrawPreX.cons ?_ (DrawPreX.cons ?_ (DrawPreX.cons ?_ (DrawPreX.cons ?_ (DrawPreX.cons ?_ (DrawPreX.cons ?_ (DrawPreX.cons ?_ (DrawPreX.cons ?_ (DrawPreX.cons ?_ (DrawPreX.cons ?_ (DrawPreX.cons ?_ (DrawPreX.cons ?_ (DrawPreX.cons ?_ (DrawPreX.cons ?_ (DrawPreX.cons ?_ (DrawPreX.cons ?_ (DrawPreX.cons ?_ (DrawPreX.cons ?_ (DrawPreX.cons ?_ (zdP DrawPreX.nil))))))))))))))))))))))) (fun b6 => (DrawPreX.cons ?_ (DrawPreX.cons ?_ (DrawPreX.cons ?_ (DrawPreX.cons ?_ (DrawPreX.cons ?_ (DrawPreX.cons ?_ (DrawPreX.cons ?_ (DrawPreX.cons ?_ (DrawPreX.cons ?_ (DrawPreX.cons ?_ (DrawPreX.cons ?_ (DrawPreX.cons ?_ (DrawPreX.cons ?_ (DrawPreX.cons ?_ (DrawPreX.cons ?_ (DrawPreX.cons ?_ (DrawPreX.cons ?_ (DrawPreX.cons ?_ (DrawPreX.cons ?_ (DrawPreX.cons ?_ (DrawPreX.cons ?_ (DrawPreX.cons ?_ (zdP DrawPreX.nil)))))))))))))))))))))))) ?_ ?_
           ·
            intro D hn hd hcl hu hi
            refine zaf rfl dc (zaL (by rfl) rfl) ?_
            exact zag 0 hu hi rfl
           ·
            intro D hn hd hcl hu hi
            refine zaf rfl dc (zaL (by rfl) rfl) ?_
            exact zag 1 hu hi rfl
           ·
            intro D hn hd hcl hu hi
            refine zbs (v := zI r4) (vs := [.string (zbc s1 q1.From q1.To)]) rfl dc rfl (evL.cons (zac (m := 1) hu rfl (hd 1 dc)) evL.nil) rfl zlx (zdd hq5) ?_
            exact zag 2 hu hi rfl
           ·
            intro D hn hd hcl hu hi
            refine zee rfl dc (zac (m := 0) hu rfl (hd 0 dc)) (evO.some (zac (m := 2) hu rfl (hd 2 dc))) zgz (zce (i := r4) (j := ((zbc s1 q1.From q1.To).size : Int)) Tryd.underlying9 (.inr rfl) (.inl ⟨rfl, rfl⟩) hg6) ?_
            exact zag 3 hu hi rfl
           ·
            intro D hn hd hcl hu hi
            refine zaf rfl dc (zaL (by rfl) rfl) ?_
            exact zag 4 hu hi rfl
           ·
            intro D hn hd hcl hu hi
            refine zbs (v := zI r5) (vs := [.string (zbc s1 q1.From q1.To)]) rfl dc rfl (evL.cons (zac (m := 4) hu rfl (hd 4 dc)) evL.nil) rfl zlx (zdd hq6) ?_
            exact zag 5 hu hi rfl
           ·
            intro D hn hd hcl hu hi
            refine zaf rfl dc (zaL (by rfl) rfl) ?_
            exact zag 6 hu hi rfl
           ·
            intro D hn hd hcl hu hi
            refine zan zdD rfl dc (zaL (by rfl) rfl) (show _ = 1 from rfl) ?_
            exact zag 7 hu hi rfl
           ·
            intro D hn hd hcl hu hi
            refine zaM (k := 2) ze1 rfl dc (zac (m := 7) hu rfl (hd 7 dc)) rfl rfl ?_
            exact zag 8 hu hi rfl
           ·
            intro D hn hd hcl hu hi
            refine zaf rfl dc (zaL (by rfl) rfl) ?_
            exact zag 9 hu hi rfl
           ·
            intro D hn hd hcl hu hi
            refine zbK (k := 3) eq1 Tryd.underlying54 zez rfl dc (zac (m := 8) hu rfl (hd 8 dc)) (zac (m := 9) hu rfl (hd 9 dc)) rfl rfl ?_
            exact zag 10 hu hi rfl
           ·
            intro D hn hd hcl hu hi
            refine zcV (i := ((p15.length : Int) - 1 : Int).toNat) (j := 0) (k := 3) (q := (x1, eh1)) ze8 zba rfl dc (zac (m := 10) hu rfl (hd 10 dc)) rfl (zbz eq1) rfl dc rfl ?_
            exact zag 11 hu hi rfl
           ·
            intro D hn hd hcl hu hi
            refine zc3 (k := 8) rfl dc (zac (m := 11) hu rfl (hd 11 dc)) rfl Tryd.underlying48 ?_
            exact zag 12 hu hi rfl
           ·
            intro D hn hd hcl hu hi
            refine zan zeC rfl dc (zaL (by rfl) rfl) (show _ = 0 from rfl) ?_
            exact zag 13 hu hi rfl
           ·
            intro D hn hd hcl hu hi
            refine zaM (k := 6) zeL rfl dc (zac (m := 13) hu rfl (hd 13 dc)) rfl rfl ?_
            exact zag 14 hu hi rfl
           ·
            intro D hn hd hcl hu hi
            refine zaf rfl dc (zaL (by rfl) rfl) ?_
            exact zag 15 hu hi rfl
           ·
            intro D hn hd hcl hu hi
            refine zbs (v := zI r6) (vs := [.string (zbc s1 q1.From q1.To)]) rfl dc rfl (evL.cons (zac (m := 15) hu rfl (hd 15 dc)) evL.nil) rfl zlx (zdd hq8) ?_
            exact zag 16 hu hi rfl
           ·
            intro D hn hd hcl hu hi
            refine zau rfl dc (zac (m := 14) hu rfl (hd 14 dc)) (zac (m := 16) hu rfl (hd 16 dc)) (za5 (r := q1.From + r6) (IntWalk.i64_in _ hg7)) ?_
            exact zag 17 hu hi rfl
           ·
            intro D hn hd hcl hu hi
            refine zan zfb rfl dc (zaL (by rfl) rfl) (show _ = 1 from rfl) ?_
            exact zag 18 hu hi rfl
           ·
            intro D hn hd hcl hu hi
            refine zaM (k := 6) zeL rfl dc (zac (m := 18) hu rfl (hd 18 dc)) rfl rfl ?_
            exact zag 19 hu hi rfl
           ·
            intro D hn hd hcl hu hi
            refine zbi (v := .agg #[zI (q1.From + r6), zI q1.To]) (ps := [(0, .tmp 94), (1, .tmp 96)]) rfl dc (evP.cons (zac (m := 17) hu rfl (hd 17 dc)) (evP.cons (zac (m := 19) hu rfl (hd 19 dc)) evP.nil)) (fun _ => by kernel_rfl) ?_
            exact zag 20 hu hi rfl
           ·
            intro D hn hd hcl hu hi
            refine zbi (v := .agg #[.string (zbc (zbc s1 q1.From q1.To) r4 ((zbc s1 q1.From q1.To).size : Int)), zI r5, zI ((p15.length : Int) - 1), zI (x1.length : Int), zI (q1.From + r6), zI q1.To]) (ps := [(0, .tmp 80), (1, .tmp 82), (2, .tmp 83), (3, .tmp 89), (4, .tmp 97)]) rfl dc (evP.cons (zac (m := 3) hu rfl (hd 3 dc)) (evP.cons (zac (m := 5) hu rfl (hd 5 dc)) (evP.cons (zac (m := 6) hu rfl (hd 6 dc)) (evP.cons (zac (m := 12) hu rfl (hd 12 dc)) (evP.cons (zac (m := 20) hu rfl (hd 20 dc)) evP.nil))))) (fun _ => by kernel_rfl) ?_
            exact zag 21 hu hi rfl
           ·
            intro D hn hd hcl hu hi
            refine zaf rfl dc (zaL (by rfl) rfl) ?_
            exact zag 0 hu hi rfl
           ·
            intro D hn hd hcl hu hi
            refine zaf rfl dc (zaL (by rfl) rfl) ?_
            exact zag 1 hu hi rfl
           ·
            intro D hn hd hcl hu hi
            refine zbs (v := zI r4) (vs := [.string (zbc s1 q1.From q1.To)]) rfl dc rfl (evL.cons (zac (m := 1) hu rfl (hd 1 dc)) evL.nil) rfl zlx (zdd hq5) ?_
            exact zag 2 hu hi rfl
           ·
            intro D hn hd hcl hu hi
            refine zee rfl dc (zac (m := 0) hu rfl (hd 0 dc)) (evO.some (zac (m := 2) hu rfl (hd 2 dc))) zgz (zce (i := r4) (j := ((zbc s1 q1.From q1.To).size : Int)) Tryd.underlying9 (.inr rfl) (.inl ⟨rfl, rfl⟩) hg6) ?_
            exact zag 3 hu hi rfl
           ·
            intro D hn hd hcl hu hi
            refine zaf rfl dc (zaL (by rfl) rfl) ?_
            exact zag 4 hu hi rfl
           ·
            intro D hn hd hcl hu hi
            refine zbs (v := zI r5) (vs := [.string (zbc s1 q1.From q1.To)]) rfl dc rfl (evL.cons (zac (m := 4) hu rfl (hd 4 dc)) evL.nil) rfl zlx (zdd hq6) ?_
            exact zag 5 hu hi rfl
           ·
            intro D hn hd hcl hu hi
            refine zaf rfl dc (zaL (by rfl) rfl) ?_
            exact zag 6 hu hi rfl
           ·
            intro D hn hd hcl hu hi
            refine zan zdD rfl dc (zaL (by rfl) rfl) (show _ = 1 from rfl) ?_
            exact zag 7 hu hi rfl
           ·
            intro D hn hd hcl hu hi
            refine zaM (k := 2) ze1 rfl dc (zac (m := 7) hu rfl (hd 7 dc)) rfl rfl ?_
            exact zag 8 hu hi rfl
           ·
            intro D hn hd hcl hu hi
            refine zaf rfl dc (zaL (by rfl) rfl) ?_
            exact zag 9 hu hi rfl
           ·
            intro D hn hd hcl hu hi
            refine zbK (k := 3) eq1 Tryd.underlying54 zez rfl dc (zac (m := 8) hu rfl (hd 8 dc)) (zac (m := 9) hu rfl (hd 9 dc)) rfl rfl ?_
            exact zag 10 hu hi rfl
           ·
            intro D hn hd hcl hu hi
            refine zcV (i := ((p15.length : Int) - 1 : Int).toNat) (j := 0) (k := 3) (q := (x1, eh1)) ze8 zba rfl dc (zac (m := 10) hu rfl (hd 10 dc)) rfl (zbz eq1) rfl dc rfl ?_
            exact zag 11 hu hi rfl
           ·
            intro D hn hd hcl hu hi
            refine zc3 (k := 8) rfl dc (zac (m := 11) hu rfl (hd 11 dc)) rfl Tryd.underlying48 ?_
            exact zag 12 hu hi rfl
           ·
            intro D hn hd hcl hu hi
            refine zan zeC rfl dc (zaL (by rfl) rfl) (show _ = 0 from rfl) ?_
            exact zag 13 hu hi rfl
           ·
            intro D hn hd hcl hu hi
            refine zaM (k := 6) zeL rfl dc (zac (m := 13) hu rfl (hd 13 dc)) rfl rfl ?_
            exact zag 14 hu hi rfl
           ·
            intro D hn hd hcl hu hi
            refine zaf rfl dc (zaL (by rfl) rfl) ?_
            exact zag 15 hu hi rfl
           ·
            intro D hn hd hcl hu hi
            refine zbs (v := zI r6) (vs := [.string (zbc s1 q1.From q1.To)]) rfl dc rfl (evL.cons (zac (m := 15) hu rfl (hd 15 dc)) evL.nil) rfl zlx (zdd hq8) ?_
            exact zag 16 hu hi rfl
           ·
            intro D hn hd hcl hu hi
            refine zau rfl dc (zac (m := 14) hu rfl (hd 14 dc)) (zac (m := 16) hu rfl (hd 16 dc)) (za5 (r := q1.From + r6) (IntWalk.i64_in _ hg7)) ?_
            exact zag 17 hu hi rfl
           ·
            intro D hn hd hcl hu hi
            refine zan zfb rfl dc (zaL (by rfl) rfl) (show _ = 1 from rfl) ?_
            exact zag 18 hu hi rfl
           ·
            intro D hn hd hcl hu hi
            refine zaM (k := 6) zeL rfl dc (zac (m := 18) hu rfl (hd 18 dc)) rfl rfl ?_
            exact zag 19 hu hi rfl
           ·
            intro D hn hd hcl hu hi
            refine zbi (v := .agg #[zI (q1.From + r6), zI q1.To]) (ps := [(0, .tmp 94), (1, .tmp 96)]) rfl dc (evP.cons (zac (m := 17) hu rfl (hd 17 dc)) (evP.cons (zac (m := 19) hu rfl (hd 19 dc)) evP.nil)) (fun _ => by kernel_rfl) ?_
            exact zag 20 hu hi rfl
           ·
            intro D hn hd hcl hu hi
            refine zbi (v := .agg #[.string (zbc (zbc s1 q1.From q1.To) r4 ((zbc s1 q1.From q1.To).size : Int)), zI r5, zI ((p15.length : Int) - 1), zI (x1.length : Int), zI (q1.From + r6), zI q1.To]) (ps := [(0, .tmp 80), (1, .tmp 82), (2, .tmp 83), (3, .tmp 89), (4, .tmp 97)]) rfl dc (evP.cons (zac (m := 3) hu rfl (hd 3 dc)) (evP.cons (zac (m := 5) hu rfl (hd 5 dc)) (evP.cons (zac (m := 6) hu rfl (hd 6 dc)) (evP.cons (zac (m := 12) hu rfl (hd 12 dc)) (evP.cons (zac (m := 20) hu rfl (hd 20 dc)) evP.nil))))) (fun _ => by kernel_rfl) ?_
            exact zag 21 hu hi rfl
           ·
            intro D hn hd hcl
            refine zbv zia rfl dc (fun b6 => ?_)
            exact fun a w ha hw => ⟨b6, zmC (by rfl) _ _ _ ha, hw⟩
           intro b6
           show TO _ _ _ _ _ _ _ _ _ _ [cells b1 [.string ByteArray.empty, .slice none 0 0] 56, cells b2 [zI 0, zI 0] 26, cells b3 [.string p10, hd13.v] 56, vec encN_T_string 48 1 hd13.v zs2, vec zar 36 6 hd10.v l4, vec zaq 34 2 hd3.v r1, cells b4 [zI q1.From, zI q1.To] 34, own zao (zs2.eraseIdx (((p15.length : Int) - 1 : Int).toNat)), vec encS 9 1 eh1.v x1, cells b6 [.string ByteArray.empty, zI 0, zI 0, zI 0, zI 0, zI 0] 36]
           refine za4 (k := 9) (vs := [.string (zbc (zbc s1 q1.From q1.To) r4 ((zbc s1 q1.From q1.To).size : Int)), zI r5, zI ((p15.length : Int) - 1), zI (x1.length : Int), zI (q1.From + r6), zI q1.To]) (l' := [.string (zbc (zbc s1 q1.From q1.To) r4 ((zbc s1 q1.From q1.To).size : Int)), zI r5, zI ((p15.length : Int) - 1), zI (x1.length : Int), zI (q1.From + r6), zI q1.To]) zfF rfl rfl rfl rfl rfl (show _ ≤ _ by simp) rfl rfl (zaj (zah (zak (zae (zaf rfl dc rfl (zcj (k := 9) (cs := [.string (zbc (zbc s1 q1.From q1.To) r4 ((zbc s1 q1.From q1.To).size : Int)), zI r5, zI ((p15.length : Int) - 1), zI (x1.length : Int), zI (q1.From + r6), zI q1.To]) zgd rfl dc rfl rfl rfl rfl ?_))))))
           refine zbb (cs := [.string (zbc (zbc s1 q1.From q1.To) r4 ((zbc s1 q1.From q1.To).size : Int)), zI r5, zI ((p15.length : Int) - 1), zI (x1.length : Int), zI (q1.From + r6), zI q1.To]) (te := 36) (ps := [(0, .tmp 100)]) rfl dc rfl (fun _ => by kernel_rfl) (fun b7 => ?_)
           show TO _ _ _ _ _ _ _ _ _ _ [cells b1 [.string ByteArray.empty, .slice none 0 0] 56, cells b2 [zI 0, zI 0] 26, cells b3 [.string p10, hd13.v] 56, vec encN_T_string 48 1 hd13.v zs2, vec zar 36 6 hd10.v l4, vec zaq 34 2 hd3.v r1, cells b4 [zI q1.From, zI q1.To] 34, own zao (zs2.eraseIdx (((p15.length : Int) - 1 : Int).toNat)), vec encS 9 1 eh1.v x1, cells b6 [.string (zbc (zbc s1 q1.From q1.To) r4 ((zbc s1 q1.From q1.To).size : Int)), zI r5, zI ((p15.length : Int) - 1), zI (x1.length : Int), zI (q1.From + r6), zI q1.To] 36, cells b7 [.string (zbc (zbc s1 q1.From q1.To) r4 ((zbc s1 q1.From q1.To).size : Int)), zI r5, zI ((p15.length : Int) - 1), zI (x1.length : Int), zI (q1.From + r6), zI q1.To] 36]
           obtain ⟨hg8, h⟩ := zbW h
           refine zbw (k := 4) (k2 := 10) (ys := [(⟨zbc (zbc s1 q1.From q1.To) r4 ((zbc s1 q1.From q1.To).size : Int), r5, (p15.length : Int) - 1, (x1.length : Int), q1.From + r6, q1.To⟩ : Gapi_Verse)]) Tryd.underlying57 zoK zbM ze4 rfl dc rfl rfl rfl rfl rfl rfl hg8 (fun v3 => ?_)
           refine zco (k := 4) rfl (fun hd15 he3 => ?_)
           subst he3
           refine zai rfl dc rfl (zaj (zah (znf (k := 7) rfl (zam [8] kr rfl) rfl (zki (nest := zao) (zbz eq1) rfl) ?_)))
           show TC _ _ _ _ _ _ _ _ _ [cells b1 [.string ByteArray.empty, .slice none 0 0] 56, cells b2 [zI 0, zI 0] 26, cells b3 [.string p10, hd13.v] 56, vec encN_T_string 48 1 hd13.v zs2, vec zar 36 6 hd15.v (l4 ++ [(⟨zbc (zbc s1 q1.From q1.To) r4 ((zbc s1 q1.From q1.To).size : Int), r5, (p15.length : Int) - 1, (x1.length : Int), q1.From + r6, q1.To⟩ : Gapi_Verse)]), vec zaq 34 2 hd3.v r1, cells b4 [zI q1.From, zI q1.To] 34, own zao zs2, emp, cells b6 [.string (zbc (zbc s1 q1.From q1.To) r4 ((zbc s1 q1.From q1.To).size : Int)), zI r5, zI ((p15.length : Int) - 1), zI (x1.length : Int), zI (q1.From + r6), zI q1.To] 36, cells b7 [.string (zbc (zbc s1 q1.From q1.To) r4 ((zbc s1 q1.From q1.To).size : Int)), zI r5, zI ((p15.length : Int) - 1), zI (x1.length : Int), zI (q1.From + r6), zI q1.To] 36]
           obtain ⟨x2, hq9, h⟩ := zbN h
           obtain ⟨eh2, eq2⟩ := zd3 hz2 hq9
           obtain ⟨hg9, h⟩ := zbW h
           refine zdO (k := 7) rfl (zli (zbz eq2)) (fun _ _ => ?_)
           show TC _ _ _ _ _ _ _ _ _ [cells b1 [.string ByteArray.empty, .slice none 0 0] 56, cells b2 [zI 0, zI 0] 26, cells b3 [.string p10, hd13.v] 56, vec encN_T_string 48 1 hd13.v zs2, vec zar 36 6 hd15.v (l4 ++ [(⟨zbc (zbc s1 q1.From q1.To) r4 ((zbc s1 q1.From q1.To).size : Int), r5, (p15.length : Int) - 1, (x1.length : Int), q1.From + r6, q1.To⟩ : Gapi_Verse)]), vec zaq 34 2 hd3.v r1, cells b4 [zI q1.From, zI q1.To] 34, own zao (zs2.eraseIdx (((p15.length : Int) - 1 : Int).toNat)), emp, cells b6 [.string (zbc (zbc s1 q1.From q1.To) r4 ((zbc s1 q1.From q1.To).size : Int)), zI r5, zI ((p15.length : Int) - 1), zI (x1.length : Int), zI (q1.From + r6), zI q1.To] 36, cells b7 [.string (zbc (zbc s1 q1.From q1.To) r4 ((zbc s1 q1.From q1.To).size : Int)), zI r5, zI ((p15.length : Int) - 1), zI (x1.length : Int), zI (q1.From + r6), zI q1.To] 36, vec encS 9 1 eh2.v x2]
           refine zh4 1 ?_
           show TC _ _ _ _ _ _ _ _ _ [cells b1 [.string ByteArray.empty, .slice none 0 0] 56, cells b2 [zI 0, zI 0] 26, cells b3 [.string p10, hd13.v] 56, vec encN_T_string 48 1 hd13.v zs2, vec zar 36 6 hd15.v (l4 ++ [(⟨zbc (zbc s1 q1.From q1.To) r4 ((zbc s1 q1.From q1.To).size : Int), r5, (p15.length : Int) - 1, (x1.length : Int), q1.From + r6, q1.To⟩ : Gapi_Verse)]), vec zaq 34 2 hd3.v r1, cells b4 [zI q1.From, zI q1.To] 34, own zao (zs2.eraseIdx (((p15.length : Int) - 1 : Int).toNat)), emp, cells b6 [.string (zbc (zbc s1 q1.From q1.To) r4 ((zbc s1 q1.From q1.To).size : Int)), zI r5, zI ((p15.length : Int) - 1), zI (x1.length : Int), zI (q1.From + r6), zI q1.To] 36, cells b7 [.string (zbc (zbc s1 q1.From q1.To) r4 ((zbc s1 q1.From q1.To).size : Int)), zI r5, zI ((p15.length : Int) - 1), zI (x1.length : Int), zI (q1.From + r6), zI q1.To] 36, vec encS 9 1 eh2.v x2, emp]
           refine let vals1 : (Nat × Hd) → List (Nat × Nat × Value) := fun b => [(0, 103, .pointer (some ⟨b3, 1, none⟩)), (1, 104, hd13.v), (2, 105, zI ((p15.length : Int) - 1)), (3, 106, .pointer (some ⟨b3, 1, none⟩)), (4, 107, hd13.v), (5, 108, zI ((p15.length : Int) - 1)), (6, 109, .pointer (some ⟨zeD hd13.v, ((p15.length : Int) - 1 : Int).toNat * 1, none⟩)), (7, 110, eh2.v), (8, 111, .string (zbc s1 q1.From q1.To)), (9, 112, .slice (some ⟨b.1, 0, none⟩) 1 1), (10, 113, b.2.v)]; let LL1 : (Nat → Prop) → (Nat × Hd) → List Asn := fun D b => [cells b1 [.string ByteArray.empty, .slice none 0 0] 56, cells b2 [zI 0, zI 0] 26, cells b3 [.string p10, hd13.v] 56, vec encN_T_string 48 1 hd13.v zs2, vec zar 36 6 hd15.v (l4 ++ [(⟨zbc (zbc s1 q1.From q1.To) r4 ((zbc s1 q1.From q1.To).size : Int), r5, (p15.length : Int) - 1, (x1.length : Int), q1.From + r6, q1.To⟩ : Gapi_Verse)]), vec zaq 34 2 hd3.v r1, cells b4 [zI q1.From, zI q1.To] 34, own zao (zs2.eraseIdx (((p15.length : Int) - 1 : Int).toNat)), emp, cells b6 [.string (zbc (zbc s1 q1.From q1.To) r4 ((zbc s1 q1.From q1.To).size : Int)), zI r5, zI ((p15.length : Int) - 1), zI (x1.length : Int), zI (q1.From + r6), zI q1.To] 36, cells b7 [.string (zbc (zbc s1 q1.From q1.To) r4 ((zbc s1 q1.From q1.To).size : Int)), zI r5, zI ((p15.length : Int) - 1), zI (x1.length : Int), zI (q1.From + r6), zI q1.To] 36, eD D (vec encS 9 1 eh2.v x2) [(10, vec encS 9 1 b.2.v (x2 ++ [zbc s1 q1.From q1.To]))], eD D emp [(9, cells b.1 [.string (zbc s1 q1.From q1.To)] 9)]]; ?_
           refine zfB (β := Nat × Hd) 11 ((0 : Nat), Hd.nil) vals1 LL1 mixed kr kr dc (fun _ => rfl) (zaa rfl (zaa rfl (zaa rfl (zaa rfl (zaa rfl (zaa rfl (zaa rfl (zaa rfl (zaa rfl (zaa rfl (zaa rfl (zaa zdX (zaa zdX rfl))))))))))))) (zaH ?_ (zaH ?_ (zaH ?_ (zaH ?_ (zaH ?_ (zaH ?_ (zaH ?_ (zaH ?_ (zaH ?_ (zaH ?_ (zaH ?_ DrawG.nil))))))))))) ?_
           ·
            intro D b hn hd hcl
            obtain ⟨b8, hd16⟩ := b
            refine zaV rfl (zan zdD rfl dc (zaL (by rfl) rfl) (show _ = 1 from rfl) ?_)
            exact zaX (b8, hd16) 0 (by rfl) (by rfl) rfl (congrArg (dl D) rfl) (zaa rfl (zaa rfl (zaa rfl (zaa rfl (zaa rfl (zaa rfl (zaa rfl (zaa rfl (zaa rfl (zaa rfl (zaa rfl (zaa ((zaG (by rfl)).trans rfl) (zaa ((zaG (by rfl)).trans rfl) rfl)))))))))))))
           ·
            intro D b hn hd hcl
            obtain ⟨b8, hd16⟩ := b
            refine zaV rfl (zaM (k := 2) ze1 rfl dc (zac (m := 0) rfl rfl (hd 0 dc)) rfl rfl ?_)
            exact zaX (b8, hd16) 1 (by rfl) (by rfl) rfl (congrArg (dl D) rfl) (zaa rfl (zaa rfl (zaa rfl (zaa rfl (zaa rfl (zaa rfl (zaa rfl (zaa rfl (zaa rfl (zaa rfl (zaa rfl (zaa ((zaG (by rfl)).trans rfl) (zaa ((zaG (by rfl)).trans rfl) rfl)))))))))))))
           ·
            intro D b hn hd hcl
            obtain ⟨b8, hd16⟩ := b
            refine zaV rfl (zaf rfl dc (zaL (by rfl) rfl) ?_)
            exact zaX (b8, hd16) 2 (by rfl) (by rfl) rfl (congrArg (dl D) rfl) (zaa rfl (zaa rfl (zaa rfl (zaa rfl (zaa rfl (zaa rfl (zaa rfl (zaa rfl (zaa rfl (zaa rfl (zaa rfl (zaa ((zaG (by rfl)).trans rfl) (zaa ((zaG (by rfl)).trans rfl) rfl)))))))))))))
           ·
            intro D b hn hd hcl
            obtain ⟨b8, hd16⟩ := b
            refine zaV (zaa rfl (zaa rfl (zaa rfl (zaa rfl (zaa rfl (zaa rfl (zaa rfl (zaa rfl (zaa rfl (zaa rfl (zaa rfl (zaa (zat (fun hD => hn (hcl 4 _ rfl (hcl 6 _ rfl (hcl 7 _ rfl (hcl 10 _ rfl hD 7 dc) 6 dc) 4 dc) 3 dc)) zaF) rfl)))))))))))) ?_
            refine zan zdD rfl dc (zaL (by rfl) rfl) (show _ = 1 from rfl) ?_
            exact zaX (b8, hd16) 3 (by rfl) (by rfl) rfl (congrArg (dl D) rfl) (zaa rfl (zaa rfl (zaa rfl (zaa rfl (zaa rfl (zaa rfl (zaa rfl (zaa rfl (zaa rfl (zaa rfl (zaa rfl (zaa ((zaG (by rfl)).trans (zat (fun hD => hn (hcl 4 _ rfl (hcl 6 _ rfl (hcl 7 _ rfl (hcl 10 _ rfl hD 7 dc) 6 dc) 4 dc) 3 dc)) zaF)) (zaa ((zaG (by rfl)).trans rfl) rfl)))))))))))))
           ·
            intro D b hn hd hcl
            obtain ⟨b8, hd16⟩ := b
            refine zaV (zaa rfl (zaa rfl (zaa rfl (zaa rfl (zaa rfl (zaa rfl (zaa rfl (zaa rfl (zaa rfl (zaa rfl (zaa rfl (zaa (zat (fun hD => hn (hcl 6 _ rfl (hcl 7 _ rfl (hcl 10 _ rfl hD 7 dc) 6 dc) 4 dc)) zaF) rfl)))))))))))) ?_
            refine zaM (k := 2) ze1 rfl dc (zac (m := 3) rfl rfl (hd 3 dc)) rfl rfl ?_
            exact zaX (b8, hd16) 4 (by rfl) (by rfl) rfl (congrArg (dl D) rfl) (zaa rfl (zaa rfl (zaa rfl (zaa rfl (zaa rfl (zaa rfl (zaa rfl (zaa rfl (zaa rfl (zaa rfl (zaa rfl (zaa ((zaG (by rfl)).trans (zat (fun hD => hn (hcl 6 _ rfl (hcl 7 _ rfl (hcl 10 _ rfl hD 7 dc) 6 dc) 4 dc)) zaF)) (zaa ((zaG (by rfl)).trans rfl) rfl)))))))))))))
           ·
            intro D b hn hd hcl
            obtain ⟨b8, hd16⟩ := b
            refine zaV (zaa rfl (zaa rfl (zaa rfl (zaa rfl (zaa rfl (zaa rfl (zaa rfl (zaa rfl (zaa rfl (zaa rfl (zaa rfl (zaa (zat (fun hD => hn (hcl 6 _ rfl (hcl 7 _ rfl (hcl 10 _ rfl hD 7 dc) 6 dc) 5 dc)) zaF) rfl)))))))))))) ?_
            refine zaf rfl dc (zaL (by rfl) rfl) ?_
            exact zaX (b8, hd16) 5 (by rfl) (by rfl) rfl (congrArg (dl D) rfl) (zaa rfl (zaa rfl (zaa rfl (zaa rfl (zaa rfl (zaa rfl (zaa rfl (zaa rfl (zaa rfl (zaa rfl (zaa rfl (zaa ((zaG (by rfl)).trans (zat (fun hD => hn (hcl 6 _ rfl (hcl 7 _ rfl (hcl 10 _ rfl hD 7 dc) 6 dc) 5 dc)) zaF)) (zaa ((zaG (by rfl)).trans rfl) rfl)))))))))))))
           ·
            intro D b hn hd hcl
            obtain ⟨b8, hd16⟩ := b
            refine zaV (zaa rfl (zaa rfl (zaa rfl (zaa rfl (zaa rfl (zaa rfl (zaa rfl (zaa rfl (zaa rfl (zaa rfl (zaa rfl (zaa (zat (fun hD => hn (hcl 7 _ rfl (hcl 10 _ rfl hD 7 dc) 6 dc)) zaF) rfl)))))))))))) ?_
            refine zbK (k := 3) eq2 Tryd.underlying54 zez rfl dc (zac (m := 4) rfl rfl (hd 4 dc)) (zac (m := 5) rfl rfl (hd 5 dc)) rfl rfl ?_
            exact zaX (b8, hd16) 6 (by rfl) (by rfl) rfl (congrArg (dl D) rfl) (zaa rfl (zaa rfl (zaa rfl (zaa rfl (zaa rfl (zaa rfl (zaa rfl (zaa rfl (zaa rfl (zaa rfl (zaa rfl (zaa ((zaG (by rfl)).trans (zat (fun hD => hn (hcl 7 _ rfl (hcl 10 _ rfl hD 7 dc) 6 dc)) zaF)) (zaa ((zaG (by rfl)).trans rfl) rfl)))))))))))))
           ·
            intro D b hn hd hcl
            obtain ⟨b8, hd16⟩ := b
            refine zaV (zaa rfl (zaa rfl (zaa rfl (zaa rfl (zaa rfl (zaa rfl (zaa rfl (zaa rfl (zaa rfl (zaa rfl (zaa rfl (zaa (zat (fun hD => hn (hcl 10 _ rfl hD 7 dc)) zaF) rfl)))))))))))) ?_
            refine zcV (i := ((p15.length : Int) - 1 : Int).toNat) (j := 0) (k := 3) (q := (x2, eh2)) ze8 zba rfl dc (zac (m := 6) rfl rfl (hd 6 dc)) rfl (zbz eq2) rfl dc rfl ?_
            exact zaX (b8, hd16) 7 (by rfl) (by rfl) rfl (congrArg (dl D) rfl) (zaa rfl (zaa rfl (zaa rfl (zaa rfl (zaa rfl (zaa rfl (zaa rfl (zaa rfl (zaa rfl (zaa rfl (zaa rfl (zaa ((zaG (by rfl)).trans (zat (fun hD => hn (hcl 10 _ rfl hD 7 dc)) zaF)) (zaa ((zaG (by rfl)).trans rfl) rfl)))))))))))))
           ·
            intro D b hn hd hcl
            obtain ⟨b8, hd16⟩ := b
            refine zaV (zaa rfl (zaa rfl (zaa rfl (zaa rfl (zaa rfl (zaa rfl (zaa rfl (zaa rfl (zaa rfl (zaa rfl (zaa rfl (zaa (zat (fun hD => hn (hcl 9 _ rfl (hcl 10 _ rfl hD 9 dc) 8 dc)) zaF) (zaa (zat (fun hD => hn (hcl 9 _ rfl hD 8 dc)) zaF) rfl))))))))))))) ?_
            refine zaf rfl dc (zaL (by rfl) rfl) ?_
            exact zaX (b8, hd16) 8 (by rfl) (by rfl) rfl (congrArg (dl D) rfl) (zaa rfl (zaa rfl (zaa rfl (zaa rfl (zaa rfl (zaa rfl (zaa rfl (zaa rfl (zaa rfl (zaa rfl (zaa rfl (zaa ((zaG (by rfl)).trans (zat (fun hD => hn (hcl 9 _ rfl (hcl 10 _ rfl hD 9 dc) 8 dc)) zaF)) (zaa ((zaG (by rfl)).trans (zat (fun hD => hn (hcl 9 _ rfl hD 8 dc)) zaF)) rfl)))))))))))))
           ·
            intro D b hn hd hcl
            obtain ⟨_, hd16⟩ := b
            refine zaV (zaa rfl (zaa rfl (zaa rfl (zaa rfl (zaa rfl (zaa rfl (zaa rfl (zaa rfl (zaa rfl (zaa rfl (zaa rfl (zaa (zat (fun hD => hn (hcl 10 _ rfl hD 9 dc)) zaF) (zaa (zat hn zaF) rfl))))))))))))) ?_
            refine zbb (cs := [.string (zbc s1 q1.From q1.To)]) (te := 9) (ps := [(0, .tmp 111)]) rfl dc (evP.cons (zac (m := 8) rfl rfl (hd 8 dc)) evP.nil) (fun _ => by kernel_rfl) (fun b8 => ?_)
            refine zfA 12 rfl rfl ?_
            show TO _ _ _ _ _ _ _ _ _ _ [cells b1 [.string ByteArray.empty, .slice none 0 0] 56, cells b2 [zI 0, zI 0] 26, cells b3 [.string p10, hd13.v] 56, vec encN_T_string 48 1 hd13.v zs2, vec zar 36 6 hd15.v (l4 ++ [(⟨zbc (zbc s1 q1.From q1.To) r4 ((zbc s1 q1.From q1.To).size : Int), r5, (p15.length : Int) - 1, (x1.length : Int), q1.From + r6, q1.To⟩ : Gapi_Verse)]), vec zaq 34 2 hd3.v r1, cells b4 [zI q1.From, zI q1.To] 34, own zao (zs2.eraseIdx (((p15.length : Int) - 1 : Int).toNat)), emp, cells b6 [.string (zbc (zbc s1 q1.From q1.To) r4 ((zbc s1 q1.From q1.To).size : Int)), zI r5, zI ((p15.length : Int) - 1), zI (x1.length : Int), zI (q1.From + r6), zI q1.To] 36, cells b7 [.string (zbc (zbc s1 q1.From q1.To) r4 ((zbc s1 q1.From q1.To).size : Int)), zI r5, zI ((p15.length : Int) - 1), zI (x1.length : Int), zI (q1.From + r6), zI q1.To] 36, vec encS 9 1 eh2.v x2, cells b8 [.string (zbc s1 q1.From q1.To)] 9]
            exact zaX (b8, hd16) 9 (by rfl) (by rfl) rfl (zap (fun _ => rfl) (zap (fun _ => rfl) (zap (fun _ => rfl) (zap (fun _ => rfl) (zap (fun _ => rfl) (zap (fun _ => rfl) (zap (fun _ => rfl) (zap (fun _ => rfl) (zap (fun _ => rfl) (zap (fun hD => absurd hD hn) (zap (fun _ => rfl) rfl))))))))))) (zaa rfl (zaa rfl (zaa rfl (zaa rfl (zaa rfl (zaa rfl (zaa rfl (zaa rfl (zaa rfl (zaa rfl (zaa rfl (zaa ((zaG (by rfl)).trans (zat (fun hD => hn (hcl 10 _ rfl hD 9 dc)) zaF)) (zaa (zb9 (Or.inr rfl) rfl) rfl)))))))))))))
           ·
            intro D b hn hd hcl
            obtain ⟨b8, _⟩ := b
            refine zaV (zaa rfl (zaa rfl (zaa rfl (zaa rfl (zaa rfl (zaa rfl (zaa rfl (zaa rfl (zaa rfl (zaa rfl (zaa rfl (zaa (zat hn zaF) (zaa (zb9 (hd 9 dc) rfl) rfl))))))))))))) ?_
            refine zbw (k := 11) (k2 := 12) (ys := [zbc s1 q1.From q1.To]) Tryd.underlying48 zoJ zev zgE rfl dc (zac (m := 7) rfl rfl (hd 7 dc)) (zac (m := 9) rfl rfl (hd 9 dc)) rfl rfl rfl rfl hg9 (fun v4 => ?_)
            refine zco (k := 11) rfl (fun hd16 he4 => ?_)
            subst he4
            exact zaX (b8, hd16) 10 (by rfl) (by rfl) rfl (zap (fun _ => rfl) (zap (fun _ => rfl) (zap (fun _ => rfl) (zap (fun _ => rfl) (zap (fun _ => rfl) (zap (fun _ => rfl) (zap (fun _ => rfl) (zap (fun _ => rfl) (zap (fun _ => rfl) (zap (fun _ => rfl) (zap (fun hD => absurd hD hn) rfl))))))))))) (zaa rfl (zaa rfl (zaa rfl (zaa rfl (zaa rfl (zaa rfl (zaa rfl (zaa rfl (zaa rfl (zaa rfl (zaa rfl (zaa (zb9 (Or.inr rfl) rfl) (zaa ((zaG (by rfl)).trans (zb9 (hd 9 dc) rfl)) rfl)))))))))))))
           intro D b hall
           obtain ⟨b8, hd16⟩ := b
           refine zaV (zaa rfl (zaa rfl (zaa rfl (zaa rfl (zaa rfl (zaa rfl (zaa rfl (zaa rfl (zaa rfl (zaa rfl (zaa rfl (zaa (zb9 (hall 10 dc) rfl) (zaa (zb9 (hall 9 dc) rfl) rfl))))))))))))) (zbK (k := 3) eq2 Tryd.underlying54 zez rfl dc rfl rfl rfl rfl ?_)
           refine zfz (i := ((p15.length : Int) - 1 : Int).toNat) (j := 0) (k := 3) (q := (x2, eh2)) (q' := (x2 ++ [zbc s1 q1.From q1.To], hd16)) zez zba rfl rfl rfl rfl (zbz eq2) rfl dc rfl (fun _ _ => rfl) ?_
           show TO _ _ _ _ _ _ _ _ _ _ [cells b1 [.string ByteArray.empty, .slice none 0 0] 56, cells b2 [zI 0, zI 0] 26, cells b3 [.string p10, hd13.v] 56, vec encN_T_string 48 1 hd13.v (zs2.set (((p15.length : Int) - 1 : Int).toNat) (x2 ++ [zbc s1 q1.From q1.To], hd16)), vec zar 36 6 hd15.v (l4 ++ [(⟨zbc (zbc s1 q1.From q1.To) r4 ((zbc s1 q1.From q1.To).size : Int), r5, (p15.length : Int) - 1, (x1.length : Int), q1.From + r6, q1.To⟩ : Gapi_Verse)]), vec zaq 34 2 hd3.v r1, cells b4 [zI q1.From, zI q1.To] 34, own zao (zs2.eraseIdx (((p15.length : Int) - 1 : Int).toNat)), emp, cells b6 [.string (zbc (zbc s1 q1.From q1.To) r4 ((zbc s1 q1.From q1.To).size : Int)), zI r5, zI ((p15.length : Int) - 1), zI (x1.length : Int), zI (q1.From + r6), zI q1.To] 36, cells b7 [.string (zbc (zbc s1 q1.From q1.To) r4 ((zbc s1 q1.From q1.To).size : Int)), zI r5, zI ((p15.length : Int) - 1), zI (x1.length : Int), zI (q1.From + r6), zI q1.To] 36, vec encS 9 1 hd16.v (x2 ++ [zbc s1 q1.From q1.To]), cells b8 [.string (zbc s1 q1.From q1.To)] 9]
           refine zew (k := 7) rfl (zam [11] kr rfl) rfl (zki (nest := zao) (zs := zs2) (z := (x2 ++ [zbc s1 q1.From q1.To], hd16)) (ziS (zbz eq2)) zgp) ?_
           show TO _ _ _ _ _ _ _ _ _ _ [cells b1 [.string ByteArray.empty, .slice none 0 0] 56, cells b2 [zI 0, zI 0] 26, cells b3 [.string p10, hd13.v] 56, vec encN_T_string 48 1 hd13.v (zs2.set (((p15.length : Int) - 1 : Int).toNat) (x2 ++ [zbc s1 q1.From q1.To], hd16)), vec zar 36 6 hd15.v (l4 ++ [(⟨zbc (zbc s1 q1.From q1.To) r4 ((zbc s1 q1.From q1.To).size : Int), r5, (p15.length : Int) - 1, (x1.length : Int), q1.From + r6, q1.To⟩ : Gapi_Verse)]), vec zaq 34 2 hd3.v r1, cells b4 [zI q1.From, zI q1.To] 34, own zao (zs2.set (((p15.length : Int) - 1 : Int).toNat) (x2 ++ [zbc s1 q1.From q1.To], hd16)), emp, cells b6 [.string (zbc (zbc s1 q1.From q1.To) r4 ((zbc s1 q1.From q1.To).size : Int)), zI r5, zI ((p15.length : Int) - 1), zI (x1.length : Int), zI (q1.From + r6), zI q1.To] 36, cells b7 [.string (zbc (zbc s1 q1.From q1.To) r4 ((zbc s1 q1.From q1.To).size : Int)), zI r5, zI ((p15.length : Int) - 1), zI (x1.length : Int), zI (q1.From + r6), zI q1.To] 36, emp, cells b8 [.string (zbc s1 q1.From q1.To)] 9]
           refine zaj (zav (zgF (k := 3) rfl (zam [7] kr rfl) rfl (ziC (enc := encN_T_string) (nest := zao) (zoU hz2)) ?_))
           show TX _ _ _ _ _ _ _ [cells b1 [.string ByteArray.empty, .slice none 0 0] 56, cells b2 [zI 0, zI 0] 26, cells b3 [.string p10, hd13.v] 56, zcU encN_T_string zao 48 1 hd13.v (p15.set ((p15.length : Int) - 1 : Int).toNat (x2 ++ [zbc s1 q1.From q1.To])), vec zar 36 6 hd15.v (l4 ++ [(⟨zbc (zbc s1 q1.From q1.To) r4 ((zbc s1 q1.From q1.To).size : Int), r5, (p15.length : Int) - 1, (x1.length : Int), q1.From + r6, q1.To⟩ : Gapi_Verse)]), vec zaq 34 2 hd3.v r1, cells b4 [zI q1.From, zI q1.To] 34, emp, emp, cells b6 [.string (zbc (zbc s1 q1.From q1.To) r4 ((zbc s1 q1.From q1.To).size : Int)), zI r5, zI ((p15.length : Int) - 1), zI (x1.length : Int), zI (q1.From + r6), zI q1.To] 36, cells b7 [.string (zbc (zbc s1 q1.From q1.To) r4 ((zbc s1 q1.From q1.To).size : Int)), zI r5, zI ((p15.length : Int) - 1), zI (x1.length : Int), zI (q1.From + r6), zI q1.To] 36, emp, cells b8 [.string (zbc s1 q1.From q1.To)] 9]
           exact zaJ (p10, p15.set ((p15.length : Int) - 1 : Int).toNat (x2 ++ [zbc s1 q1.From q1.To]), l4 ++ [(⟨zbc (zbc s1 q1.From q1.To) r4 ((zbc s1 q1.From q1.To).size : Int), r5, (p15.length : Int) - 1, (x1.length : Int), q1.From + r6, q1.To⟩ : Gapi_Verse)], false, true, hd13, hd15) h rfl (zab rfl (zab rfl (zab rfl (zab rfl (zab rfl (zab rfl (zab rfl (zab rfl (zab rfl (zay)))))))))) (zam [0, 1, 2, 3, 4, 5] kr rfl)
     ·
      rintro ⟨p12, p13, l5, first4, row4, hd11, hd12⟩ h
      rw [hj2] at h
      show TC _ _ _ _ _ ([]) _ _ [(0, .string s1), (2, zP b1), (4, zP b2), (5, zP b3), (6, hd12.v), (7, hd3.v), (8, .bool first4), (9, .bool row4), (10, zI i3)] [cells b1 [.string ByteArray.empty, .slice none 0 0] 56, cells b2 [zI 0, zI 0] 26, cells b3 [.string p12, hd11.v] 56, zcU encN_T_string zao 48 1 hd11.v p13, vec zar 36 6 hd12.v l5, vec zaq 34 2 hd3.v r1]
      refine zae (zaf rfl dc rfl ?_)
      obtain ⟨hg10, h⟩ := zbW h
      refine zau rfl dc rfl rfl (za5 (r := i3 + 1) (IntWalk.i64_in _ hg10)) (zai rfl dc rfl (zaj ?_))
      subst hag1
      exact za6 (n1, p12, p13, l5, first4, row4, i3 + 1, hd11, hd12) h (Nat.lt_succ_self _) rfl (zab rfl (zab rfl (zab rfl (zab rfl (zab rfl (zab rfl (zab rfl (zab rfl (zab rfl (zay)))))))))) (zam [0, 1, 2, 3, 4, 5] kr rfl)
    ·
     have h := zaU hb2 h
     refine zbl (zaC (zaC (zaN ?_)))
     exact zaJ (p10, p11, l4, hd9, hd10) h rfl (zab rfl (zab rfl (zab rfl (zab rfl (zay))))) (zam [0, 1, 2, 3, 4] kr rfl)
  ·
   rintro ⟨p1, p2, l1, hd1, hd2⟩ h
   rw [hj1] at h
   show TC _ _ _ _ _ ([]) _ _ [(2, zP b1), (4, zP b2), (5, zP b3), (6, hd2.v)] [cells b1 [.string ByteArray.empty, .slice none 0 0] 56, cells b2 [zI 0, zI 0] 26, cells b3 [.string p1, hd1.v] 56, zcU encN_T_string zao 48 1 hd1.v p2, vec zar 36 6 hd2.v l1]
   refine zak (zae (zcj (k := 2) (cs := [.string p1, hd1.v]) zgO rfl dc rfl rfl rfl rfl (zaf rfl dc rfl ?_)))
   refine zbi (v := .agg #[zI 0, zI 0]) (ps := []) rfl dc rfl (fun _ => by kernel_rfl) ?_
   refine za4 (k := 0) (vs := [.string p1, hd1.v]) (l' := [.string p1, hd1.v]) zke rfl rfl rfl rfl rfl (show _ ≤ _ by simp) rfl rfl (zai rfl dc rfl (za4 (k := 1) (vs := [zI 0, zI 0]) (l' := [zI 0, zI 0]) zgM rfl rfl rfl rfl rfl (show _ ≤ _ by simp) rfl rfl ?_))
   show TO _ _ _ _ _ _ _ _ _ _ [cells b1 [.string p1, hd1.v] 56, cells b2 [zI 0, zI 0] 26, cells b3 [.string p1, hd1.v] 56, zcU encN_T_string zao 48 1 hd1.v p2, vec zar 36 6 hd2.v l1]
   refine zaj (zah (zaQ ?_))
   cases h
   exact zaW (rs := [.cell 2 56, .tmp 3, .cell 4 26]) (hd1, hd2.v) (.inl rfl) Tryd.results30 (.cons (.cells zgO (k := 0) rfl rfl rfl) (.cons (.tmp rfl) (.cons (.cells zie (k := 1) rfl rfl rfl) .nil))) rfl (zam [3, 4] kr rfl)
end Go.Proofs.YtgfkogafkhbgnaaDoor
namespace Go.Proofs.YtgfkogafkhbgnaaDoor
open Go.RowKit Go.Lib
set_option linter.unusedVariables false
set_option linter.unusedSimpArgs false
/-! ### Texts of bytes -/
def mkB (l : List UInt8) : ByteArray := ⟨l.toArray⟩
theorem zfZ (l : List UInt8) : (mkB l).data.toList = l := rfl
theorem za0 (l : List UInt8) : (mkB l).size = l.length := by rw [← ziD, zfZ]
theorem zgh {a b : List UInt8} (h : mkB a = mkB b) : a = b := by
  have := congrArg (fun s : ByteArray => s.data.toList) h
  exact this
theorem zjb (l : List UInt8) (i j : Nat) : zbc (mkB l) (i : Int) (j : Int) = mkB ((l.drop i).take (j - i)) := by
  unfold zbc
  have h : ∀ a b : ByteArray, a.data.toList = b.data.toList → a = b := fun a b h => by
    have : mkB a.data.toList = mkB b.data.toList := by rw [h]
    exact this
  apply h
  rw [zfZ]
  simp only [Int.toNat_natCast, ByteArray.data_extract, Array.toList_extract, List.extract, zfZ]
theorem zhW (l : List UInt8) (i : Nat) : zbc (mkB l) (i : Int) ((mkB l).size : Int) = mkB (l.drop i) := by
  rw [zjb, za0, List.take_of_length_le (by rw [List.length_drop]; omega)]

/-! ### Blank lines -/
def isB (b : UInt8) : Bool := b == 32 || b == 9
def zgj (l : List UInt8) : Bool := l.all isB
theorem zgb {p : UInt8 → Bool} : ∀ {l : List UInt8} {c : UInt8} {t : List UInt8}, l.dropWhile p = c :: t → p c = false
  | [], c, t, h => by cases h
  | b :: l, c, t, h => by
    rw [List.dropWhile_cons] at h
    split at h
    · exact zgb h
    · rename_i hb
      rw [← (List.cons.inj h).1]; simpa using hb
theorem zeI {p : UInt8 → Bool} : ∀ (l : List UInt8), l.dropWhile p = [] ↔ l.all p = true
  | [] => by simp
  | b :: l => by
    rw [List.dropWhile_cons, List.all_cons]
    split
    · rename_i h; rw [zeI l, h, Bool.true_and]
    · rename_i h; rw [Bool.not_eq_true] at h; rw [h]; simp
theorem zip (l : List UInt8) : Lib.trimS l [32, 9] = [] ↔ zgj l = true := by
  have hc : (fun x => ([32, 9] : List UInt8).contains x) = isB := by
    funext x; unfold isB; simp only [List.contains_cons, List.contains_nil, Bool.or_false]
  unfold Lib.trimS Lib.trimLeftS Lib.trimRightS zgj
  rw [hc]
  cases hd : l.reverse.dropWhile isB with
  | nil =>
    have := (zeI l.reverse).1 hd
    rw [List.all_reverse] at this
    rw [this]; simp
  | cons c t =>
    have h1 := zgb hd
    rw [zeI, List.all_reverse, List.all_cons, h1]
    have h2 : l.all isB = false := by
      cases h : l.all isB with
      | false => rfl
      | true =>
        rw [← List.all_reverse, ← zeI, hd] at h; cases h
    rw [h2]; simp
theorem zmq (l : List UInt8) (h : l.length ≤ 9223372036854775807) : zdq (mkB l) = some (zgj l) := by
  unfold zdq
  refine zcq (by rw [za0]; exact h) (congrArg some ?_)
  unfold zkN
  rw [zfZ]
  have : (⟨(Lib.trimS l [32, 9]).toArray⟩ : ByteArray) = mkB (Lib.trimS l [32, 9]) := rfl
  rw [this, show (⟨#[]⟩ : ByteArray) = mkB [] from rfl]
  cases hb : zgj l with
  | true => exact decide_eq_true (by rw [(zip l).2 hb])
  | false => exact decide_eq_false (fun e => by have := (zip l).1 (zgh e); rw [hb] at this; cases this)
/-- A loop that looks at a text's bytes one by one. -/
theorem zhX {R : Type} {F : (Int → Option R) → Int → Option R} {bot : Int → Option R} (l : List UInt8) (g : UInt8 → Option (Option R)) (J : Option R)
    (hs : ∀ ag (i : Nat) b t, l.drop i = b :: t → F ag (i : Int) = (g b).getD (ag ((i + 1 : Nat) : Int))) (he : ∀ ag, F ag (l.length : Int) = J) :
    ∀ (n i : Nat), i ≤ l.length → l.length - i < n → za2 bot F n (i : Int) = ((l.drop i).findSome? g).getD J := by
  intro n
  induction n with
  | zero => intro i h1 h2; omega
  | succ n ih =>
    intro i hi hn
    rw [zbq]
    cases hd : l.drop i with
    | nil =>
      have : l.length ≤ i := List.drop_eq_nil_iff.1 hd
      obtain rfl : i = l.length := by omega
      rw [he]; rfl
    | cons b t =>
      have hlt : i < l.length := by
        rcases Nat.lt_or_ge i l.length with h | h
        · exact h
        · rw [List.drop_eq_nil_of_le h] at hd; cases hd
      rw [hs _ i b t hd, List.findSome?_cons]
      cases hg : g b with
      | some x => rfl
      | none =>
        show za2 bot F n _ = _
        rw [ih (i + 1) (by omega) (by omega), zey hd]
theorem zpE {l : List UInt8} (h : l.length ≤ 1073741824) : l.length - 0 < zbG := by unfold zbG; omega
theorem zix (l : List UInt8) (h : l.length ≤ 1073741824) : zcX (mkB l) = some (zgj l) := by
  unfold zcX
  refine zcx ?_
  refine (zhX l (fun b => if isB b then none else some (some false)) (some true) (fun ag i b t hd => ?_) (fun ag => ?_) zbG 0 (Nat.zero_le _) (zpE h)).trans ?_
  · unfold zc5
    obtain ⟨hb, hlt⟩ := zel (s := mkB l) hd
    refine zaY (decide_eq_true (by omega)) (zcx (za7 hb ?_))
    rw [za0] at hlt
    have go : (grd (I64 ((i : Int) + 1)) <| ag ((i : Int) + 1)) = ag ((i + 1 : Nat) : Int) := zcq ⟨by omega, by omega⟩ (by rw [show (i : Int) + 1 = ((i + 1 : Nat) : Int) by omega])
    unfold isB
    by_cases h32 : b = 32
    · refine zaP (by unfold bne; rw [n32, decide_eq_true h32]; rfl) ?_
      rw [h32]; exact go
    · refine zaY (by unfold bne; rw [n32, decide_eq_false h32]; rfl) ?_
      rw [beq_eq_false_iff_ne.2 h32, Bool.false_or]
      by_cases h9 : b = 9
      · refine zaP (by unfold bne; rw [n9, decide_eq_true h9]; rfl) ?_
        rw [h9]; exact go
      · refine zaY (by unfold bne; rw [n9, decide_eq_false h9]; rfl) ?_
        rw [beq_eq_false_iff_ne.2 h9]; rfl
  · unfold zc5
    exact zaP (decide_eq_false (by rw [za0]; omega)) rfl
  · rw [List.drop_zero]
    unfold zgj
    clear h
    induction l with
    | nil => rfl
    | cons b l ih =>
      rw [List.findSome?_cons, List.all_cons]
      cases hb : isB b with
      | true => simpa using ih
      | false => rfl

/-! ### Title lines -/
def zh9 : List UInt8 → Bool
  | [] => false
  | [b] => b == 35
  | b :: c :: _ => b == 35 && c == 32
theorem zok (l p : List UInt8) : zbr (mkB l) (mkB p) = some (decide (p.length ≤ l.length) && decide (l.take p.length = p)) := by
  unfold zbr
  rw [za0, za0]
  by_cases h : p.length ≤ l.length
  · refine zaY (decide_eq_true (by omega)) (zcq ⟨by omega, by omega, by omega⟩ (congrArg some ?_))
    have := zjb l 0 p.length
    rw [show ((0 : Nat) : Int) = 0 from rfl] at this
    rw [this, List.drop_zero, Nat.sub_zero, decide_eq_true h, Bool.true_and]
    by_cases e : l.take p.length = p
    · rw [decide_eq_true e, decide_eq_true (by rw [e])]
    · rw [decide_eq_false e, decide_eq_false (fun x => e (zgh x))]
  · refine zaP (decide_eq_false (by omega)) ?_
    rw [decide_eq_false h]; rfl
theorem zkP (l : List UInt8) : zdK (mkB l) = some (zh9 l) := by
  unfold zdK zdu
  rw [show (⟨#[35]⟩ : ByteArray) = mkB [35] from rfl, show (⟨#[35, 32]⟩ : ByteArray) = mkB [35, 32] from rfl]
  by_cases h : l = [35]
  · subst h; exact zaY (decide_eq_true rfl) rfl
  · refine zaP (decide_eq_false (fun e => h (zgh e))) (za7 (za7 (zok _ _) rfl) (congrArg some ?_))
    match l with
    | [] => rfl
    | [b] =>
      have hb : b ≠ 35 := fun e => h (by rw [e])
      show _ = (b == 35)
      rw [beq_eq_false_iff_ne.2 hb]; rfl
    | b :: c :: t =>
      show _ = (b == 35 && c == 32)
      rw [decide_eq_true (by simp), Bool.true_and]
      show decide ([b, c] = [35, 32]) = _
      by_cases hb : b = 35 <;> by_cases hc : c = 32 <;> simp [hb, hc]
theorem zhE (l : List UInt8) : zdB (mkB l) = some (zh9 l) := by
  unfold zdB
  rw [show (⟨#[35]⟩ : ByteArray) = mkB [35] from rfl]
  by_cases h : l = [35]
  · subst h; exact zaY (decide_eq_true rfl) rfl
  · refine zaP (decide_eq_false (fun e => h (zgh e))) ?_
    match l with
    | [] => exact zaP (decide_eq_false (by rw [za0]; simp)) rfl
    | [b] =>
      have hb : b ≠ 35 := fun e => h (by rw [e])
      refine zaP (decide_eq_false (by rw [za0]; simp)) ?_
      show _ = some (b == 35)
      rw [beq_eq_false_iff_ne.2 hb]
    | b :: c :: t =>
      have h0 := (zel (s := mkB (b :: c :: t)) (i := 0) (b := b) (t := c :: t) rfl).1
      have h1 := (zel (s := mkB (b :: c :: t)) (i := 1) (b := c) (t := t) rfl).1
      refine zaY (decide_eq_true (by rw [za0]; simp; omega)) (za7 h0 ?_)
      show _ = some (b == 35 && c == 32)
      by_cases hb : b = 35
      · refine zaY (by rw [n35]; exact decide_eq_true hb) (za7 h1 (congrArg some ?_))
        rw [n32, beq_iff_eq.2 hb, Bool.true_and]
        by_cases hc : c = 32
        · rw [decide_eq_true hc, hc]; rfl
        · rw [decide_eq_false hc, beq_eq_false_iff_ne.2 hc]
      · refine zaP (by rw [n35]; exact decide_eq_false hb) ?_
        rw [beq_eq_false_iff_ne.2 hb]; rfl
theorem znA (l : List UInt8) (h : zh9 l = true) : zcB (mkB (l.drop 1)) (mkB [32]) = some (mkB (l.drop 2)) := by
  unfold zcB zbL
  refine za7 (za7 (zok _ _) (?_ : _ = some (mkB (l.drop 2)))) rfl
  match l with
  | [] => cases h
  | [b] => exact zaP (by simp) rfl
  | b :: c :: t =>
    have hc : c = 32 := by
      unfold zh9 at h; rw [Bool.and_eq_true] at h; exact beq_iff_eq.1 h.2
    subst hc
    refine zaY (by simp) (zcq ⟨by omega, by rw [za0, za0, List.drop_one, List.tail_cons, List.length_cons]; simp only [List.length_cons, List.length_nil]; omega, by omega⟩ (congrArg some ?_))
    exact zhW (32 :: t) 1

/-! ### Indents -/
def ind (l : List UInt8) : Nat := (l.takeWhile (· == 32)).length
theorem zhm (b : UInt8) (l : List UInt8) : ind (b :: l) = if b = 32 then ind l + 1 else 0 := by
  unfold ind
  rw [List.takeWhile_cons]
  by_cases h : b = 32
  · subst h; simp
  · rw [if_neg h, beq_eq_false_iff_ne.2 h]; rfl
theorem zme (l : List UInt8) : ind l ≤ l.length := by
  induction l with
  | nil => exact Nat.le_refl _
  | cons b l ih => rw [zhm, List.length_cons]; split <;> omega
theorem zge (l : List UInt8) (h : l.length ≤ 1073741824) : zbJ (mkB l) = some (ind l : Int) := by
  unfold zbJ
  refine zcx ?_
  have key : ∀ (n i : Nat), i ≤ l.length → l.length - i < n → za2 (fun _ => none) (zcv (mkB l) (fun (n1 : Int) => some n1)) n (i : Int) = some ((i + ind (l.drop i) : Nat) : Int) := by
    intro n
    induction n with
    | zero => intro i h1 h2; omega
    | succ n ih =>
      intro i hi hn
      rw [zbq]
      obtain ⟨ag, hag⟩ : ∃ ag, ag = za2 (fun _ => none) (zcv (mkB l) (fun (n1 : Int) => some n1)) n := ⟨_, rfl⟩
      rw [← hag] at ih ⊢
      unfold zcv
      cases hd : l.drop i with
      | nil =>
        have : l.length ≤ i := List.drop_eq_nil_iff.1 hd
        exact zaP (decide_eq_false (by rw [za0]; omega)) rfl
      | cons b t =>
        obtain ⟨hb, hlt⟩ := zel (s := mkB l) hd
        rw [za0] at hlt
        refine zaY (decide_eq_true (by rw [za0]; omega)) (za7 hb ?_)
        rw [zhm]
        by_cases h32 : b = 32
        · refine zaY (by rw [n32]; exact decide_eq_true h32) (zcq ⟨by omega, by omega⟩ ?_)
          have := ih (i + 1) (by omega) (by omega)
          rw [zey hd] at this
          rw [if_pos h32, show (i : Int) + 1 = ((i + 1 : Nat) : Int) by omega, this]
          congr 1; omega
        · refine zaP (by rw [n32]; exact decide_eq_false h32) ?_
          rw [if_neg h32]; rfl
  have := key zbG 0 (Nat.zero_le _) (by unfold zbG; omega)
  rw [List.drop_zero, Nat.zero_add] at this
  exact this
theorem zmV (l : List UInt8) (h : l.length ≤ 1073741824) : zdw (mkB l) = some (ind l : Int) := by
  unfold zdw
  refine zcx ?_
  have key : ∀ (n i : Nat), i ≤ l.length → l.length - i < n → (pcs l).drop i = zc9 i (l.drop i) → za2 (fun _ _ => none) (zcG (mkB l) (fun (n1 : Int) => some n1)) n (i : Int) i = some ((i + ind (l.drop i) : Nat) : Int) := by
    intro n
    induction n with
    | zero => intro i h1 h2; omega
    | succ n ih =>
      intro i hi hn hp
      rw [zbq]
      obtain ⟨ag, hag⟩ : ∃ ag, ag = za2 (fun _ _ => none) (zcG (mkB l) (fun (n1 : Int) => some n1)) n := ⟨_, rfl⟩
      rw [← hag] at ih ⊢
      unfold zcG
      rw [zfZ]
      cases hd : l.drop i with
      | nil =>
        rw [hd, zcp] at hp
        have := List.drop_eq_nil_iff.1 hp
        exact zaP (decide_eq_false (by omega)) rfl
      | cons b t =>
        obtain ⟨hb, hlt⟩ := zel (s := mkB l) hd
        rw [za0] at hlt
        rw [hd, zcJ i (b :: t) (by simp)] at hp
        have hlm : i < (pcs l).length := by
          rcases Nat.lt_or_ge i (pcs l).length with h | h
          · exact h
          · rw [List.drop_eq_nil_of_le h] at hp; cases hp
        have hq : (pcs l)[i]? = some ⟨i, (decodeL (b :: t)).2, (decodeL (b :: t)).1⟩ := by
          have hp2 := hp
          rw [List.drop_eq_getElem_cons hlm] at hp2
          rw [List.getElem?_eq_getElem hlm, (List.cons.inj hp2).1]
        refine zaY (decide_eq_true hlm) (za7 hq ?_)
        rw [zhm]
        by_cases h32 : b = 32
        · subst h32
          have hdec := decodeL_ascii 32 t (by decide)
          rw [hdec] at hp ⊢
          refine zaP rfl (zcq ⟨by omega, by omega⟩ ?_)
          have := ih (i + 1) (by omega) (by omega) (by
            rw [← List.drop_drop, hp, zey hd]; rfl)
          rw [zey hd] at this
          rw [if_pos rfl, show (i : Int) + 1 = ((i + 1 : Nat) : Int) by omega]
          refine this.trans ?_
          congr 2; omega
        · refine zaY ?_ (by rw [if_neg h32]; rfl)
          show (((decodeL (b :: t)).1 : Int) != 32) = true
          refine bne_iff_ne.2 (fun e => ?_)
          by_cases hbig : 128 ≤ b.toNat
          · have := (zj1 (t := t) hbig).1; omega
          · rw [decodeL_ascii b t (by omega)] at e
            exact h32 (UInt8.toNat.inj (by show b.toNat = 32; have : ((b.toNat : Nat) : Int) = 32 := e; omega))
  have := key zbG 0 (Nat.zero_le _) (by unfold zbG; omega) (by rw [List.drop_zero, List.drop_zero]; rfl)
  rw [List.drop_zero, Nat.zero_add] at this
  exact this
end Go.Proofs.YtgfkogafkhbgnaaDoor
