/-
  Texts laid together: LqQ, PqA, PqB, LqS, LqR, Rq, Lr. Nothing is assumed.
-/
import Derived.Test.YtgfkogafkhbgnaaDoorPoemChanges2
set_option maxRecDepth 100000
set_option maxHeartbeats 4000000
namespace Go.Proofs.YtgfkogafkhbgnaaDoor
open Go.RowKit Go.Lib
set_option linter.unusedVariables false
set_option linter.unusedSimpArgs false
def zdx (s1 : ByteArray) (j1 : Option Bool) (ag1 : Int → Option Bool) (i3 : Int) : Option Bool := zaU (decide ((i3 : Int) < (s1.size : Int))) ( zbO (fun (j2 : Option Bool) => zaG (zgo s1 i3) fun (c1 : Int) => zaU ((c1 : Int) != 32) ( zaU ((c1 : Int) != 9) ( some false
) ( j2
)
) ( j2
)
) ( grd (I64 (i3 + 1)) <| ag1 (i3 + 1)
)
) ( j1
)
def zdo (s1 : ByteArray) : Option Bool := zbO (fun (j1 : Option Bool) => za8 (fun _ => none) (zdx s1 j1) zb0 0
) ( some true
)
theorem zgy {s1 : ByteArray} {r : Bool} (h : zdo s1 = some r) : FnP Tryd.prog 65 [.string s1] (.bool r) := by
 unfold zdo at h
 refine FnP.intro Tryd.func65 rfl Tryd.ntmps65 (by simp) ?_
 intro w0 K
 obtain ⟨j1, hj1, h⟩ := zcp h
 refine zbm (β := Unit) 1 rfl (fun b => j1 = some r) (fun b => []) (fun b => []) (fun b => []) (fun cut => ?_) ?_
 ·
  refine zas (zai (zak rfl dc rfl (zap (zaj (cut (zas (zai (zak rfl dc rfl (zap (zaj (za2 ?_)))))))))))
  refine zbJ (β := Nat × Int) (fun b => za8 (fun _ => none) (zdx s1 j1) b.1 b.2 = some r) (fun b => []) (fun b => [(0, .string s1), (3, zI b.2)]) (fun b => []) (fun b => b.1) (zb0, 0) h rfl (zad rfl (zad rfl (zaH))) Splits.nil ?_
  rintro ⟨n1, i3⟩ h
  cases n1 with
  | zero => exact zdV h
  | succ n1 =>
   obtain ⟨ag1, hag1⟩ : ∃ ag, ag = za8 (fun _ => none) (zdx s1 j1) n1 := ⟨_, rfl⟩
   have h : zdx s1 j1 ag1 i3 = some r := by rw [hag1]; exact h
   unfold zdx at h
   show TC _ _ _ _ _ ([]) _ _ [(0, .string s1), (3, zI i3)] []
   refine zas (zas (zai (zah rfl dc rfl (zah rfl dc rfl (zbA rfl dc rfl Tryd.underlying9 (zaz rfl dc rfl rfl zbF (zap (zaj ?_))))))))
   refine zaM rfl (fun hb1 => ?_) (fun hb1 => ?_)
   ·
    have h := za0 hb1 h
    refine zaP (zaj ?_)
    obtain ⟨j2, hj2, h⟩ := zcp h
    refine zbm (β := Unit) 0 rfl (fun b => j2 = some r) (fun b => []) (fun b => [(0, .string s1), (3, zI i3)]) (fun b => []) (fun cut => ?_) ?_
    ·
     refine cut (za2 (zas (zai (zah rfl dc rfl (zah rfl dc rfl ?_)))))
     obtain ⟨c1, hq1, h⟩ := zbN h
     refine zbW rfl dc rfl rfl (zba Tryd.underlying9 hq1) (zaz rfl dc rfl rfl zbE (zah rfl dc rfl ?_))
     refine za6 (s := 14) rfl (fun hb2 => ?_) (fun hb2 => ?_)
     ·
      have h := za0 hb2 h
      refine zah rfl dc rfl (zah rfl dc rfl (zbW rfl dc rfl rfl (zba Tryd.underlying9 hq1) (zaz rfl dc rfl rfl zbE (zaB (b := true) rfl dc rfl rfl (zap (zaj ?_))))))
      refine zaM rfl (fun hb3 => ?_) (fun hb3 => ?_)
      ·
       have h := za0 hb3 h
       refine zas (zai (zak rfl dc rfl (zap (zaj (zaX (zaI (zay (zay (zaI (zay ?_))))))))))
       cases h
       exact za3 (rs := [.tmp 2]) () (.inl rfl) Tryd.results65 (.cons (.tmp rfl) .nil) rfl Splits.nil
      ·
       have h := za1 hb3 h
       refine zaP (zaA ?_)
       exact zaO () h rfl (zad rfl (zad rfl (zaH))) Splits.nil
     ·
      have h := za1 hb2 h
      refine zan rfl dc (zan rfl dc (zan rfl dc (zan rfl dc (zaB (b := false) rfl dc rfl rfl (zap (zaj (zbp rfl (zaP (zaA ?_)))))))))
      exact zaO () h rfl (zad rfl (zad rfl (zaH))) Splits.nil
    ·
     rintro _ h
     rw [hj2] at h
     show TC _ _ _ _ _ ([]) _ _ [(0, .string s1), (3, zI i3)] []
     refine zai (zah rfl dc rfl ?_)
     obtain ⟨hg1, h⟩ := zcb h
     refine zaz rfl dc rfl rfl (zbh (r := i3 + 1) (IntWalk.i64_in _ hg1)) (zak rfl dc rfl (zap ?_))
     subst hag1
     exact zbj (n1, i3 + 1) h (Nat.lt_succ_self _) rfl (zad rfl (zad rfl (zaH))) Splits.nil
   ·
    have h := za1 hb1 h
    refine zby (zaJ (zaJ (zaV ?_)))
    exact zaO () h rfl (zaH) Splits.nil
 ·
  rintro _ h
  rw [hj1] at h
  show TC _ _ _ _ _ ([]) _ _ [] []
  refine zas (zai (zak rfl dc rfl (zap (zaj (zaX ?_)))))
  cases h
  exact za3 (rs := [.tmp 2]) () (.inl rfl) Tryd.results65 (.cons (.tmp rfl) .nil) rfl Splits.nil
def zd0 (s1 : ByteArray) : Option Bool := zaU (decide (s1 = (⟨#[35]⟩ : ByteArray))) ( some true
) ( zaU (decide ((1 : Int) < (s1.size : Int))) ( zaG (zgo s1 0) fun (c1 : Int) => zaU ((c1 : Int) == 35) ( zaG (zgo s1 1) fun (c2 : Int) => some ((c2 : Int) == 32)
) ( some false
)
) ( some false
)
)
theorem zgc {s1 : ByteArray} {r : Bool} (h : zd0 s1 = some r) : FnP Tryd.prog 66 [.string s1] (.bool r) := by
 unfold zd0 at h
 refine FnP.intro Tryd.func66 rfl Tryd.ntmps66 (by simp) ?_
 intro w0 K
 refine zas (zai (zak rfl dc rfl (zap (zaj (zas (zai (zah rfl dc rfl (zaz rfl dc rfl rfl zgr (zah rfl dc rfl ?_)))))))))
 refine za6 (s := 5) rfl (fun hb1 => ?_) (fun hb1 => ?_)
 ·
  have h := za0 hb1 h
  refine zan rfl dc (zan rfl dc (zan rfl dc (zan rfl dc (zan rfl dc (zan rfl dc (zan rfl dc (zan rfl dc (zan rfl dc (zan rfl dc (zan rfl dc (zan rfl dc (zan rfl dc (zaB (b := true) rfl dc rfl rfl ?_)))))))))))))
  refine zak rfl dc rfl (zap (zaj (zaX ?_)))
  cases h
  exact za3 (rs := [.tmp 2]) () (.inl rfl) Tryd.results66 (.cons (.tmp rfl) .nil) rfl Splits.nil
 ·
  have h := za1 hb1 h
  refine zah rfl dc rfl (zbA rfl dc rfl Tryd.underlying9 (zaz rfl dc rfl rfl zdC (zah rfl dc rfl ?_)))
  refine za6 (s := 9) rfl (fun hb2 => ?_) (fun hb2 => ?_)
  ·
   have h := za0 hb2 h
   refine zah rfl dc rfl ?_
   obtain ⟨c1, hq1, h⟩ := zbN h
   refine zbW rfl dc rfl rfl (zba Tryd.underlying9 hq1) (zaz rfl dc rfl rfl zb6 (zaB (b := true) rfl dc rfl rfl (zah rfl dc rfl ?_)))
   refine za6 (s := 14) rfl (fun hb3 => ?_) (fun hb3 => ?_)
   ·
    have h := za0 hb3 h
    refine zah rfl dc rfl ?_
    obtain ⟨c2, hq2, h⟩ := zbN h
    refine zbW rfl dc rfl rfl (zba Tryd.underlying9 hq2) (zaz rfl dc rfl rfl zb6 (zaB (b := true) rfl dc rfl rfl (zaB (b := false) rfl dc rfl rfl (zak rfl dc rfl (zap (zaj (zaX ?_)))))))
    cases h
    exact za3 (rs := [.tmp 2]) () (.inl rfl) Tryd.results66 (.cons (.tmp rfl) .nil) rfl Splits.nil
   ·
    have h := za1 hb3 h
    refine zan rfl dc (zan rfl dc (zan rfl dc (zaB (b := false) rfl dc rfl rfl (zaB (b := false) rfl dc rfl rfl (zak rfl dc rfl (zap (zaj (zaX ?_))))))))
    cases h
    exact za3 (rs := [.tmp 2]) () (.inl rfl) Tryd.results66 (.cons (.tmp rfl) .nil) rfl Splits.nil
  ·
   have h := za1 hb2 h
   refine zan rfl dc (zan rfl dc (zan rfl dc (zaB (b := false) rfl dc rfl rfl (zah rfl dc rfl (zan rfl dc (zan rfl dc (zan rfl dc (zaB (b := false) rfl dc rfl rfl (zaB (b := false) rfl dc rfl rfl (zak rfl dc rfl (zap (zaj (zaX ?_)))))))))))))
   cases h
   exact za3 (rs := [.tmp 2]) () (.inl rfl) Tryd.results66 (.cons (.tmp rfl) .nil) rfl Splits.nil
def zcP (s1 : ByteArray) (j1 : Int → Option Int) (ag1 : Int → Option Int) (n4 : Int) : Option Int := zaU (decide ((n4 : Int) < (s1.size : Int))) ( zaG (zgo s1 n4) fun (c1 : Int) => zaU ((c1 : Int) == 32) ( grd (I64 (n4 + 1)) <| ag1 (n4 + 1)
) ( j1 n4
)
) ( j1 n4
)
def zbZ (s1 : ByteArray) : Option Int := zbO (fun (j1 : Int → Option Int) => za8 (fun _ => none) (zcP s1 j1) zb0 0
) (fun (n1 : Int) => some n1
)
theorem zdE {s1 : ByteArray} {r : Int} (h : zbZ s1 = some r) : FnP Tryd.prog 67 [.string s1] (zI r) := by
 unfold zbZ at h
 refine FnP.intro Tryd.func67 rfl Tryd.ntmps67 (by simp) ?_
 intro w0 K
 obtain ⟨j1, hj1, h⟩ := zcp h
 refine zbm (β := Int) 2 rfl (fun b => j1 b = some r) (fun b => []) (fun b => [(3, zI b)]) (fun b => []) (fun cut => ?_) ?_
 ·
  refine zas (zai (zak rfl dc rfl (zap (zaj (zas (zai (zak rfl dc rfl (zap (zaj (cut (za2 ?_)))))))))))
  refine zbJ (β := Nat × Int) (fun b => za8 (fun _ => none) (zcP s1 j1) b.1 b.2 = some r) (fun b => []) (fun b => [(0, .string s1), (3, zI b.2)]) (fun b => []) (fun b => b.1) (zb0, 0) h rfl (zad rfl (zad rfl (zaH))) Splits.nil ?_
  rintro ⟨n5, n4⟩ h
  cases n5 with
  | zero => exact zdV h
  | succ n5 =>
   obtain ⟨ag1, hag1⟩ : ∃ ag, ag = za8 (fun _ => none) (zcP s1 j1) n5 := ⟨_, rfl⟩
   have h : zcP s1 j1 ag1 n4 = some r := by rw [hag1]; exact h
   unfold zcP at h
   show TC _ _ _ _ _ ([]) _ _ [(0, .string s1), (3, zI n4)] []
   refine zas (zas (zai (zah rfl dc rfl (zah rfl dc rfl (zbA rfl dc rfl Tryd.underlying9 (zaz rfl dc rfl rfl zbF (zah rfl dc rfl ?_)))))))
   refine za6 (s := 8) rfl (fun hb1 => ?_) (fun hb1 => ?_)
   ·
    have h := za0 hb1 h
    refine zah rfl dc rfl (zah rfl dc rfl ?_)
    obtain ⟨c1, hq1, h⟩ := zbN h
    refine zbW rfl dc rfl rfl (zba Tryd.underlying9 hq1) (zaz rfl dc rfl rfl zb6 (zaB (b := true) rfl dc rfl rfl (zap (zaj ?_))))
    refine zaM rfl (fun hb2 => ?_) (fun hb2 => ?_)
    ·
     have h := za0 hb2 h
     refine zaP (zaj (za2 (zai (zah rfl dc rfl ?_))))
     obtain ⟨hg1, h⟩ := zcb h
     refine zaz rfl dc rfl rfl (zbh (r := n4 + 1) (IntWalk.i64_in _ hg1)) (zak rfl dc rfl (zap (zaA ?_)))
     subst hag1
     exact zbj (n5, n4 + 1) h (Nat.lt_succ_self _) rfl (zad rfl (zad rfl (zaH))) Splits.nil
    ·
     have h := za1 hb2 h
     refine zby (zaJ (zaJ (zaV ?_)))
     exact zaO n4 h rfl (zad rfl (zaH)) Splits.nil
   ·
    have h := za1 hb1 h
    refine zan rfl dc (zan rfl dc (zan rfl dc (zan rfl dc (zaB (b := false) rfl dc rfl rfl (zap (zaj (zbp rfl (zby (zaJ (zaJ (zaV ?_)))))))))))
    exact zaO n4 h rfl (zad rfl (zaH)) Splits.nil
 ·
  rintro n1 h
  rw [hj1] at h
  show TC _ _ _ _ _ ([]) _ _ [(3, zI n1)] []
  refine zas (zai (zah rfl dc rfl (zak rfl dc rfl (zap (zaj (zaX ?_))))))
  cases h
  exact za3 (rs := [.tmp 2]) () (.inl rfl) Tryd.results67 (.cons (.tmp rfl) .nil) rfl Splits.nil
def zdq (s1 : ByteArray) (j1 : (List Gapi_Span) → Option (List Gapi_Span)) (ag1 : (List Gapi_Span) → Int → Option (List Gapi_Span)) (l4 : List Gapi_Span) (i3 : Int) : Option (List Gapi_Span) := zaU (decide ((i3 : Int) < (s1.size : Int))) ( zbO (fun (j2 : (List Gapi_Span) → Int → Option (List Gapi_Span)) => zaG (zgo s1 i3) fun (c1 : Int) => zaU ((c1 : Int) == 13) ( grd (I64 (i3 + 1)) <| zaU (decide (((i3 + 1) : Int) < (s1.size : Int))) ( grd (I64 (i3 + 1)) <| zaG (zgo s1 (i3 + 1)) fun (c2 : Int) => zaU ((c2 : Int) == 10) ( grd (I64 (i3 + 2)) <| grd (l4.length + 1 ≤ 2147483648) <| grd (I64 (i3 + 1)) <| j2 (l4 ++ [(⟨i3, i3 + 2⟩ : Gapi_Span)]) (i3 + 1)
) ( zaG (zgo s1 i3) fun (c3 : Int) => zaU ((c3 : Int) == 13) ( grd (I64 (i3 + 1)) <| grd (l4.length + 1 ≤ 2147483648) <| j2 (l4 ++ [(⟨i3, i3 + 1⟩ : Gapi_Span)]) i3
) ( zaU ((c3 : Int) == 10) ( grd (I64 (i3 + 1)) <| grd (l4.length + 1 ≤ 2147483648) <| j2 (l4 ++ [(⟨i3, i3 + 1⟩ : Gapi_Span)]) i3
) ( j2 l4 i3
)
)
)
) ( zaG (zgo s1 i3) fun (c4 : Int) => zaU ((c4 : Int) == 13) ( grd (I64 (i3 + 1)) <| grd (l4.length + 1 ≤ 2147483648) <| j2 (l4 ++ [(⟨i3, i3 + 1⟩ : Gapi_Span)]) i3
) ( zaU ((c4 : Int) == 10) ( grd (I64 (i3 + 1)) <| grd (l4.length + 1 ≤ 2147483648) <| j2 (l4 ++ [(⟨i3, i3 + 1⟩ : Gapi_Span)]) i3
) ( j2 l4 i3
)
)
)
) ( zaG (zgo s1 i3) fun (c5 : Int) => zaU ((c5 : Int) == 13) ( grd (I64 (i3 + 1)) <| grd (l4.length + 1 ≤ 2147483648) <| j2 (l4 ++ [(⟨i3, i3 + 1⟩ : Gapi_Span)]) i3
) ( zaU ((c5 : Int) == 10) ( grd (I64 (i3 + 1)) <| grd (l4.length + 1 ≤ 2147483648) <| j2 (l4 ++ [(⟨i3, i3 + 1⟩ : Gapi_Span)]) i3
) ( j2 l4 i3
)
)
)
) (fun (l5 : List Gapi_Span) (i4 : Int) => grd (I64 (i4 + 1)) <| ag1 l5 (i4 + 1)
)
) ( j1 l4
)
def zer (s1 : ByteArray) : Option (List Gapi_Span) := zbO (fun (j1 : (List Gapi_Span) → Option (List Gapi_Span)) => za8 (fun _ _ => none) (zdq s1 j1) zb0 ([] : List Gapi_Span) 0
) (fun (l1 : List Gapi_Span) => some l1
)
theorem zgT {s1 : ByteArray} {r : (List Gapi_Span)} (h : zer s1 = some r) : Fn Tryd.prog 85 [.string s1] [] (fun v0 : Value => v0) (fun v0 => [vec zav 34 2 v0 r]) := by
 unfold zer at h
 refine Fn.intro Tryd.func85 rfl Tryd.ntmps85 (by simp) ?_
 intro w0 K
 obtain ⟨j1, hj1, h⟩ := zcp h
 refine zbm (β := (List Gapi_Span) × Value) 2 rfl (fun b => j1 b.1 = some r) (fun b => []) (fun b => [(3, b.2)]) (fun b => [vec zav 34 2 b.2 b.1]) (fun cut => ?_) ?_
 ·
  refine zas (zai (zak rfl dc rfl (zap (zaj (zas (zai (zak rfl dc rfl (zap (zaj (cut (zas (zai (zak rfl dc rfl ?_)))))))))))))
  refine zap (zaj (za2 (zel (enc := zav) (e := 34) (size := 2) ?_)))
  show TC _ _ _ _ _ _ _ _ _ [vec zav 34 2 (.slice none 0 0) ([] : List Gapi_Span)]
  refine zbJ (β := Nat × (List Gapi_Span) × Int × Value) (fun b => za8 (fun _ _ => none) (zdq s1 j1) b.1 b.2.1 b.2.2.1 = some r) (fun b => []) (fun b => [(0, .string s1), (3, b.2.2.2), (4, zI b.2.2.1)]) (fun b => [vec zav 34 2 b.2.2.2 b.2.1]) (fun b => b.1) (zb0, ([] : List Gapi_Span), 0, (.slice none 0 0)) h rfl (zad rfl (zad rfl (zad rfl (zaH)))) (zal [0] kr rfl) ?_
  rintro ⟨n1, l4, i3, v4⟩ h
  cases n1 with
  | zero => exact zdV h
  | succ n1 =>
   obtain ⟨ag1, hag1⟩ : ∃ ag, ag = za8 (fun _ _ => none) (zdq s1 j1) n1 := ⟨_, rfl⟩
   have h : zdq s1 j1 ag1 l4 i3 = some r := by rw [hag1]; exact h
   unfold zdq at h
   show TC _ _ _ _ _ ([]) _ _ [(0, .string s1), (3, v4), (4, zI i3)] [vec zav 34 2 v4 l4]
   refine zas (zas (zai (zah rfl dc rfl (zah rfl dc rfl (zbA rfl dc rfl Tryd.underlying9 (zaz rfl dc rfl rfl zbF (zap (zaj ?_))))))))
   refine zaM rfl (fun hb1 => ?_) (fun hb1 => ?_)
   ·
    have h := za0 hb1 h
    refine zaP (zaj ?_)
    obtain ⟨j2, hj2, h⟩ := zcp h
    refine zbm (β := (List Gapi_Span) × Int × Value) 0 rfl (fun b => j2 b.1 b.2.1 = some r) (fun b => []) (fun b => [(0, .string s1), (3, b.2.2), (4, zI b.2.1)]) (fun b => [vec zav 34 2 b.2.2 b.1]) (fun cut => ?_) ?_
    ·
     refine cut (za2 (za2 (zas (zai (zah rfl dc rfl (zah rfl dc rfl ?_))))))
     obtain ⟨c1, hq1, h⟩ := zbN h
     refine zbW rfl dc rfl rfl (zba Tryd.underlying9 hq1) (zaz rfl dc rfl rfl zb6 (zah rfl dc rfl ?_))
     refine za6 (s := 16) rfl (fun hb2 => ?_) (fun hb2 => ?_)
     ·
      have h := za0 hb2 h
      refine zah rfl dc rfl ?_
      obtain ⟨hg1, h⟩ := zcb h
      refine zaz rfl dc rfl rfl (zbh (r := i3 + 1) (IntWalk.i64_in _ hg1)) (zah rfl dc rfl (zbA rfl dc rfl Tryd.underlying9 (zaz rfl dc rfl rfl zbF (zaB (b := true) rfl dc rfl rfl (zah rfl dc rfl ?_)))))
      refine za6 (s := 23) rfl (fun hb3 => ?_) (fun hb3 => ?_)
      ·
       have h := za0 hb3 h
       refine zah rfl dc rfl (zah rfl dc rfl ?_)
       obtain ⟨hg2, h⟩ := zcb h
       refine zaz rfl dc rfl rfl (zbh (r := i3 + 1) (IntWalk.i64_in _ hg2)) ?_
       obtain ⟨c2, hq2, h⟩ := zbN h
       refine zbW rfl dc rfl rfl (zba Tryd.underlying9 hq2) (zaz rfl dc rfl rfl zb6 (zaB (b := true) rfl dc rfl rfl (zak rfl dc rfl (zap (zaj ?_)))))
       refine zaM rfl (fun hb4 => ?_) (fun hb4 => ?_)
       ·
        have h := za0 hb4 h
        refine zas (zai (zah rfl dc rfl (zah rfl dc rfl (zah rfl dc rfl ?_))))
        obtain ⟨hg3, h⟩ := zcb h
        refine zaz rfl dc rfl rfl (zbh (r := i3 + 2) (IntWalk.i64_in _ hg3)) ?_
        refine zbe (v := .agg #[zI i3, zI (i3 + 2)]) (ps := [(0, .tmp 31), (1, .tmp 33)]) rfl dc rfl (fun _ => by kernel_rfl) ?_
        refine zbg (cs := [zI i3, zI (i3 + 2)]) (te := 34) (ps := [(0, .tmp 34)]) rfl dc rfl (fun _ => by kernel_rfl) (fun b1 => ?_)
        obtain ⟨hg4, h⟩ := zcb h
        refine zbr (k := 0) (k2 := 1) (ys := [(⟨i3, i3 + 2⟩ : Gapi_Span)]) Tryd.underlying89 zjx zbv zcc rfl dc rfl rfl rfl rfl rfl rfl hg4 (fun v6 => ?_)
        show TO _ _ _ _ _ _ _ _ _ _ [vec zav 34 2 v6 (l4 ++ [(⟨i3, i3 + 2⟩ : Gapi_Span)]), cells b1 [zI i3, zI (i3 + 2)] 34]
        refine zak rfl dc rfl (zap (zaj (zai (zah rfl dc rfl ?_))))
        obtain ⟨hg5, h⟩ := zcb h
        refine zaz rfl dc rfl rfl (zbh (r := i3 + 1) (IntWalk.i64_in _ hg5)) (zak rfl dc rfl (zap (zaA (zaA ?_))))
        exact zaO (l4 ++ [(⟨i3, i3 + 2⟩ : Gapi_Span)], i3 + 1, v6) h rfl (zad rfl (zad rfl (zad rfl (zaH)))) (zal [0] kr rfl)
       ·
        have h := za1 hb4 h
        refine zas (zai (zah rfl dc rfl (zah rfl dc rfl ?_)))
        obtain ⟨c3, hq3, h⟩ := zbN h
        refine zbW rfl dc rfl rfl (zba Tryd.underlying9 hq3) (zaz rfl dc rfl rfl zb6 (zah rfl dc rfl ?_))
        refine za6 (s := 44) rfl (fun hb5 => ?_) (fun hb5 => ?_)
        ·
         have h := za0 hb5 h
         refine zan rfl dc (zan rfl dc (zan rfl dc (zan rfl dc (zaB (b := true) rfl dc rfl rfl (zak rfl dc rfl (zap (zaj (zbu rfl (zai (zah rfl dc rfl (zah rfl dc rfl (zah rfl dc rfl ?_))))))))))))
         obtain ⟨hg6, h⟩ := zcb h
         refine zaz rfl dc rfl rfl (zbh (r := i3 + 1) (IntWalk.i64_in _ hg6)) ?_
         refine zbe (v := .agg #[zI i3, zI (i3 + 1)]) (ps := [(0, .tmp 51), (1, .tmp 53)]) rfl dc rfl (fun _ => by kernel_rfl) ?_
         refine zbg (cs := [zI i3, zI (i3 + 1)]) (te := 34) (ps := [(0, .tmp 54)]) rfl dc rfl (fun _ => by kernel_rfl) (fun b2 => ?_)
         obtain ⟨hg7, h⟩ := zcb h
         refine zbr (k := 0) (k2 := 1) (ys := [(⟨i3, i3 + 1⟩ : Gapi_Span)]) Tryd.underlying89 zjx zbv zcc rfl dc rfl rfl rfl rfl rfl rfl hg7 (fun v7 => ?_)
         show TO _ _ _ _ _ _ _ _ _ _ [vec zav 34 2 v7 (l4 ++ [(⟨i3, i3 + 1⟩ : Gapi_Span)]), cells b2 [zI i3, zI (i3 + 1)] 34]
         refine zak rfl dc rfl (zap (zaA (zaA ?_)))
         exact zaO (l4 ++ [(⟨i3, i3 + 1⟩ : Gapi_Span)], i3, v7) h rfl (zad rfl (zad rfl (zad rfl (zaH)))) (zal [0] kr rfl)
        ·
         have h := za1 hb5 h
         refine zah rfl dc rfl (zah rfl dc rfl (zbW rfl dc rfl rfl (zba Tryd.underlying9 hq3) (zaz rfl dc rfl rfl zb6 (zaB (b := false) rfl dc rfl rfl (zak rfl dc rfl (zap (zaj ?_)))))))
         refine zaM rfl (fun hb6 => ?_) (fun hb6 => ?_)
         ·
          have h := za0 hb6 h
          refine zai (zah rfl dc rfl (zah rfl dc rfl (zah rfl dc rfl ?_)))
          obtain ⟨hg8, h⟩ := zcb h
          refine zaz rfl dc rfl rfl (zbh (r := i3 + 1) (IntWalk.i64_in _ hg8)) ?_
          refine zbe (v := .agg #[zI i3, zI (i3 + 1)]) (ps := [(0, .tmp 51), (1, .tmp 53)]) rfl dc rfl (fun _ => by kernel_rfl) ?_
          refine zbg (cs := [zI i3, zI (i3 + 1)]) (te := 34) (ps := [(0, .tmp 54)]) rfl dc rfl (fun _ => by kernel_rfl) (fun b3 => ?_)
          obtain ⟨hg9, h⟩ := zcb h
          refine zbr (k := 0) (k2 := 1) (ys := [(⟨i3, i3 + 1⟩ : Gapi_Span)]) Tryd.underlying89 zjx zbv zcc rfl dc rfl rfl rfl rfl rfl rfl hg9 (fun v8 => ?_)
          show TO _ _ _ _ _ _ _ _ _ _ [vec zav 34 2 v8 (l4 ++ [(⟨i3, i3 + 1⟩ : Gapi_Span)]), cells b3 [zI i3, zI (i3 + 1)] 34]
          refine zak rfl dc rfl (zap (zaA (zaA ?_)))
          exact zaO (l4 ++ [(⟨i3, i3 + 1⟩ : Gapi_Span)], i3, v8) h rfl (zad rfl (zad rfl (zad rfl (zaH)))) (zal [0] kr rfl)
         ·
          have h := za1 hb6 h
          refine zaP (zaA (zaA ?_))
          exact zaO (l4, i3, v4) h rfl (zad rfl (zad rfl (zad rfl (zaH)))) (zal [0] kr rfl)
      ·
       have h := za1 hb3 h
       refine zan rfl dc (zan rfl dc (zan rfl dc (zan rfl dc (zan rfl dc (zaB (b := false) rfl dc rfl rfl (zak rfl dc rfl (zap (zaj (zbp rfl (zas (zai (zah rfl dc rfl (zah rfl dc rfl ?_)))))))))))))
       obtain ⟨c4, hq4, h⟩ := zbN h
       refine zbW rfl dc rfl rfl (zba Tryd.underlying9 hq4) (zaz rfl dc rfl rfl zb6 (zah rfl dc rfl ?_))
       refine za6 (s := 44) rfl (fun hb7 => ?_) (fun hb7 => ?_)
       ·
        have h := za0 hb7 h
        refine zan rfl dc (zan rfl dc (zan rfl dc (zan rfl dc (zaB (b := true) rfl dc rfl rfl (zak rfl dc rfl (zap (zaj (zbu rfl (zai (zah rfl dc rfl (zah rfl dc rfl (zah rfl dc rfl ?_))))))))))))
        obtain ⟨hg10, h⟩ := zcb h
        refine zaz rfl dc rfl rfl (zbh (r := i3 + 1) (IntWalk.i64_in _ hg10)) ?_
        refine zbe (v := .agg #[zI i3, zI (i3 + 1)]) (ps := [(0, .tmp 51), (1, .tmp 53)]) rfl dc rfl (fun _ => by kernel_rfl) ?_
        refine zbg (cs := [zI i3, zI (i3 + 1)]) (te := 34) (ps := [(0, .tmp 54)]) rfl dc rfl (fun _ => by kernel_rfl) (fun b4 => ?_)
        obtain ⟨hg11, h⟩ := zcb h
        refine zbr (k := 0) (k2 := 1) (ys := [(⟨i3, i3 + 1⟩ : Gapi_Span)]) Tryd.underlying89 zjx zbv zcc rfl dc rfl rfl rfl rfl rfl rfl hg11 (fun v9 => ?_)
        show TO _ _ _ _ _ _ _ _ _ _ [vec zav 34 2 v9 (l4 ++ [(⟨i3, i3 + 1⟩ : Gapi_Span)]), cells b4 [zI i3, zI (i3 + 1)] 34]
        refine zak rfl dc rfl (zap (zaA (zaA ?_)))
        exact zaO (l4 ++ [(⟨i3, i3 + 1⟩ : Gapi_Span)], i3, v9) h rfl (zad rfl (zad rfl (zad rfl (zaH)))) (zal [0] kr rfl)
       ·
        have h := za1 hb7 h
        refine zah rfl dc rfl (zah rfl dc rfl (zbW rfl dc rfl rfl (zba Tryd.underlying9 hq4) (zaz rfl dc rfl rfl zb6 (zaB (b := false) rfl dc rfl rfl (zak rfl dc rfl (zap (zaj ?_)))))))
        refine zaM rfl (fun hb8 => ?_) (fun hb8 => ?_)
        ·
         have h := za0 hb8 h
         refine zai (zah rfl dc rfl (zah rfl dc rfl (zah rfl dc rfl ?_)))
         obtain ⟨hg12, h⟩ := zcb h
         refine zaz rfl dc rfl rfl (zbh (r := i3 + 1) (IntWalk.i64_in _ hg12)) ?_
         refine zbe (v := .agg #[zI i3, zI (i3 + 1)]) (ps := [(0, .tmp 51), (1, .tmp 53)]) rfl dc rfl (fun _ => by kernel_rfl) ?_
         refine zbg (cs := [zI i3, zI (i3 + 1)]) (te := 34) (ps := [(0, .tmp 54)]) rfl dc rfl (fun _ => by kernel_rfl) (fun b5 => ?_)
         obtain ⟨hg13, h⟩ := zcb h
         refine zbr (k := 0) (k2 := 1) (ys := [(⟨i3, i3 + 1⟩ : Gapi_Span)]) Tryd.underlying89 zjx zbv zcc rfl dc rfl rfl rfl rfl rfl rfl hg13 (fun v10 => ?_)
         show TO _ _ _ _ _ _ _ _ _ _ [vec zav 34 2 v10 (l4 ++ [(⟨i3, i3 + 1⟩ : Gapi_Span)]), cells b5 [zI i3, zI (i3 + 1)] 34]
         refine zak rfl dc rfl (zap (zaA (zaA ?_)))
         exact zaO (l4 ++ [(⟨i3, i3 + 1⟩ : Gapi_Span)], i3, v10) h rfl (zad rfl (zad rfl (zad rfl (zaH)))) (zal [0] kr rfl)
        ·
         have h := za1 hb8 h
         refine zaP (zaA (zaA ?_))
         exact zaO (l4, i3, v4) h rfl (zad rfl (zad rfl (zad rfl (zaH)))) (zal [0] kr rfl)
     ·
      have h := za1 hb2 h
      refine zan rfl dc (zan rfl dc (zan rfl dc (zan rfl dc (zan rfl dc (zaB (b := false) rfl dc rfl rfl (zah rfl dc rfl (zan rfl dc (zan rfl dc (zan rfl dc (zan rfl dc (zan rfl dc (zaB (b := false) rfl dc rfl rfl (zak rfl dc rfl ?_)))))))))))))
      refine zap (zaj (zbp rfl (zas (zai (zah rfl dc rfl (zah rfl dc rfl ?_))))))
      obtain ⟨c5, hq5, h⟩ := zbN h
      refine zbW rfl dc rfl rfl (zba Tryd.underlying9 hq5) (zaz rfl dc rfl rfl zb6 (zah rfl dc rfl ?_))
      refine za6 (s := 44) rfl (fun hb9 => ?_) (fun hb9 => ?_)
      ·
       have h := za0 hb9 h
       refine zan rfl dc (zan rfl dc (zan rfl dc (zan rfl dc (zaB (b := true) rfl dc rfl rfl (zak rfl dc rfl (zap (zaj (zbu rfl (zai (zah rfl dc rfl (zah rfl dc rfl (zah rfl dc rfl ?_))))))))))))
       obtain ⟨hg14, h⟩ := zcb h
       refine zaz rfl dc rfl rfl (zbh (r := i3 + 1) (IntWalk.i64_in _ hg14)) ?_
       refine zbe (v := .agg #[zI i3, zI (i3 + 1)]) (ps := [(0, .tmp 51), (1, .tmp 53)]) rfl dc rfl (fun _ => by kernel_rfl) ?_
       refine zbg (cs := [zI i3, zI (i3 + 1)]) (te := 34) (ps := [(0, .tmp 54)]) rfl dc rfl (fun _ => by kernel_rfl) (fun b6 => ?_)
       obtain ⟨hg15, h⟩ := zcb h
       refine zbr (k := 0) (k2 := 1) (ys := [(⟨i3, i3 + 1⟩ : Gapi_Span)]) Tryd.underlying89 zjx zbv zcc rfl dc rfl rfl rfl rfl rfl rfl hg15 (fun v11 => ?_)
       show TO _ _ _ _ _ _ _ _ _ _ [vec zav 34 2 v11 (l4 ++ [(⟨i3, i3 + 1⟩ : Gapi_Span)]), cells b6 [zI i3, zI (i3 + 1)] 34]
       refine zak rfl dc rfl (zap (zaA (zaA ?_)))
       exact zaO (l4 ++ [(⟨i3, i3 + 1⟩ : Gapi_Span)], i3, v11) h rfl (zad rfl (zad rfl (zad rfl (zaH)))) (zal [0] kr rfl)
      ·
       have h := za1 hb9 h
       refine zah rfl dc rfl (zah rfl dc rfl (zbW rfl dc rfl rfl (zba Tryd.underlying9 hq5) (zaz rfl dc rfl rfl zb6 (zaB (b := false) rfl dc rfl rfl (zak rfl dc rfl (zap (zaj ?_)))))))
       refine zaM rfl (fun hb10 => ?_) (fun hb10 => ?_)
       ·
        have h := za0 hb10 h
        refine zai (zah rfl dc rfl (zah rfl dc rfl (zah rfl dc rfl ?_)))
        obtain ⟨hg16, h⟩ := zcb h
        refine zaz rfl dc rfl rfl (zbh (r := i3 + 1) (IntWalk.i64_in _ hg16)) ?_
        refine zbe (v := .agg #[zI i3, zI (i3 + 1)]) (ps := [(0, .tmp 51), (1, .tmp 53)]) rfl dc rfl (fun _ => by kernel_rfl) ?_
        refine zbg (cs := [zI i3, zI (i3 + 1)]) (te := 34) (ps := [(0, .tmp 54)]) rfl dc rfl (fun _ => by kernel_rfl) (fun b7 => ?_)
        obtain ⟨hg17, h⟩ := zcb h
        refine zbr (k := 0) (k2 := 1) (ys := [(⟨i3, i3 + 1⟩ : Gapi_Span)]) Tryd.underlying89 zjx zbv zcc rfl dc rfl rfl rfl rfl rfl rfl hg17 (fun v12 => ?_)
        show TO _ _ _ _ _ _ _ _ _ _ [vec zav 34 2 v12 (l4 ++ [(⟨i3, i3 + 1⟩ : Gapi_Span)]), cells b7 [zI i3, zI (i3 + 1)] 34]
        refine zak rfl dc rfl (zap (zaA (zaA ?_)))
        exact zaO (l4 ++ [(⟨i3, i3 + 1⟩ : Gapi_Span)], i3, v12) h rfl (zad rfl (zad rfl (zad rfl (zaH)))) (zal [0] kr rfl)
       ·
        have h := za1 hb10 h
        refine zaP (zaA (zaA ?_))
        exact zaO (l4, i3, v4) h rfl (zad rfl (zad rfl (zad rfl (zaH)))) (zal [0] kr rfl)
    ·
     rintro ⟨l5, i4, v5⟩ h
     rw [hj2] at h
     show TC _ _ _ _ _ ([]) _ _ [(0, .string s1), (3, v5), (4, zI i4)] [vec zav 34 2 v5 l5]
     refine zai (zah rfl dc rfl ?_)
     obtain ⟨hg18, h⟩ := zcb h
     refine zaz rfl dc rfl rfl (zbh (r := i4 + 1) (IntWalk.i64_in _ hg18)) (zak rfl dc rfl (zap ?_))
     subst hag1
     exact zbj (n1, l5, i4 + 1, v5) h (Nat.lt_succ_self _) rfl (zad rfl (zad rfl (zad rfl (zaH)))) (zal [0] kr rfl)
   ·
    have h := za1 hb1 h
    refine zby (zaJ (zaJ (zaV ?_)))
    exact zaO (l4, v4) h rfl (zad rfl (zaH)) (zal [0] kr rfl)
 ·
  rintro ⟨l1, v1⟩ h
  rw [hj1] at h
  show TC _ _ _ _ _ ([]) _ _ [(3, v1)] [vec zav 34 2 v1 l1]
  refine zas (zai (zah rfl dc rfl (zak rfl dc rfl (zap (zaj (zaX ?_))))))
  cases h
  exact za3 (rs := [.tmp 2]) v1 (.inl rfl) Tryd.results85 (.cons (.tmp rfl) .nil) rfl (zal [0] kr rfl)
def zcM (s1 : ByteArray) (j1 : (List Gapi_Span) → Option (List Gapi_Span)) (r1 : (List Gapi_Span)) (r2 : (List Gapi_Span)) (ag1 : (List Gapi_Span) → Int → Int → Option (List Gapi_Span)) (l4 : List Gapi_Span) (from3 : Int) (i3 : Int) : Option (List Gapi_Span) := zaU (decide ((i3 : Int) < ((r1.length : Int) + 1))) ( zbO (fun (j2 : Int → Int → Option (List Gapi_Span)) => zaU (decide ((i3 : Int) < (r2.length : Int))) ( zaG (zdh r2 i3) fun (q1 : Gapi_Span) => zaG (zdh r2 i3) fun (q2 : Gapi_Span) => j2 q2.To q1.From
) ( j2 from3 (s1.size : Int)
)
) (fun (from4 : Int) (x1 : Int) => grd (l4.length + 1 ≤ 2147483648) <| grd (I64 (i3 + 1)) <| ag1 (l4 ++ [(⟨from3, x1⟩ : Gapi_Span)]) from4 (i3 + 1)
)
) ( j1 l4
)
def zey (s1 : ByteArray) : Option (List Gapi_Span) := zbO (fun (j1 : (List Gapi_Span) → Option (List Gapi_Span)) => zaG (zer s1) fun (r1 : (List Gapi_Span)) => grd (I64 ((r1.length : Int) + 1)) <| zaG (zer s1) fun (r2 : (List Gapi_Span)) => za8 (fun _ _ _ => none) (zcM s1 j1 r1 r2) zb0 ([] : List Gapi_Span) 0 0
) (fun (l1 : List Gapi_Span) => some l1
)
theorem ziL {s1 : ByteArray} {r : (List Gapi_Span)} (h : zey s1 = some r) : Fn Tryd.prog 64 [.string s1] [] (fun v0 : Value => v0) (fun v0 => [vec zav 34 2 v0 r]) := by
 unfold zey at h
 refine Fn.intro Tryd.func64 rfl Tryd.ntmps64 (by simp) ?_
 intro w0 K
 obtain ⟨j1, hj1, h⟩ := zcp h
 refine zbm (β := (List Gapi_Span) × Value) 5 rfl (fun b => j1 b.1 = some r) (fun b => []) (fun b => [(4, b.2)]) (fun b => [vec zav 34 2 b.2 b.1]) (fun cut => ?_) ?_
 ·
  refine zas (zai (zak rfl dc rfl (zap (zaj (zas (zai (zah rfl dc rfl ?_)))))))
  obtain ⟨r1, hq1, h⟩ := zbN h
  refine zed (vs := [.string s1]) rfl dc rfl rfl rfl zoV (zgT hq1) Splits.nil ?_
  rintro v2
  show TO _ _ _ _ _ _ _ _ _ _ [vec zav 34 2 v2 r1]
  refine zdf (k := 0) rfl dc rfl rfl Tryd.underlying89 ?_
  obtain ⟨hg1, h⟩ := zcb h
  refine zaz rfl dc rfl rfl (zbh (r := (r1.length : Int) + 1) (IntWalk.i64_in _ hg1)) (zak rfl dc rfl (zap (zaj (zas (zai (zak rfl dc rfl (zap (zaj (zas (zai (zah rfl dc rfl ?_)))))))))))
  obtain ⟨r2, hq2, h⟩ := zbN h
  refine zed (vs := [.string s1]) rfl dc rfl rfl rfl zoV (zgT hq2) Splits.nil ?_
  rintro v3
  show TO _ _ _ _ _ _ _ _ _ _ [vec zav 34 2 v2 r1, vec zav 34 2 v3 r2]
  refine zak rfl dc rfl (zap (zaj (zas (zai (zak rfl dc rfl (zap (zaj (cut (zas (zai (zak rfl dc rfl (zap (zaj ?_)))))))))))))
  refine za2 (zel (enc := zav) (e := 34) (size := 2) ?_)
  show TC _ _ _ _ _ _ _ _ _ [vec zav 34 2 v2 r1, vec zav 34 2 v3 r2, vec zav 34 2 (.slice none 0 0) ([] : List Gapi_Span)]
  refine zbJ (β := Nat × (List Gapi_Span) × Int × Int × Value) (fun b => za8 (fun _ _ _ => none) (zcM s1 j1 r1 r2) b.1 b.2.1 b.2.2.1 b.2.2.2.1 = some r) (fun b => []) (fun b => [(0, .string s1), (3, zI ((r1.length : Int) + 1)), (4, b.2.2.2.2), (5, v3), (6, zI b.2.2.1), (7, zI b.2.2.2.1)]) (fun b => [vec zav 34 2 b.2.2.2.2 b.2.1, vec zav 34 2 v3 r2]) (fun b => b.1) (zb0, ([] : List Gapi_Span), 0, 0, (.slice none 0 0)) h rfl (zad rfl (zad rfl (zad rfl (zad rfl (zad rfl (zad rfl (zaH))))))) (zal [2, 1] kr rfl) ?_
  rintro ⟨n1, l4, from3, i3, v6⟩ h
  cases n1 with
  | zero => exact zdV h
  | succ n1 =>
   obtain ⟨ag1, hag1⟩ : ∃ ag, ag = za8 (fun _ _ _ => none) (zcM s1 j1 r1 r2) n1 := ⟨_, rfl⟩
   have h : zcM s1 j1 r1 r2 ag1 l4 from3 i3 = some r := by rw [hag1]; exact h
   unfold zcM at h
   show TC _ _ _ _ _ ([]) _ _ [(0, .string s1), (3, zI ((r1.length : Int) + 1)), (4, v6), (5, v3), (6, zI from3), (7, zI i3)] [vec zav 34 2 v6 l4, vec zav 34 2 v3 r2]
   refine zas (zas (zai (zah rfl dc rfl (zah rfl dc rfl (zaz rfl dc rfl rfl zbF (zap (zaj ?_)))))))
   refine zaM rfl (fun hb1 => ?_) (fun hb1 => ?_)
   ·
    have h := za0 hb1 h
    refine zaP (zaj (zas (za2 ?_)))
    obtain ⟨j2, hj2, h⟩ := zcp h
    refine zbm (β := Int × Int × Nat) 1 rfl (fun b => j2 b.1 b.2.1 = some r) (fun b => []) (fun b => [(0, .string s1), (3, zI ((r1.length : Int) + 1)), (4, v6), (5, v3), (6, zI b.1), (7, zI i3), (8, zP b.2.2)]) (fun b => [vec zav 34 2 v6 l4, vec zav 34 2 v3 r2, cells b.2.2 [zI from3, zI b.2.1] 34]) (fun cut => ?_) ?_
    ·
     refine zas (zai (zah rfl dc rfl (zah rfl dc rfl (zbA rfl dc rfl Tryd.underlying9 ?_))))
     refine zbe (v := .agg #[zI from3, zI (s1.size : Int)]) (ps := [(0, .tmp 20), (1, .tmp 22)]) rfl dc rfl (fun _ => by kernel_rfl) ?_
     refine zbl zky rfl dc (fun b2 => ?_)
     refine zaZ (k := 2) (vs := [zI from3, zI (s1.size : Int)]) (l' := [zI from3, zI (s1.size : Int)]) zgt rfl rfl rfl rfl rfl (show _ ≤ _ by simp) rfl rfl ?_
     show TO _ _ _ _ _ _ _ _ _ _ [vec zav 34 2 v6 l4, vec zav 34 2 v3 r2, cells b2 [zI from3, zI (s1.size : Int)] 34]
     refine zap (zaj (cut (zas (zai (zah rfl dc rfl (zah rfl dc rfl (zdf (k := 1) rfl dc rfl rfl Tryd.underlying89 (zaz rfl dc rfl rfl zbF (zap (zaj ?_))))))))))
     refine zaM rfl (fun hb2 => ?_) (fun hb2 => ?_)
     ·
      have h := za0 hb2 h
      refine zas (zai (zah rfl dc rfl (zah rfl dc rfl ?_)))
      obtain ⟨q1, hq3, h⟩ := zbN h
      refine zce (k := 1) hq3 Tryd.underlying89 zgt rfl dc rfl rfl rfl rfl (zar ze3 rfl dc rfl (show _ = ((i3 : Int).toNat) * 2 from rfl) (zd2 (i := (i3 : Int).toNat) (j := 0) (k := 1) (q := q1) zfb zbv rfl dc rfl rfl (zcq hq3) rfl dc rfl (zar zfC rfl dc rfl (show _ = 1 from rfl) ?_)))
      refine zbo (k := 2) (l' := [zI from3, zI q1.From]) zjh rfl rfl rfl rfl rfl (fun _ _ => rfl) rfl ?_
      refine zap (zaj (zai (zah rfl dc rfl (zah rfl dc rfl ?_))))
      obtain ⟨q2, hq4, h⟩ := zbN h
      refine zce (k := 1) hq4 Tryd.underlying89 zgt rfl dc rfl rfl rfl rfl (zar zfC rfl dc rfl (show _ = ((i3 : Int).toNat) * 2 + 1 from rfl) (zd2 (i := (i3 : Int).toNat) (j := 1) (k := 1) (q := q2) zfb zbv rfl dc rfl rfl (zcq hq4) rfl dc rfl (zak rfl dc rfl (zap ?_))))
      exact zaO (q2.To, q1.From, b2) h rfl (zad rfl (zad rfl (zad rfl (zad rfl (zad rfl (zad rfl (zad rfl (zaH)))))))) (zal [0, 1, 2] kr rfl)
     ·
      have h := za1 hb2 h
      refine zaP ?_
      exact zaO (from3, (s1.size : Int), b2) h rfl (zad rfl (zad rfl (zad rfl (zad rfl (zad rfl (zad rfl (zad rfl (zaH)))))))) (zal [0, 1, 2] kr rfl)
    ·
     rintro ⟨from4, x1, b1⟩ h
     rw [hj2] at h
     show TC _ _ _ _ _ ([]) _ _ [(0, .string s1), (3, zI ((r1.length : Int) + 1)), (4, v6), (5, v3), (6, zI from4), (7, zI i3), (8, zP b1)] [vec zav 34 2 v6 l4, vec zav 34 2 v3 r2, cells b1 [zI from3, zI x1] 34]
     refine zai (zah rfl dc rfl (zbc (k := 2) (cs := [zI from3, zI x1]) zhf rfl dc rfl rfl rfl rfl ?_))
     refine zbg (cs := [zI from3, zI x1]) (te := 34) (ps := [(0, .tmp 40)]) rfl dc rfl (fun _ => by kernel_rfl) (fun b3 => ?_)
     obtain ⟨hg2, h⟩ := zcb h
     refine zbr (k := 0) (k2 := 3) (ys := [(⟨from3, x1⟩ : Gapi_Span)]) Tryd.underlying89 zjx zbv zcc rfl dc rfl rfl rfl rfl rfl rfl hg2 (fun v7 => ?_)
     show TO _ _ _ _ _ _ _ _ _ _ [vec zav 34 2 v7 (l4 ++ [(⟨from3, x1⟩ : Gapi_Span)]), vec zav 34 2 v3 r2, cells b1 [zI from3, zI x1] 34, cells b3 [zI from3, zI x1] 34]
     refine zak rfl dc rfl (zap (zaA (zaj (zai (zah rfl dc rfl ?_)))))
     obtain ⟨hg3, h⟩ := zcb h
     refine zaz rfl dc rfl rfl (zbh (r := i3 + 1) (IntWalk.i64_in _ hg3)) (zak rfl dc rfl (zap ?_))
     subst hag1
     exact zbj (n1, l4 ++ [(⟨from3, x1⟩ : Gapi_Span)], from4, i3 + 1, v7) h (Nat.lt_succ_self _) rfl (zad rfl (zad rfl (zad rfl (zad rfl (zad rfl (zad rfl (zaH))))))) (zal [0, 1] kr rfl)
   ·
    have h := za1 hb1 h
    refine zby (zaJ (zaJ (zaV ?_)))
    exact zaO (l4, v6) h rfl (zad rfl (zaH)) (zal [0] kr rfl)
 ·
  rintro ⟨l1, v1⟩ h
  rw [hj1] at h
  show TC _ _ _ _ _ ([]) _ _ [(4, v1)] [vec zav 34 2 v1 l1]
  refine zas (zai (zah rfl dc rfl (zak rfl dc rfl (zap (zaj (zaX ?_))))))
  cases h
  exact za3 (rs := [.tmp 2]) v1 (.inl rfl) Tryd.results64 (.cons (.tmp rfl) .nil) rfl (zal [0] kr rfl)
def zd7 (s1 : ByteArray) (j1 : Option Bool) (ag1 : Int → Option Bool) (i3 : Int) : Option Bool := zaU (decide ((i3 : Int) < (s1.size : Int))) ( zaG (zgo s1 i3) fun (c1 : Int) => zaU ((c1 : Int) == 10) ( some false
) ( zaU ((c1 : Int) == 13) ( some false
) ( grd (I64 (i3 + 1)) <| ag1 (i3 + 1)
)
)
) ( j1
)
def zeJ (s1 : ByteArray) : Option Bool := zbO (fun (j1 : Option Bool) => za8 (fun _ => none) (zd7 s1 j1) zb0 0
) ( zaU (decide (((s1.size : Int) : Int) ≤ 1024)) ( zaG (zdo s1) fun (r1 : Bool) => some (!r1)
) ( some false
)
)
theorem zj3 {s1 : ByteArray} {r : Bool} (h : zeJ s1 = some r) : FnP Tryd.prog 69 [.string s1] (.bool r) := by
 unfold zeJ at h
 refine FnP.intro Tryd.func69 rfl Tryd.ntmps69 (by simp) ?_
 intro w0 K
 obtain ⟨j1, hj1, h⟩ := zcp h
 refine zbm (β := Unit) 1 rfl (fun b => j1 = some r) (fun b => []) (fun b => [(0, .string s1)]) (fun b => []) (fun cut => ?_) ?_
 ·
  refine zas (zai (zak rfl dc rfl (zap (zaj (cut (zas (zai (zak rfl dc rfl (zap (zaj (za2 ?_)))))))))))
  refine zbJ (β := Nat × Int) (fun b => za8 (fun _ => none) (zd7 s1 j1) b.1 b.2 = some r) (fun b => []) (fun b => [(0, .string s1), (3, zI b.2)]) (fun b => []) (fun b => b.1) (zb0, 0) h rfl (zad rfl (zad rfl (zaH))) Splits.nil ?_
  rintro ⟨n1, i3⟩ h
  cases n1 with
  | zero => exact zdV h
  | succ n1 =>
   obtain ⟨ag1, hag1⟩ : ∃ ag, ag = za8 (fun _ => none) (zd7 s1 j1) n1 := ⟨_, rfl⟩
   have h : zd7 s1 j1 ag1 i3 = some r := by rw [hag1]; exact h
   unfold zd7 at h
   show TC _ _ _ _ _ ([]) _ _ [(0, .string s1), (3, zI i3)] []
   refine zas (zas (zai (zah rfl dc rfl (zah rfl dc rfl (zbA rfl dc rfl Tryd.underlying9 (zaz rfl dc rfl rfl zbF (zap (zaj ?_))))))))
   refine zaM rfl (fun hb1 => ?_) (fun hb1 => ?_)
   ·
    have h := za0 hb1 h
    refine zaP (zaj (zas (za2 (zas (zai (zah rfl dc rfl (zah rfl dc rfl ?_)))))))
    obtain ⟨c1, hq1, h⟩ := zbN h
    refine zbW rfl dc rfl rfl (zba Tryd.underlying9 hq1) (zaz rfl dc rfl rfl zb6 (zah rfl dc rfl ?_))
    refine za6 (s := 14) rfl (fun hb2 => ?_) (fun hb2 => ?_)
    ·
     have h := za0 hb2 h
     refine zan rfl dc (zan rfl dc (zan rfl dc (zan rfl dc (zaB (b := true) rfl dc rfl rfl (zap (zaj (zbu rfl (zas (zai (zak rfl dc rfl (zap (zaj (zaX ?_)))))))))))))
     refine zaI (zay (zay (zaI (zay ?_))))
     cases h
     exact za3 (rs := [.tmp 2]) () (.inl rfl) Tryd.results69 (.cons (.tmp rfl) .nil) rfl Splits.nil
    ·
     have h := za1 hb2 h
     refine zah rfl dc rfl (zah rfl dc rfl (zbW rfl dc rfl rfl (zba Tryd.underlying9 hq1) (zaz rfl dc rfl rfl zb6 (zaB (b := false) rfl dc rfl rfl (zap (zaj ?_))))))
     refine zaM rfl (fun hb3 => ?_) (fun hb3 => ?_)
     ·
      have h := za0 hb3 h
      refine zas (zai (zak rfl dc rfl (zap (zaj (zaX (zaI (zay (zay (zaI (zay ?_))))))))))
      cases h
      exact za3 (rs := [.tmp 2]) () (.inl rfl) Tryd.results69 (.cons (.tmp rfl) .nil) rfl Splits.nil
     ·
      have h := za1 hb3 h
      refine zaP (zaA (zaj (zai (zah rfl dc rfl ?_))))
      obtain ⟨hg1, h⟩ := zcb h
      refine zaz rfl dc rfl rfl (zbh (r := i3 + 1) (IntWalk.i64_in _ hg1)) (zak rfl dc rfl (zap ?_))
      subst hag1
      exact zbj (n1, i3 + 1) h (Nat.lt_succ_self _) rfl (zad rfl (zad rfl (zaH))) Splits.nil
   ·
    have h := za1 hb1 h
    refine zby (zaJ (zaJ (zaV ?_)))
    exact zaO () h rfl (zad rfl (zaH)) Splits.nil
 ·
  rintro _ h
  rw [hj1] at h
  show TC _ _ _ _ _ ([]) _ _ [(0, .string s1)] []
  refine zas (zai (zah rfl dc rfl (zbA rfl dc rfl Tryd.underlying9 (zaz rfl dc rfl rfl zjF (zah rfl dc rfl ?_)))))
  refine za6 (s := 23) rfl (fun hb4 => ?_) (fun hb4 => ?_)
  ·
   have h := za0 hb4 h
   refine zah rfl dc rfl ?_
   obtain ⟨r1, hq2, h⟩ := zbN h
   refine zbH (v := .bool r1) (vs := [.string s1]) rfl dc rfl rfl rfl zoY (zgy hq2) (zhJ rfl dc rfl zfX (zaB (b := true) rfl dc rfl rfl (zak rfl dc rfl (zap (zaj (zaX ?_))))))
   cases h
   exact za3 (rs := [.tmp 2]) () (.inl rfl) Tryd.results69 (.cons (.tmp rfl) .nil) rfl Splits.nil
  ·
   have h := za1 hb4 h
   refine zan rfl dc (zan rfl dc (zan rfl dc (zaB (b := false) rfl dc rfl rfl (zak rfl dc rfl (zap (zaj (zaX ?_)))))))
   cases h
   exact za3 (rs := [.tmp 2]) () (.inl rfl) Tryd.results69 (.cons (.tmp rfl) .nil) rfl Splits.nil
end Go.Proofs.YtgfkogafkhbgnaaDoor
namespace Go.Proofs.YtgfkogafkhbgnaaDoor
open Go.RowKit Go.Lib
set_option linter.unusedVariables false
set_option linter.unusedSimpArgs false
/-! ### Bytes -/
theorem ziu (s : ByteArray) : s.data.toList.length = s.size := by rw [Array.length_toList]; rfl
theorem ze1 {s : ByteArray} {i : Nat} {b : UInt8} {t : List UInt8} (h : s.data.toList.drop i = b :: t) : zgo s (i : Int) = some (b.toNat : Int) ∧ i < s.size := by
  have hl : i < s.data.toList.length := by
    rcases Nat.lt_or_ge i s.data.toList.length with h1 | h1
    · exact h1
    · rw [List.drop_eq_nil_of_le h1] at h; cases h
  have hs : i < s.size := by rw [← ziu]; exact hl
  refine ⟨?_, hs⟩
  rw [zmB rfl hs]
  rw [List.drop_eq_getElem_cons hl] at h
  have h2 := (List.cons.inj h).1
  rw [Array.getElem_toList] at h2
  rw [← h2]; rfl
theorem zeB {s : ByteArray} {i : Nat} (h : s.data.toList.drop i = []) (hi : i ≤ s.size) : i = s.size := by
  rw [List.drop_eq_nil_iff, ziu] at h; omega
theorem zeU {l : List UInt8} {i : Nat} {b : UInt8} {t : List UInt8} (h : l.drop i = b :: t) : l.drop (i + 1) = t := by
  rw [← List.drop_drop, h]; rfl
theorem n13 (b : UInt8) : ((b.toNat : Int) == 13) = decide (b = 13) := by
  by_cases h : b = 13
  · subst h; rfl
  · rw [decide_eq_false h]; exact beq_eq_false_iff_ne.2 (fun e => h (UInt8.toNat.inj (by show b.toNat = 13; omega)))
theorem n10 (b : UInt8) : ((b.toNat : Int) == 10) = decide (b = 10) := by
  by_cases h : b = 10
  · subst h; rfl
  · rw [decide_eq_false h]; exact beq_eq_false_iff_ne.2 (fun e => h (UInt8.toNat.inj (by show b.toNat = 10; omega)))
theorem n32 (b : UInt8) : ((b.toNat : Int) == 32) = decide (b = 32) := by
  by_cases h : b = 32
  · subst h; rfl
  · rw [decide_eq_false h]; exact beq_eq_false_iff_ne.2 (fun e => h (UInt8.toNat.inj (by show b.toNat = 32; omega)))
theorem n9 (b : UInt8) : ((b.toNat : Int) == 9) = decide (b = 9) := by
  by_cases h : b = 9
  · subst h; rfl
  · rw [decide_eq_false h]; exact beq_eq_false_iff_ne.2 (fun e => h (UInt8.toNat.inj (by show b.toNat = 9; omega)))
theorem n35 (b : UInt8) : ((b.toNat : Int) == 35) = decide (b = 35) := by
  by_cases h : b = 35
  · subst h; rfl
  · rw [decide_eq_false h]; exact beq_eq_false_iff_ne.2 (fun e => h (UInt8.toNat.inj (by show b.toNat = 35; omega)))

/-! ### The lines' spans -/
/-- The spans of lines: p: the byte ahead is 13; f: where the line begins; a: where we are. -/
def spP : Bool → Nat → Nat → List UInt8 → List (Nat × Nat)
  | _, f, a, [] => [(f, a)]
  | p, f, a, b :: t =>
    if b = 13 then (if t.head? = some 10 then spP true f (a + 1) t else (f, a) :: spP true (a + 1) (a + 1) t)
    else if b = 10 then (f, if p then a - 1 else a) :: spP false (a + 1) (a + 1) t
    else spP false f (a + 1) t
def zcE (l : List UInt8) : List (Nat × Nat) := spP false 0 0 l
def mkS (x : Nat × Nat) : Gapi_Span := ⟨x.1, x.2⟩
/-- The ends of lines. -/
def enP : Bool → Nat → List UInt8 → List (Nat × Nat)
  | _, _, [] => []
  | p, a, b :: t =>
    if b = 13 then (if t.head? = some 10 then enP true (a + 1) t else (a, a + 1) :: enP true (a + 1) t)
    else if b = 10 then ((if p then a - 1 else a), a + 1) :: enP false (a + 1) t
    else enP false (a + 1) t
def liE (n : Nat) : Nat → List (Nat × Nat) → List (Nat × Nat)
  | f, [] => [(f, n)]
  | f, (x, y) :: es => (f, x) :: liE n y es
theorem zif : ∀ (l : List UInt8) (p : Bool) (f a : Nat), liE (a + l.length) f (enP p a l) = spP p f a l
  | [], p, f, a => rfl
  | b :: t, p, f, a => by
    have e : a + (b :: t).length = a + 1 + t.length := by rw [List.length_cons]; omega
    rw [e]
    unfold enP spP
    split
    · split
      · exact zif t _ _ _
      · show (f, a) :: liE _ _ _ = _
        rw [zif t]
    · split
      · show (f, _) :: liE _ _ _ = _
        rw [zif t]
      · exact zif t _ _ _
theorem zon {t : List UInt8} (h : t.head? ≠ some 10) (a : Nat) : enP true a t = enP false a t := by
  cases t with
  | nil => rfl
  | cons b t =>
    have hb : b ≠ 10 := fun e => h (by rw [e]; rfl)
    unfold enP
    rw [if_neg hb, if_neg hb]
theorem zir : ∀ (l : List UInt8) (p : Bool) (a : Nat), (enP p a l).length ≤ l.length
  | [], p, a => Nat.le_refl _
  | b :: t, p, a => by
    unfold enP
    rw [List.length_cons]
    split
    · split
      · have := zir t true (a + 1); omega
      · rw [List.length_cons]; have := zir t true (a + 1); omega
    · split
      · rw [List.length_cons]; have := zir t false (a + 1); omega
      · have := zir t false (a + 1); omega
theorem zmG (s : ByteArray) (J : List Gapi_Span → Option (List Gapi_Span)) (hs : s.size ≤ 1073741824) : ∀ (n i : Nat) (acc : List Gapi_Span), i ≤ s.size → s.size - i < n → acc.length ≤ i →
    za8 (fun _ _ => none) (zdq s J) n acc (i : Int) = J (acc ++ (enP false i (s.data.toList.drop i)).map mkS) := by
  intro n
  induction n with
  | zero => intro i acc h1 h2; omega
  | succ n ih =>
    intro i acc hi hn ha
    rw [zbt]
    obtain ⟨ag, hag⟩ : ∃ ag, ag = za8 (fun _ _ => none) (zdq s J) n := ⟨_, rfl⟩
    have ihn : ∀ (i : Nat) (acc : List Gapi_Span), i ≤ s.size → s.size - i < n → acc.length ≤ i → ag acc (i : Int) = J (acc ++ (enP false i (s.data.toList.drop i)).map mkS) := by rw [hag]; exact ih
    rw [← hag]
    clear ih hag
    unfold zdq
    cases hd : s.data.toList.drop i with
    | nil =>
      have := zeB hd hi
      refine zaT (decide_eq_false (by omega)) ?_
      show J acc = J (acc ++ [])
      rw [List.append_nil]
    | cons b t =>
      obtain ⟨hb, hlt⟩ := ze1 hd
      have hd1 := zeU hd
      refine zaY (decide_eq_true (by omega)) (zcC (za9 hb ?_))
      have hcast : (i : Int) + 1 = ((i + 1 : Nat) : Int) := by omega
      have goOn : ∀ (acc2 : List Gapi_Span), acc2.length ≤ i + 1 → (grd (I64 ((i : Int) + 1)) <| ag acc2 ((i : Int) + 1)) = J (acc2 ++ (enP false (i + 1) t).map mkS) := fun acc2 h2 => by
        refine zcD ⟨by omega, by omega⟩ ?_
        rw [hcast, ihn (i + 1) acc2 (by omega) (by omega) h2, hd1]
      by_cases h13 : b = 13
      · refine zaY (by rw [n13]; exact decide_eq_true h13) (zcD ⟨by omega, by omega⟩ ?_)
        have one : (grd (I64 ((i : Int) + 1)) <| grd (acc.length + 1 ≤ 2147483648) <| (grd (I64 ((i : Int) + 1)) <| ag (acc ++ [(⟨i, (i : Int) + 1⟩ : Gapi_Span)]) ((i : Int) + 1))) = J (acc ++ ((i, i + 1) :: enP false (i + 1) t).map mkS) := by
          refine zcD ⟨by omega, by omega⟩ (zcD (by omega) ?_)
          rw [goOn _ (by simp; omega), List.map_cons, List.append_assoc]
          rfl
        cases t with
        | nil =>
          have hsz : i + 1 = s.size := zeB hd1 (by omega)
          refine zaT (decide_eq_false (by omega)) (za9 hb (zaY (by rw [n13]; exact decide_eq_true h13) ?_))
          refine one.trans ?_
          unfold enP; rw [if_pos h13, if_neg (by simp)]; rfl
        | cons c u =>
          obtain ⟨hc, hlt2⟩ := ze1 hd1
          refine zaY (decide_eq_true (by omega)) (zcD ⟨by omega, by omega⟩ (za9 (by rw [hcast]; exact hc) ?_))
          by_cases h10 : c = 10
          · refine zaY (by rw [n10]; exact decide_eq_true h10) (zcD ⟨by omega, by omega⟩ (zcD (by omega) (zcD ⟨by omega, by omega⟩ ?_)))
            refine zcD ⟨by omega, by omega⟩ ?_
            have hd2 := zeU hd1
            show ag _ ((i : Int) + 1 + 1) = _
            rw [show (i : Int) + 1 + 1 = ((i + 2 : Nat) : Int) by omega, ihn (i + 2) _ (by omega) (by omega) (by simp; omega), hd2, List.append_assoc]
            have e2 : enP false i (b :: c :: u) = (i, i + 2) :: enP false (i + 2) u := by
              rw [enP, if_pos h13, if_pos (by rw [h10]; rfl), enP, if_neg (by rw [h10]; decide), if_pos h10, if_pos rfl]
              rfl
            rw [e2]
            rfl
          · refine zaT (by rw [n10]; exact decide_eq_false h10) (za9 hb (zaY (by rw [n13]; exact decide_eq_true h13) ?_))
            refine one.trans ?_
            rw [show enP false i (b :: c :: u) = (i, i + 1) :: enP true (i + 1) (c :: u) by rw [enP, if_pos h13, if_neg (by simp [h10])], zon (by simp [h10])]
      · refine zaT (by rw [n13]; exact decide_eq_false h13) (za9 hb (zaT (by rw [n13]; exact decide_eq_false h13) ?_))
        by_cases h10 : b = 10
        · refine zaY (by rw [n10]; exact decide_eq_true h10) (zcD ⟨by omega, by omega⟩ (zcD (by omega) ?_))
          refine (goOn _ (by simp; omega)).trans ?_
          rw [List.append_assoc]
          rw [enP, if_neg h13, if_pos h10]; rfl
        · refine zaT (by rw [n10]; exact decide_eq_false h10) ?_
          refine (goOn _ (by omega)).trans ?_
          rw [enP, if_neg h13, if_neg h10]
theorem znS (s : ByteArray) (hs : s.size ≤ 1073741824) : zer s = some ((enP false 0 s.data.toList).map mkS) := by
  unfold zer
  refine zcC ?_
  have := zmG s (fun l => some l) hs zb0 0 [] (Nat.zero_le _) (by unfold zb0; omega) (Nat.le_refl _)
  rw [List.drop_zero, List.nil_append] at this
  exact this
theorem zlI (s : ByteArray) (J : List Gapi_Span → Option (List Gapi_Span)) (E : List (Nat × Nat)) (hE : E.length ≤ 1073741824) : ∀ (n i f : Nat) (acc : List Gapi_Span), i ≤ E.length → E.length + 1 - i < n → acc.length = i →
    za8 (fun _ _ _ => none) (zcM s J (E.map mkS) (E.map mkS)) n acc (f : Int) (i : Int) = J (acc ++ (liE s.size f (E.drop i)).map mkS) := by
  intro n
  induction n with
  | zero => intro i f acc h1 h2; omega
  | succ n ih =>
    intro i f acc hi hn ha
    rw [zbt]
    obtain ⟨ag, hag⟩ : ∃ ag, ag = za8 (fun _ _ _ => none) (zcM s J (E.map mkS) (E.map mkS)) n := ⟨_, rfl⟩
    rw [← hag]
    unfold zcM
    refine zaY (decide_eq_true (by rw [List.length_map]; omega)) (zcC ?_)
    cases hd : E.drop i with
    | nil =>
      have hl : E.length ≤ i := List.drop_eq_nil_iff.1 hd
      obtain rfl : i = E.length := by omega
      refine zaT (decide_eq_false (by rw [List.length_map]; omega)) (zcD (by omega) (zcD ⟨by omega, by omega⟩ ?_))
      obtain ⟨n, rfl⟩ : ∃ m, n = m + 1 := ⟨n - 1, by omega⟩
      rw [hag, zbt]
      unfold zcM
      refine zaT (decide_eq_false (by rw [List.length_map]; omega)) rfl
    | cons x es =>
      have hl : i < E.length := by
        rcases Nat.lt_or_ge i E.length with h | h
        · exact h
        · rw [List.drop_eq_nil_of_le h] at hd; cases hd
      have hx : E[i]? = some x := by
        rw [List.drop_eq_getElem_cons hl] at hd
        rw [List.getElem?_eq_getElem hl, (List.cons.inj hd).1]
      have hg : zdh (E.map mkS) (i : Int) = some (mkS x) := zbV (by rw [List.getElem?_map, hx]; rfl)
      refine zaY (decide_eq_true (by rw [List.length_map]; omega)) (za9 hg (za9 hg (zcD (by omega) (zcD ⟨by omega, by omega⟩ ?_))))
      have hd1 : E.drop (i + 1) = es := by rw [← List.drop_drop, hd]; rfl
      have := ih (i + 1) x.2 (acc ++ [(⟨f, x.1⟩ : Gapi_Span)]) (by omega) (by omega) (by simp; omega)
      rw [hd1, List.append_assoc, ← hag] at this
      exact this
theorem zlB (s : ByteArray) (hs : s.size ≤ 65536) : zey s = some ((zcE s.data.toList).map mkS) := by
  unfold zey
  have hl := zir s.data.toList false 0
  rw [ziu] at hl
  refine zcC (za9 (znS s (by omega)) (zcD ⟨by omega, by rw [List.length_map]; omega⟩ (za9 (znS s (by omega)) ?_)))
  have := zlI s (fun l => some l) (enP false 0 s.data.toList) (by omega) zb0 0 0 [] (Nat.zero_le _) (by unfold zb0; omega) rfl
  rw [List.drop_zero, List.nil_append] at this
  refine this.trans ?_
  unfold zcE
  rw [← zif, ziu, Nat.zero_add]
end Go.Proofs.YtgfkogafkhbgnaaDoor
namespace Go.Proofs.YtgfkogafkhbgnaaDoor
open Go.RowKit Go.Lib
set_option linter.unusedVariables false
set_option linter.unusedSimpArgs false
theorem zko {b : UInt8} {t : List UInt8} (hb : 128 ≤ b.toNat) : 128 ≤ (decodeL (b :: t)).1 ∧ ∀ x ∈ (b :: t).take (decodeL (b :: t)).2, 128 ≤ x.toNat := by
  have hd := zny (b :: t) (by simp)
  generalize (decodeL (b :: t)).1 = r at hd ⊢
  generalize (decodeL (b :: t)).2 = w at hd ⊢
  obtain ⟨w, rfl⟩ : ∃ v, w = v + 1 := ⟨w - 1, by have := hd.pos; omega⟩
  by_cases hbr : r = 65533 ∧ w + 1 = 1
  · obtain ⟨rfl, hw⟩ := hbr
    obtain rfl : w = 0 := by omega
    refine ⟨by omega, fun x hx => ?_⟩
    simp at hx; subst hx; omega
  · have he := hd.bytes hbr
    have hr : 128 ≤ r := by
      rcases Nat.lt_or_ge r 128 with h1 | h1
      · rw [zmH r h1, List.take_succ_cons] at he
        have h2 : r.toUInt8 = b := (List.cons.inj he).1
        have h3 : b.toNat = r := by rw [← h2]; simp; omega
        omega
      · exact h1
    refine ⟨hr, ?_⟩
    rw [← he]
    exact (zjw r hd.valid hr).2.2
def spE (e : Gplace_ended) : Gapi_Span := ⟨e.span_From, e.span_To⟩
/-- Is the byte ahead 13? -/
def pv (l : List UInt8) (i : Nat) : Bool := decide (0 < i) && l.getD (i - 1) 0 == 13
theorem zmz {l : List UInt8} {i : Nat} {b : UInt8} {t : List UInt8} (h : l.drop i = b :: t) : l.getD i 0 = b := by
  have h2 : (l.drop i)[0]? = some b := by rw [h]; rfl
  rw [List.getElem?_drop] at h2
  rw [List.getD_eq_getElem?_getD, show i = i + 0 from rfl, h2]; rfl
theorem zmi {l : List UInt8} {i : Nat} {b : UInt8} {t : List UInt8} (h : l.drop i = b :: t) : pv l (i + 1) = (b == 13) := by
  unfold pv
  rw [Nat.add_sub_cancel, zmz h, decide_eq_true (by omega), Bool.true_and]
theorem zn6 {l : List UInt8} {i w : Nat} (hw : 1 ≤ w) (hle : w ≤ (l.drop i).length) (h : ∀ x ∈ (l.drop i).take w, 128 ≤ x.toNat) : pv l (i + w) = false := by
  unfold pv
  obtain ⟨w, rfl⟩ : ∃ v, w = v + 1 := ⟨w - 1, by omega⟩
  have hlt : w < (l.drop i).length := by omega
  have h1 : (l.drop i)[w]? = some ((l.drop i)[w]) := List.getElem?_eq_getElem hlt
  have h2 : (l.drop i)[w] ∈ (l.drop i).take (w + 1) := by
    refine List.mem_of_getElem? (i := w) ?_
    rw [List.getElem?_take, if_pos (by omega)]; exact h1
  have h3 := h _ h2
  rw [List.getElem?_drop] at h1
  rw [show i + (w + 1) - 1 = i + w by omega, List.getD_eq_getElem?_getD, h1, Option.getD_some]
  have : ((l.drop i)[w] == 13) = false := beq_eq_false_iff_ne.2 (fun e => by rw [e] at h3; exact absurd h3 (by decide))
  rw [this, Bool.and_false]
theorem zl5 : ∀ (x t : List UInt8) (p : Bool) (f i : Nat), (∀ b ∈ x, 128 ≤ b.toNat) → x ≠ [] → spP p f i (x ++ t) = spP false f (i + x.length) t
  | [], t, p, f, i, h, hx => absurd rfl hx
  | b :: x, t, p, f, i, h, hx => by
    have hb := h b (by simp)
    have h13 : b ≠ 13 := fun e => by rw [e] at hb; exact absurd hb (by decide)
    have h10 : b ≠ 10 := fun e => by rw [e] at hb; exact absurd hb (by decide)
    rw [List.cons_append, spP, if_neg h13, if_neg h10]
    by_cases hx2 : x = []
    · subst hx2; rfl
    · rw [zl5 x t false f (i + 1) (fun y hy => h y (by simp [hy])) hx2, List.length_cons]
      rw [show i + 1 + x.length = i + (x.length + 1) by omega]
section
variable {s : ByteArray} {j1 : (List Gapi_Place) → (List Gplace_ended) → Int → Int → Int → Int → Int → Int → Int → Option ((Option Gplace_Map) × Int)} {ag : (List Gapi_Place) → (List Gplace_ended) → Int → Int → Int → Int → Int → Int → Int → Nat → Option ((Option Gplace_Map) × Int)}
  {M : List Gapi_Place} {E : List Gplace_ended} {p16 p17 p18 p19 p20 f7 f8 : Int} {m : Nat} {p : Pc}
def u22 (p : Pc) (p18 : Int) : Int := if 65536 ≤ p.r then p18 + 1 + 1 else p18 + 1
theorem zpA {X : Option ((Option Gplace_Map) × Int)} {A B C D : Prop} [Decidable A] [Decidable B] [Decidable C] [Decidable D] (hA : A) (hB : B) (hC : C) (hD : D) (h18 : I64 (p18 + 1 + 1)) {K : Int → Option ((Option Gplace_Map) × Int)} (h : K (u22 p p18) = X) :
    zbO (fun (j2 : Int → Option ((Option Gplace_Map) × Int)) => grd A <| grd B <| grd C <| grd D <| zaU (decide ((65536 : Int) ≤ (p.r : Int))) (grd (I64 ((p18 + 1) + 1)) <| j2 ((p18 + 1) + 1)) (j2 (p18 + 1))) K = X := by
  refine zcC (zcD hA (zcD hB (zcD hC (zcD hD ?_))))
  unfold u22 at h
  by_cases h1 : 65536 ≤ p.r
  · rw [if_pos h1] at h; exact zaY (decide_eq_true (by omega)) (zcD h18 h)
  · rw [if_neg h1] at h; exact zaT (decide_eq_false (by omega)) h
/-- The program's step at a piece. -/
theorem zne {X : Option ((Option Gplace_Map) × Int)} (hp : (pcs s.data.toList)[m]? = some p) (hm : M.length + 1 ≤ 2147483648) (h17 : I64 (p17 + 1)) (h18 : I64 (p18 + 1 + 1)) (h18' : I64 (p18 + 1)) (h20 : I64 (p20 + 1))
    (hi : p.i < s.size) (hs : s.size ≤ 65536) (hE : E.length + 1 ≤ 2147483648) (h19 : I64 (p19 + 1))
    (hX : (p.r ≠ 13 ∧ p.r ≠ 10 ∨ p.r = 13 ∧ ∃ c u, s.data.toList.drop (p.i + 1) = c :: u ∧ c = 10) ∧ ag (M ++ [(⟨p.i, p17, p18, p19, p20⟩ : Gapi_Place)]) E p.i (p17 + 1) (u22 p p18) p19 (p20 + 1) f7 f8 (m + 1) = X ∨
      ∃ w : Nat, w ≤ p.i + 1 ∧ (p.r = 13 ∧ s.data.toList[p.i + 1]? ≠ some 10 ∧ w = 1 ∨ p.r = 10 ∧ w = (if pv s.data.toList p.i then 2 else 1)) ∧
        ag (M ++ [(⟨p.i, p17, p18, p19, p20⟩ : Gapi_Place)]) (E ++ [(⟨f7, ((p.i + 1 - w : Nat) : Int), w, f8⟩ : Gplace_ended)]) p.i (p17 + 1) (u22 p p18) (p19 + 1) 0 ((p.i + 1 : Nat) : Int) ((M.length + 1 : Nat) : Int) (m + 1) = X) :
    zc4 s j1 ag M E p16 p17 p18 p19 p20 f7 f8 m = X := by
  have hl := (List.getElem?_eq_some_iff.1 hp).1
  unfold zc4
  refine zaY (decide_eq_true hl) (za9 hp (zpA hm h17 h18' h20 h18 ?_))
  refine zcC ?_
  have e13 : ((p.r : Int) == 13) = decide (p.r = 13) := by
    by_cases h : p.r = 13
    · rw [h]; rfl
    · rw [decide_eq_false h]; exact beq_eq_false_iff_ne.2 (by omega)
  have e10 : ((p.r : Int) == 10) = decide (p.r = 10) := by
    by_cases h : p.r = 10
    · rw [h]; rfl
    · rw [decide_eq_false h]; exact beq_eq_false_iff_ne.2 (by omega)
  have n13' : ((p.r : Int) != 13) = !decide (p.r = 13) := by unfold bne; rw [e13]
  have n10' : ((p.r : Int) != 10) = !decide (p.r = 10) := by unfold bne; rw [e10]
  have hsucc : (p.i : Int) + 1 = ((p.i + 1 : Nat) : Int) := by omega
  have fin : ∀ w : Nat, w ≤ p.i + 1 → ag (M ++ [(⟨p.i, p17, p18, p19, p20⟩ : Gapi_Place)]) (E ++ [(⟨f7, ((p.i + 1 - w : Nat) : Int), w, f8⟩ : Gplace_ended)]) p.i (p17 + 1) (u22 p p18) (p19 + 1) 0 ((p.i + 1 : Nat) : Int) ((M.length + 1 : Nat) : Int) (m + 1) = X →
      (grd (I64 ((p.i : Int) + 1)) <| grd (I64 (((p.i : Int) + 1) - (w : Int))) <| grd (E.length + 1 ≤ 2147483648) <| grd (I64 ((p.i : Int) + 1)) <| grd (I64 (p19 + 1)) <|
        ag (M ++ [(⟨(p.i : Int), p17, p18, p19, p20⟩ : Gapi_Place)]) (E ++ [(⟨f7, ((p.i : Int) + 1) - (w : Int), (w : Int), f8⟩ : Gplace_ended)]) (p.i : Int) (p17 + 1) (u22 p p18) (p19 + 1) 0 ((p.i : Int) + 1) ((M ++ [(⟨(p.i : Int), p17, p18, p19, p20⟩ : Gapi_Place)]).length : Int) (m + 1)) = X := fun w hw h => by
    refine zcD ⟨by omega, by omega⟩ (zcD ⟨by omega, by omega⟩ (zcD hE (zcD ⟨by omega, by omega⟩ (zcD h19 ?_))))
    rw [← h]
    rw [show ((p.i : Int) + 1) - (w : Int) = ((p.i + 1 - w : Nat) : Int) by omega, show (p.i : Int) + 1 = ((p.i + 1 : Nat) : Int) by omega, List.length_append]
    rfl
  by_cases h13 : p.r = 13
  · refine zaY (by rw [e13]; exact decide_eq_true h13) (zcD ⟨by omega, by omega⟩ ?_)
    have no10 : p.r ≠ 10 := by omega
    rcases hX with ⟨hc, hX⟩ | ⟨w, hw, hc, hX⟩
    · rcases hc with ⟨h, _⟩ | ⟨_, c, u, hd, hc⟩
      · exact absurd h13 h
      · obtain ⟨hg, hlt⟩ := ze1 hd
        refine zaY (decide_eq_true (by omega)) (zcD ⟨by omega, by omega⟩ (za9 (by rw [hsucc]; exact hg) (zaY (by rw [n10]; exact decide_eq_true hc) hX)))
    · have hw1 : w = 1 ∧ s.data.toList[p.i + 1]? ≠ some 10 := by
        rcases hc with ⟨_, h, rfl⟩ | ⟨h, _⟩
        · exact ⟨rfl, h⟩
        · exact absurd h no10
      obtain ⟨rfl, hne⟩ := hw1
      have tail : (zaU (((p.r : Int) : Int) != 13) (zaU (((p.r : Int) : Int) != 10) (ag (M ++ [(⟨(p.i : Int), p17, p18, p19, p20⟩ : Gapi_Place)]) E (p.i : Int) (p17 + 1) (u22 p p18) p19 (p20 + 1) f7 f8 (m + 1)) ((grd (I64 ((p.i : Int) + 1)) <| grd (I64 (((p.i : Int) + 1) - (1 : Int))) <| grd (E.length + 1 ≤ 2147483648) <| grd (I64 ((p.i : Int) + 1)) <| grd (I64 (p19 + 1)) <|
        ag (M ++ [(⟨(p.i : Int), p17, p18, p19, p20⟩ : Gapi_Place)]) (E ++ [(⟨f7, ((p.i : Int) + 1) - (1 : Int), (1 : Int), f8⟩ : Gplace_ended)]) (p.i : Int) (p17 + 1) (u22 p p18) (p19 + 1) 0 ((p.i : Int) + 1) ((M ++ [(⟨(p.i : Int), p17, p18, p19, p20⟩ : Gapi_Place)]).length : Int) (m + 1)))) ((grd (I64 ((p.i : Int) + 1)) <| grd (I64 (((p.i : Int) + 1) - (1 : Int))) <| grd (E.length + 1 ≤ 2147483648) <| grd (I64 ((p.i : Int) + 1)) <| grd (I64 (p19 + 1)) <|
        ag (M ++ [(⟨(p.i : Int), p17, p18, p19, p20⟩ : Gapi_Place)]) (E ++ [(⟨f7, ((p.i : Int) + 1) - (1 : Int), (1 : Int), f8⟩ : Gplace_ended)]) (p.i : Int) (p17 + 1) (u22 p p18) (p19 + 1) 0 ((p.i : Int) + 1) ((M ++ [(⟨(p.i : Int), p17, p18, p19, p20⟩ : Gapi_Place)]).length : Int) (m + 1)))) = X :=
        zaT (by rw [n13', decide_eq_true h13]; rfl) (fin 1 hw hX)
      cases hd : s.data.toList.drop (p.i + 1) with
      | nil =>
        have hsz := zeB hd (by omega)
        refine zaT (decide_eq_false (by omega)) (zaT (by rw [e10]; exact decide_eq_false no10) tail)
      | cons c u =>
        obtain ⟨hg, hlt⟩ := ze1 hd
        have hc10 : c ≠ 10 := fun e => hne (by
          have : (s.data.toList.drop (p.i + 1))[0]? = some c := by rw [hd]; rfl
          rw [List.getElem?_drop] at this; rw [← e]; exact this)
        refine zaY (decide_eq_true (by omega)) (zcD ⟨by omega, by omega⟩ (za9 (by rw [hsucc]; exact hg) (zaT (by rw [n10]; exact decide_eq_false hc10) (zaT (by rw [e10]; exact decide_eq_false no10) tail))))
  · refine zaT (by rw [e13]; exact decide_eq_false h13) ?_
    by_cases h10 : p.r = 10
    · refine zaY (by rw [e10]; exact decide_eq_true h10) ?_
      rcases hX with ⟨hc, hX⟩ | ⟨w, hw, hc, hX⟩
      · rcases hc with ⟨_, h⟩ | ⟨h, _⟩
        · exact absurd h10 h
        · exact absurd h h13
      · have hw1 : w = (if pv s.data.toList p.i then 2 else 1) := by
          rcases hc with ⟨h, _⟩ | ⟨_, h⟩
          · exact absurd h h13
          · exact h
        have t13 : ((p.r : Int) != 13) = true := by rw [n13', decide_eq_false h13]; rfl
        have t10 : ((p.r : Int) != 10) = false := by rw [n10', decide_eq_true h10]; rfl
        by_cases h0 : 0 < p.i
        · refine zaY (decide_eq_true (by omega)) (zcD ⟨by omega, by omega⟩ ?_)
          obtain ⟨c, u, hd⟩ : ∃ c u, s.data.toList.drop (p.i - 1) = c :: u := by
            cases hd : s.data.toList.drop (p.i - 1) with
            | nil => have := zeB hd (by omega); omega
            | cons c u => exact ⟨c, u, rfl⟩
          obtain ⟨hg, _⟩ := ze1 hd
          have hpv : pv s.data.toList p.i = (c == 13) := by
            have := zmi hd
            rwa [show p.i - 1 + 1 = p.i by omega] at this
          refine za9 (by rw [show (p.i : Int) - 1 = ((p.i - 1 : Nat) : Int) by omega]; exact hg) ?_
          by_cases hc13 : c = 13
          · have : w = 2 := by rw [hw1, hpv, hc13]; rfl
            subst this
            exact zaY (by rw [n13]; exact decide_eq_true hc13) (fin 2 hw hX)
          · have : w = 1 := by rw [hw1, hpv, beq_eq_false_iff_ne.2 hc13]; rfl
            subst this
            exact zaT (by rw [n13]; exact decide_eq_false hc13) (zaY t13 (zaT t10 (fin 1 hw hX)))
        · have : w = 1 := by rw [hw1]; unfold pv; rw [decide_eq_false h0]; rfl
          subst this
          exact zaT (decide_eq_false (by omega)) (zaY t13 (zaT t10 (fin 1 hw hX)))
    · refine zaT (by rw [e10]; exact decide_eq_false h10) ?_
      rcases hX with ⟨hc, hX⟩ | ⟨w, hw, hc, hX⟩
      · exact zaY (by rw [n13', decide_eq_false h13]; rfl) (zaY (by rw [n10', decide_eq_false h10]; rfl) hX)
      · rcases hc with ⟨h, _⟩ | ⟨h, _⟩
        · exact absurd h h13
        · exact absurd h h10
end
theorem znf (s : ByteArray) (J : (List Gapi_Place) → (List Gplace_ended) → Int → Int → Int → Int → Int → Int → Int → Option ((Option Gplace_Map) × Int)) (hs : s.size ≤ 65536) :
    ∀ (n m i : Nat) (M : List Gapi_Place) (E : List Gplace_ended) (p16 p17 p18 p19 p20 f8 : Int) (f : Nat), (pcs s.data.toList).drop m = zdz i (s.data.toList.drop i) → i ≤ s.size → s.size - i < n → M.length ≤ i → E.length ≤ i →
      0 ≤ p17 → p17 ≤ i → 0 ≤ p18 → p18 ≤ 2 * i → 0 ≤ p19 → p19 ≤ i → 0 ≤ p20 → p20 ≤ i →
      ∃ M' E' q1 q2 q3 q4 q5 g8, ∃ g : Nat, za8 (fun _ _ _ _ _ _ _ _ _ _ => none) (zc4 s J) n M E p16 p17 p18 p19 p20 (f : Int) f8 m = J M' E' q1 q2 q3 q4 q5 (g : Int) g8 ∧ M'.length ≤ s.size ∧ E'.length ≤ s.size ∧
        E'.map spE ++ [mkS (g, s.size)] = E.map spE ++ (spP (pv s.data.toList i) f i (s.data.toList.drop i)).map mkS := by
  intro n
  induction n with
  | zero => intro m i M E p16 p17 p18 p19 p20 f8 f h1 h2 h3; omega
  | succ n ih =>
    intro m i M E p16 p17 p18 p19 p20 f8 f hd hi hn hM hE a1 a2 a3 a4 a5 a6 a7 a8
    rw [zbt]
    obtain ⟨ag, hag⟩ : ∃ ag, ag = za8 (fun _ _ _ _ _ _ _ _ _ _ => none) (zc4 s J) n := ⟨_, rfl⟩
    rw [← hag] at ih ⊢
    cases hl : s.data.toList.drop i with
    | nil =>
      have hsz := zeB hl hi
      rw [hl, zcH] at hd
      have hge := List.drop_eq_nil_iff.1 hd
      refine ⟨M, E, p16, p17, p18, p19, p20, f8, f, ?_, by omega, by omega, ?_⟩
      · unfold zc4
        exact zaT (decide_eq_false (by omega)) rfl
      · subst hsz; rfl
    | cons b t =>
      have hlt := (ze1 hl).2
      rw [hl, zc5 i (b :: t) (by simp)] at hd
      have hlm : m < (pcs s.data.toList).length := by
        rcases Nat.lt_or_ge m (pcs s.data.toList).length with h | h
        · exact h
        · rw [List.drop_eq_nil_of_le h] at hd; cases hd
      have hq : (pcs s.data.toList)[m]? = some ⟨i, (decodeL (b :: t)).2, (decodeL (b :: t)).1⟩ := by
        rw [List.drop_eq_getElem_cons hlm] at hd
        rw [List.getElem?_eq_getElem hlm, (List.cons.inj hd).1]
      have hw1 := zfo (b :: t)
      have hwl := zhw (b :: t) (by simp)
      have hd2 : (pcs s.data.toList).drop (m + 1) = zdz (i + (decodeL (b :: t)).2) (s.data.toList.drop (i + (decodeL (b :: t)).2)) := by
        rw [← List.drop_drop, hd, ← List.drop_drop, hl]; rfl
      have hisz : i + (decodeL (b :: t)).2 ≤ s.size := by
        have : (s.data.toList.drop i).length = (b :: t).length := by rw [hl]
        rw [List.length_drop, ziu] at this; omega
      have hup : ∀ (q : Pc), 0 ≤ u22 q p18 ∧ u22 q p18 ≤ p18 + 2 := fun q => by unfold u22; split <;> omega
      obtain ⟨hu1, hu2⟩ := hup ⟨i, (decodeL (b :: t)).2, (decodeL (b :: t)).1⟩
      have hst := @zne s J ag M E p16 p17 p18 p19 p20 (f : Int) f8 m ⟨i, (decodeL (b :: t)).2, (decodeL (b :: t)).1⟩
      by_cases hb : 128 ≤ b.toNat
      · obtain ⟨hr, hall⟩ := zko (t := t) hb
        obtain ⟨M', E', q1, q2, q3, q4, q5, g8, g, h1, h2, h3, h4⟩ := ih (m + 1) (i + (decodeL (b :: t)).2) (M ++ [(⟨i, p17, p18, p19, p20⟩ : Gapi_Place)]) E i (p17 + 1) (u22 ⟨i, (decodeL (b :: t)).2, (decodeL (b :: t)).1⟩ p18) p19 (p20 + 1) f8 f hd2 hisz (by omega) (by simp; omega) (by omega) (by omega) (by omega) hu1 (by omega) a5 (by omega) (by omega) (by omega)
        refine ⟨M', E', q1, q2, q3, q4, q5, g8, g, hst hq (by omega) ⟨by omega, by omega⟩ ⟨by omega, by omega⟩ ⟨by omega, by omega⟩ ⟨by omega, by omega⟩ hlt hs (by omega) ⟨by omega, by omega⟩ (.inl ⟨.inl ⟨by show (decodeL (b :: t)).1 ≠ 13; omega, by show (decodeL (b :: t)).1 ≠ 10; omega⟩, h1⟩), h2, h3, ?_⟩
        rw [h4, zn6 hw1 (by rw [hl]; exact hwl) (by rw [hl]; exact hall)]
        congr 2
        have hsplit : b :: t = (b :: t).take (decodeL (b :: t)).2 ++ (b :: t).drop (decodeL (b :: t)).2 := (List.take_append_drop _ _).symm
        have hlen : ((b :: t).take (decodeL (b :: t)).2).length = (decodeL (b :: t)).2 := by rw [List.length_take]; omega
        conv => rhs; rw [hsplit]
        rw [zl5 _ _ _ _ _ hall (by intro e; rw [e] at hlen; simp at hlen; omega), hlen, ← List.drop_drop, hl]
      · have hdec := decodeL_ascii b t (by omega)
        rw [hdec] at hst hq hd2 hisz
        dsimp only at hst hq hd2 hisz
        obtain ⟨hu3, hu4⟩ := hup ⟨i, 1, b.toNat⟩
        clear hu1 hu2
        have hd1 := zeU hl
        have hpn := zmi hl
        by_cases h13 : b = 13
        · by_cases ht : t.head? = some 10
          · obtain ⟨c, u, rfl⟩ : ∃ c u, t = c :: u := by cases t with | nil => cases ht | cons c u => exact ⟨c, u, rfl⟩
            have hc : c = 10 := Option.some.inj ht
            obtain ⟨M', E', q1, q2, q3, q4, q5, g8, g, h1, h2, h3, h4⟩ := ih (m + 1) (i + 1) (M ++ [(⟨i, p17, p18, p19, p20⟩ : Gapi_Place)]) E i (p17 + 1) (u22 ⟨i, 1, b.toNat⟩ p18) p19 (p20 + 1) f8 f hd2 hisz (by omega) (by simp; omega) (by omega) (by omega) (by omega) hu3 (by omega) a5 (by omega) (by omega) (by omega)
            refine ⟨M', E', q1, q2, q3, q4, q5, g8, g, hst hq (by omega) ⟨by omega, by omega⟩ ⟨by omega, by omega⟩ ⟨by omega, by omega⟩ ⟨by omega, by omega⟩ hlt hs (by omega) ⟨by omega, by omega⟩ (.inl ⟨.inr ⟨by rw [h13]; rfl, c, u, hd1, hc⟩, h1⟩), h2, h3, ?_⟩
            rw [h4, hpn, hd1]
            congr 2
            conv => rhs; rw [spP, if_pos h13, if_pos ht]
            rw [h13]; rfl
          · obtain ⟨M', E', q1, q2, q3, q4, q5, g8, g, h1, h2, h3, h4⟩ := ih (m + 1) (i + 1) (M ++ [(⟨i, p17, p18, p19, p20⟩ : Gapi_Place)]) (E ++ [(⟨f, ((i + 1 - 1 : Nat) : Int), (1 : Nat), f8⟩ : Gplace_ended)]) i (p17 + 1) (u22 ⟨i, 1, b.toNat⟩ p18) (p19 + 1) 0 ((M.length + 1 : Nat) : Int) (i + 1) hd2 hisz (by omega) (by simp; omega) (by simp; omega) (by omega) (by omega) hu3 (by omega) (by omega) (by omega) (by omega) (by omega)
            refine ⟨M', E', q1, q2, q3, q4, q5, g8, g, hst hq (by omega) ⟨by omega, by omega⟩ ⟨by omega, by omega⟩ ⟨by omega, by omega⟩ ⟨by omega, by omega⟩ hlt hs (by omega) ⟨by omega, by omega⟩ (.inr ⟨1, by show 1 ≤ i + 1; omega, .inl ⟨by rw [h13]; rfl, ?_, rfl⟩, h1⟩), h2, h3, ?_⟩
            · show s.data.toList[i + 1]? ≠ some 10
              rw [← hd1, List.head?_eq_getElem?, List.getElem?_drop] at ht
              exact ht
            · rw [h4, hpn, hd1, List.map_append, List.append_assoc]
              congr 1
              conv => rhs; rw [spP, if_pos h13, if_neg ht]
              rw [h13]
              show spE _ :: List.map mkS (spP true (i + 1) (i + 1) t) = mkS (f, i) :: _
              rfl
        · by_cases h10 : b = 10
          · have hw2 : (if pv s.data.toList i then 2 else 1) ≤ i + 1 := by
              split
              · rename_i h; unfold pv at h; rw [Bool.and_eq_true, decide_eq_true_iff] at h; omega
              · omega
            obtain ⟨M', E', q1, q2, q3, q4, q5, g8, g, h1, h2, h3, h4⟩ := ih (m + 1) (i + 1) (M ++ [(⟨i, p17, p18, p19, p20⟩ : Gapi_Place)]) (E ++ [(⟨f, ((i + 1 - (if pv s.data.toList i then 2 else 1) : Nat) : Int), ((if pv s.data.toList i then 2 else 1 : Nat) : Int), f8⟩ : Gplace_ended)]) i (p17 + 1) (u22 ⟨i, 1, b.toNat⟩ p18) (p19 + 1) 0 ((M.length + 1 : Nat) : Int) (i + 1) hd2 hisz (by omega) (by simp; omega) (by simp; omega) (by omega) (by omega) hu3 (by omega) (by omega) (by omega) (by omega) (by omega)
            refine ⟨M', E', q1, q2, q3, q4, q5, g8, g, hst hq (by omega) ⟨by omega, by omega⟩ ⟨by omega, by omega⟩ ⟨by omega, by omega⟩ ⟨by omega, by omega⟩ hlt hs (by omega) ⟨by omega, by omega⟩ (.inr ⟨_, hw2, .inr ⟨by rw [h10]; rfl, rfl⟩, h1⟩), h2, h3, ?_⟩
            rw [h4, hpn, hd1, List.map_append, List.append_assoc]
            congr 1
            conv => rhs; rw [spP, if_neg h13, if_pos h10]
            show spE _ :: List.map mkS (spP (b == 13) (i + 1) (i + 1) t) = mkS (f, _) :: _
            rw [beq_eq_false_iff_ne.2 h13]
            congr 1
            unfold spE mkS
            congr 1
            cases pv s.data.toList i <;> rfl
          · obtain ⟨M', E', q1, q2, q3, q4, q5, g8, g, h1, h2, h3, h4⟩ := ih (m + 1) (i + 1) (M ++ [(⟨i, p17, p18, p19, p20⟩ : Gapi_Place)]) E i (p17 + 1) (u22 ⟨i, 1, b.toNat⟩ p18) p19 (p20 + 1) f8 f hd2 hisz (by omega) (by simp; omega) (by omega) (by omega) (by omega) hu3 (by omega) a5 (by omega) (by omega) (by omega)
            refine ⟨M', E', q1, q2, q3, q4, q5, g8, g, hst hq (by omega) ⟨by omega, by omega⟩ ⟨by omega, by omega⟩ ⟨by omega, by omega⟩ ⟨by omega, by omega⟩ hlt hs (by omega) ⟨by omega, by omega⟩ (.inl ⟨.inl ⟨fun e => h13 (UInt8.toNat.inj e), fun e => h10 (UInt8.toNat.inj e)⟩, h1⟩), h2, h3, ?_⟩
            rw [h4, hpn, hd1, beq_eq_false_iff_ne.2 h13]
            congr 2
            conv => rhs; rw [spP, if_neg h13, if_neg h10]
/-- The lines of a text's map are the text's lines. -/
theorem zpz (s : ByteArray) (hs : s.size ≤ 65536) : ∃ m : Gplace_Map, zen s = some (some m, 0) ∧ m.text = s ∧ m.lines.map spE = (zcE s.data.toList).map mkS := by
  obtain ⟨M', E', q1, q2, q3, q4, q5, g8, g, h1, h2, h3, h4⟩ := znf s (fun (m1 : List Gapi_Place) (m2 : List Gplace_ended) (p1 : Int) (p2 : Int) (p3 : Int) (p4 : Int) (p5 : Int) (line1 : Int) (line2 : Int) =>
    grd (m1.length + 1 ≤ 2147483648) <| grd (m2.length + 1 ≤ 2147483648) <| some ((some (⟨s, m1 ++ [(⟨(s.size : Int), p2, p3, p4, p5⟩ : Gapi_Place)], m2 ++ [(⟨line1, (s.size : Int), 0, line2⟩ : Gplace_ended)]⟩ : Gplace_Map)), 0)) hs zb0 0 0 [] [] 0 0 0 0 0 0 0
    (by rw [List.drop_zero, List.drop_zero]; rfl) (Nat.zero_le _) (by unfold zb0; omega) (Nat.le_refl _) (Nat.le_refl _) (by omega) (by omega) (by omega) (by omega) (by omega) (by omega) (by omega) (by omega)
  refine ⟨⟨s, M' ++ [(⟨(s.size : Int), q2, q3, q4, q5⟩ : Gapi_Place)], E' ++ [(⟨(g : Int), (s.size : Int), 0, g8⟩ : Gplace_ended)]⟩, ?_, rfl, ?_⟩
  · unfold zen
    refine zaT (decide_eq_false (by omega)) (zcC (h1.trans ?_))
    exact zcD (by omega) (zcD (by omega) rfl)
  · show List.map spE (E' ++ [_]) = _
    rw [List.map_append]
    exact h4
theorem zng (s : ByteArray) (hs : 65536 < s.size) : zen s = some (none, 3) := by
  unfold zen
  exact zaY (decide_eq_true (by omega)) rfl
end Go.Proofs.YtgfkogafkhbgnaaDoor
namespace Go.Proofs.YtgfkogafkhbgnaaDoor
open Go.RowKit Go.Lib
set_option linter.unusedVariables false
set_option linter.unusedSimpArgs false
def zbB (s1 : ByteArray) (prefix1 : ByteArray) : Option Bool := zaU (decide (((prefix1.size : Int) : Int) ≤ (s1.size : Int))) ( grd (0 ≤ (0 : Int) ∧ (0 : Int) ≤ (prefix1.size : Int) ∧ ((prefix1.size : Int) : Int) ≤ (s1.size : Int)) <| some (decide (zbn s1 0 (prefix1.size : Int) = prefix1))
) ( some false
)
theorem zdt {s1 : ByteArray} {prefix1 : ByteArray} {r : Bool} (h : zbB s1 prefix1 = some r) : FnP Tryd.prog 58 [.string s1, .string prefix1] (.bool r) := by
 unfold zbB at h
 refine FnP.intro Tryd.func58 rfl Tryd.ntmps58 (by simp) ?_
 intro w0 K
 refine zas (zai (zak rfl dc rfl (zap (zaj (zas (zai (zah rfl dc rfl (zbA rfl dc rfl Tryd.underlying9 (zah rfl dc rfl (zbA rfl dc rfl Tryd.underlying9 (zaz rfl dc rfl rfl zeC (zah rfl dc rfl ?_))))))))))))
 refine za6 (s := 10) rfl (fun hb1 => ?_) (fun hb1 => ?_)
 ·
  have h := za0 hb1 h
  refine zah rfl dc rfl (zah rfl dc rfl (zbA rfl dc rfl Tryd.underlying9 ?_))
  obtain ⟨hg1, h⟩ := zcb h
  refine zeD rfl dc rfl rfl rfl (zcv (i := 0) (j := (prefix1.size : Int)) Tryd.underlying9 (.inl ⟨rfl, rfl⟩) (.inr rfl) hg1) (zah rfl dc rfl (zaz rfl dc rfl rfl zgr (zaB (b := true) rfl dc rfl rfl (zak rfl dc rfl (zap (zaj (zaX ?_)))))))
  cases h
  exact za3 (rs := [.tmp 4]) () (.inl rfl) Tryd.results58 (.cons (.tmp rfl) .nil) rfl Splits.nil
 ·
  have h := za1 hb1 h
  refine zan rfl dc (zan rfl dc (zan rfl dc (zan rfl dc (zan rfl dc (zan rfl dc (zaB (b := false) rfl dc rfl rfl (zak rfl dc rfl (zap (zaj (zaX ?_))))))))))
  cases h
  exact za3 (rs := [.tmp 4]) () (.inl rfl) Tryd.results58 (.cons (.tmp rfl) .nil) rfl Splits.nil
def zdS (s1 : ByteArray) (prefix1 : ByteArray) : Option Bool := zaG (zbB s1 prefix1) fun (r1 : Bool) => some r1
theorem zgu {s1 : ByteArray} {prefix1 : ByteArray} {r : Bool} (h : zdS s1 prefix1 = some r) : FnP Tryd.prog 16 [.string s1, .string prefix1] (.bool r) := by
 unfold zdS at h
 refine FnP.intro Tryd.func16 rfl Tryd.ntmps16 (by simp) ?_
 intro w0 K
 refine zas (zai (zak rfl dc rfl (zap (zaj (zas (zai (zah rfl dc rfl (zah rfl dc rfl ?_))))))))
 obtain ⟨r1, hq1, h⟩ := zbN h
 refine zbH (v := .bool r1) (vs := [.string s1, .string prefix1]) rfl dc rfl rfl rfl zo0 (zdt hq1) (zak rfl dc rfl (zap (zaj (zaX ?_))))
 cases h
 exact za3 (rs := [.tmp 4]) () (.inl rfl) Tryd.results16 (.cons (.tmp rfl) .nil) rfl Splits.nil
def zb1 (s1 : ByteArray) (prefix1 : ByteArray) : Option ByteArray := zaG (zbB s1 prefix1) fun (r1 : Bool) => zaU (r1) ( grd (0 ≤ ((prefix1.size : Int) : Int) ∧ ((prefix1.size : Int) : Int) ≤ (s1.size : Int) ∧ ((s1.size : Int) : Int) ≤ (s1.size : Int)) <| some (zbn s1 (prefix1.size : Int) (s1.size : Int))
) ( some s1
)
theorem zeu {s1 : ByteArray} {prefix1 : ByteArray} {r : ByteArray} (h : zb1 s1 prefix1 = some r) : FnP Tryd.prog 76 [.string s1, .string prefix1] (.string r) := by
 unfold zb1 at h
 refine FnP.intro Tryd.func76 rfl Tryd.ntmps76 (by simp) ?_
 intro w0 K
 refine zas (zai (zak rfl dc rfl (zap (zaj (zas (zas (zai (zah rfl dc rfl (zah rfl dc rfl ?_)))))))))
 obtain ⟨r1, hq1, h⟩ := zbN h
 refine zbH (v := .bool r1) (vs := [.string s1, .string prefix1]) rfl dc rfl rfl rfl zo0 (zdt hq1) (zap (zaj ?_))
 refine zaM rfl (fun hb1 => ?_) (fun hb1 => ?_)
 ·
  have h := za0 hb1 h
  refine zas (zai (zah rfl dc rfl (zah rfl dc rfl (zbA rfl dc rfl Tryd.underlying9 ?_))))
  obtain ⟨hg1, h⟩ := zcb h
  refine zeD rfl dc rfl rfl rfl (zcv (i := (prefix1.size : Int)) (j := (s1.size : Int)) Tryd.underlying9 (.inr rfl) (.inl ⟨rfl, rfl⟩) hg1) (zak rfl dc rfl (zap (zaj (zaX (zay ?_)))))
  cases h
  exact za3 (rs := [.tmp 4]) () (.inl rfl) Tryd.results76 (.cons (.tmp rfl) .nil) rfl Splits.nil
 ·
  have h := za1 hb1 h
  refine zaP (zaj (zas (zai (zah rfl dc rfl (zak rfl dc rfl (zap (zaj (zaX ?_))))))))
  cases h
  exact za3 (rs := [.tmp 4]) () (.inl rfl) Tryd.results76 (.cons (.tmp rfl) .nil) rfl Splits.nil
def zcW (s1 : ByteArray) (prefix1 : ByteArray) : Option ByteArray := zaG (zb1 s1 prefix1) fun (r1 : ByteArray) => some r1
theorem zf8 {s1 : ByteArray} {prefix1 : ByteArray} {r : ByteArray} (h : zcW s1 prefix1 = some r) : FnP Tryd.prog 50 [.string s1, .string prefix1] (.string r) := by
 unfold zcW at h
 refine FnP.intro Tryd.func50 rfl Tryd.ntmps50 (by simp) ?_
 intro w0 K
 refine zas (zai (zak rfl dc rfl (zap (zaj (zas (zai (zah rfl dc rfl (zah rfl dc rfl ?_))))))))
 obtain ⟨r1, hq1, h⟩ := zbN h
 refine zbH (v := .string r1) (vs := [.string s1, .string prefix1]) rfl dc rfl rfl rfl zpF (zeu hq1) (zak rfl dc rfl (zap (zaj (zaX ?_))))
 cases h
 exact za3 (rs := [.tmp 4]) () (.inl rfl) Tryd.results50 (.cons (.tmp rfl) .nil) rfl Splits.nil
end Go.Proofs.YtgfkogafkhbgnaaDoor
namespace Go.Proofs.YtgfkogafkhbgnaaDoor
open Go.RowKit Go.Lib
set_option linter.unusedVariables false
set_option linter.unusedSimpArgs false
def zd8 (s1 : ByteArray) : Option Bool := grd (s1.size ≤ 9223372036854775807) <| some (decide (zk4 s1 = (⟨#[]⟩ : ByteArray)))
theorem zgV {s1 : ByteArray} {r : Bool} (h : zd8 s1 = some r) : FnP Tryd.prog 48 [.string s1] (.bool r) := by
 unfold zd8 at h
 refine FnP.intro Tryd.func48 rfl Tryd.ntmps48 (by simp) ?_
 intro w0 K
 refine zas (zai (zak rfl dc rfl (zap (zaj (zas (zai (zah rfl dc rfl ?_)))))))
 obtain ⟨hg1, h⟩ := zcb h
 refine zbH (v := .string (zk4 s1)) (vs := [.string s1, .string (⟨#[32, 9]⟩ : ByteArray)]) rfl dc rfl rfl rfl zpG (zoI s1 hg1) (zaz rfl dc rfl rfl zgr (zak rfl dc rfl (zap (zaj (zaX ?_)))))
 cases h
 exact za3 (rs := [.tmp 2]) () (.inl rfl) Tryd.results48 (.cons (.tmp rfl) .nil) rfl Splits.nil
def zee (s1 : ByteArray) : Option Bool := zaU (decide (s1 = (⟨#[35]⟩ : ByteArray))) ( some true
) ( zaG (zdS s1 (⟨#[35, 32]⟩ : ByteArray)) fun (r1 : Bool) => some r1
)
theorem zgA {s1 : ByteArray} {r : Bool} (h : zee s1 = some r) : FnP Tryd.prog 49 [.string s1] (.bool r) := by
 unfold zee at h
 refine FnP.intro Tryd.func49 rfl Tryd.ntmps49 (by simp) ?_
 intro w0 K
 refine zas (zai (zak rfl dc rfl (zap (zaj (zas (zai (zah rfl dc rfl (zaz rfl dc rfl rfl zgr (zah rfl dc rfl ?_)))))))))
 refine za6 (s := 5) rfl (fun hb1 => ?_) (fun hb1 => ?_)
 ·
  have h := za0 hb1 h
  refine zan rfl dc (zan rfl dc (zaB (b := true) rfl dc rfl rfl (zak rfl dc rfl (zap (zaj (zaX ?_))))))
  cases h
  exact za3 (rs := [.tmp 2]) () (.inl rfl) Tryd.results49 (.cons (.tmp rfl) .nil) rfl Splits.nil
 ·
  have h := za1 hb1 h
  refine zah rfl dc rfl ?_
  obtain ⟨r1, hq1, h⟩ := zbN h
  refine zbH (v := .bool r1) (vs := [.string s1, .string (⟨#[35, 32]⟩ : ByteArray)]) rfl dc rfl rfl rfl zpY (zgu hq1) (zaB (b := false) rfl dc rfl rfl (zak rfl dc rfl (zap (zaj (zaX ?_)))))
  cases h
  exact za3 (rs := [.tmp 2]) () (.inl rfl) Tryd.results49 (.cons (.tmp rfl) .nil) rfl Splits.nil
def zc2 (s1 : ByteArray) (j1 : Int → Option Int) (ag1 : Int → Nat → Option Int) (n4 : Int) (m3 : Nat) : Option Int := zaU (decide (m3 < (pcs s1.data.toList).length)) ( zaG ((pcs s1.data.toList)[m3]?) fun (p1 : Pc) => zaU (((p1.r : Int) : Int) != 32) ( j1 n4
) ( grd (I64 (n4 + 1)) <| ag1 (n4 + 1) (m3 + 1)
)
) ( j1 n4
)
def zdT (s1 : ByteArray) : Option Int := zbO (fun (j1 : Int → Option Int) => za8 (fun _ _ => none) (zc2 s1 j1) zb0 0 0
) (fun (n1 : Int) => some n1
)
theorem ziM {s1 : ByteArray} {r : Int} (h : zdT s1 = some r) : FnP Tryd.prog 51 [.string s1] (zI r) := by
 unfold zdT at h
 refine FnP.intro Tryd.func51 rfl Tryd.ntmps51 (by simp) ?_
 intro w0 K
 obtain ⟨j1, hj1, h⟩ := zcp h
 refine zbm (β := Int) 2 rfl (fun b => j1 b = some r) (fun b => []) (fun b => [(3, zI b)]) (fun b => []) (fun cut => ?_) ?_
 ·
  refine zas (zai (zak rfl dc rfl (zap (zaj (zas (zai (zak rfl dc rfl (zap (zaj (cut (zas (zai (zah rfl dc rfl ?_)))))))))))))
  refine zfr Tryd.underlying9 rfl dc rfl (fun b1 => ?_)
  refine zap (zaj (za2 ?_))
  refine zbJ (β := Nat × Int × Nat) (fun b => za8 (fun _ _ => none) (zc2 s1 j1) b.1 b.2.1 b.2.2 = some r) (fun b => []) (fun b => [(3, zI b.2.1), (7, zP b1)]) (fun b => [obj b1 (.stringIter s1 (zdF s1 b.2.2))]) (fun b => b.1) (zb0, 0, 0) h rfl (zad rfl (zad rfl (zaH))) (zal [0] kr rfl) ?_
  rintro ⟨n5, n4, m3⟩ h
  cases n5 with
  | zero => exact zdV h
  | succ n5 =>
   obtain ⟨ag1, hag1⟩ : ∃ ag, ag = za8 (fun _ _ => none) (zc2 s1 j1) n5 := ⟨_, rfl⟩
   have h : zc2 s1 j1 ag1 n4 m3 = some r := by rw [hag1]; exact h
   unfold zc2 at h
   show TC _ _ _ _ _ ([]) _ _ [(3, zI n4), (7, zP b1)] [obj b1 (.stringIter s1 (zdF s1 m3))]
   refine zas (zai ?_)
   refine zfO (b := decide (m3 < (pcs s1.data.toList).length)) (fun hb1 => ?_) (fun hb1 => ?_)
   ·
    have h := za0 hb1 h
    obtain ⟨p1, hq1, h⟩ := zbN h
    refine zfL (k := 0) (m := m3) (p := p1) rfl dc rfl rfl hq1 (zaS rfl dc rfl rfl (zap (zaj (zas (zbu rfl (zaP (zaj (za2 (zas (zai (zaS rfl dc rfl rfl (zak rfl dc rfl (zap ?_)))))))))))))
    refine zaj (zas (zas (zai (zah rfl dc rfl (zaz rfl dc rfl rfl zbE (zap (zaj ?_)))))))
    refine zaM rfl (fun hb2 => ?_) (fun hb2 => ?_)
    ·
     have h := za0 hb2 h
     refine zby (zaJ (zc9 dc (zaJ (zaV ?_))))
     exact zaO n4 h rfl (zad rfl (zaH)) Splits.nil
    ·
     have h := za1 hb2 h
     refine zaP (zaj (zai (zah rfl dc rfl ?_)))
     obtain ⟨hg1, h⟩ := zcb h
     refine zaz rfl dc rfl rfl (zbh (r := n4 + 1) (IntWalk.i64_in _ hg1)) (zak rfl dc rfl (zap (zaA ?_)))
     subst hag1
     exact zbj (n5, n4 + 1, m3 + 1) h (Nat.lt_succ_self _) rfl (zad rfl (zad rfl (zaH))) (zal [0] kr rfl)
   ·
    have h := za1 hb1 h
    refine zfM (k := 0) (m := m3) rfl dc rfl rfl (Nat.le_of_not_lt (of_decide_eq_false hb1)) (zaS rfl dc rfl rfl (zap (zaj (zas (zbp rfl (zby (zaJ (zaJ (zaV ?_)))))))))
    exact zaO n4 h rfl (zad rfl (zaH)) Splits.nil
 ·
  rintro n1 h
  rw [hj1] at h
  show TC _ _ _ _ _ ([]) _ _ [(3, zI n1)] []
  refine zas (zai (zah rfl dc rfl (zak rfl dc rfl (zap (zaj (zaX ?_))))))
  cases h
  exact za3 (rs := [.tmp 2]) () (.inl rfl) Tryd.results51 (.cons (.tmp rfl) .nil) rfl Splits.nil
def zc3 (text1 : ByteArray) (j1 : ByteArray → (List Gapi_Verse) → (List Gapi_Span) → Option ((Option Gpoem_Poem) × Gapi_Spot)) (p4 : Gplace_Map) (r2 : Int) (ag1 : ByteArray → (List Gapi_Verse) → (List Gapi_Span) → Bool → Bool → Int → Option ((Option Gpoem_Poem) × Gapi_Spot)) (p14 : ByteArray) (p15 : List Gapi_Verse) (p16 : List Gapi_Span) (first3 : Bool) (row3 : Bool) (x3 : Int) : Option ((Option Gpoem_Poem) × Gapi_Spot) := zaU (decide ((x3 : Int) < r2)) ( zbO (fun (j2 : ByteArray → (List Gapi_Verse) → (List Gapi_Span) → Bool → Bool → Option ((Option Gpoem_Poem) × Gapi_Spot)) => zbO (fun (j3 : Int → Int → ByteArray → Option ((Option Gpoem_Poem) × Gapi_Spot)) => zaG (zdZ p4 x3) fun (r3 : (Gapi_Span × Int × Int)) => grd (0 ≤ (r3.1.From : Int) ∧ (r3.1.From : Int) ≤ r3.1.To ∧ (r3.1.To : Int) ≤ (text1.size : Int)) <| zaG (zd8 (zbn text1 r3.1.From r3.1.To)) fun (r4 : Bool) => zaU (r4) ( j2 p14 p15 p16 first3 false
) ( zaU (decide ((1024 : Int) < ((zbn text1 r3.1.From r3.1.To).size : Int))) ( grd (I64 (r3.1.From + 1024)) <| some (none, (⟨3, r3.1.From + 1024⟩ : Gapi_Spot))
) ( zaU (first3) ( zaG (zee (zbn text1 r3.1.From r3.1.To)) fun (r5 : Bool) => zaU (r5) ( grd (0 ≤ (1 : Int) ∧ (1 : Int) ≤ ((zbn text1 r3.1.From r3.1.To).size : Int) ∧ (((zbn text1 r3.1.From r3.1.To).size : Int) : Int) ≤ ((zbn text1 r3.1.From r3.1.To).size : Int)) <| zaG (zcW (zbn (zbn text1 r3.1.From r3.1.To) 1 ((zbn text1 r3.1.From r3.1.To).size : Int)) (⟨#[32]⟩ : ByteArray)) fun (r6 : ByteArray) => j2 r6 p15 p16 false row3
) ( zaU (((p15.length : Int) : Int) == 512) ( some (none, (⟨3, r3.1.From⟩ : Gapi_Spot))
) ( j3 r3.1.From r3.1.To (zbn text1 r3.1.From r3.1.To)
)
)
) ( zaU (((p15.length : Int) : Int) == 512) ( some (none, (⟨3, r3.1.From⟩ : Gapi_Spot))
) ( j3 r3.1.From r3.1.To (zbn text1 r3.1.From r3.1.To)
)
)
)
)
) (fun (span1 : Int) (span2 : Int) (line1 : ByteArray) => zbO (fun (j4 : (List Gapi_Span) → Option ((Option Gpoem_Poem) × Gapi_Spot)) => zaU (!row3) ( grd (p16.length + 1 ≤ 2147483648) <| j4 (p16 ++ [(⟨(p15.length : Int), (p15.length : Int)⟩ : Gapi_Span)])
) ( j4 p16
)
) (fun (p20 : List Gapi_Span) => grd (I64 ((p20.length : Int) - 1)) <| zaG (zdh p20 ((p20.length : Int) - 1)) fun (q1 : Gapi_Span) => zaG (zdT line1) fun (r7 : Int) => grd (0 ≤ (r7 : Int) ∧ (r7 : Int) ≤ (line1.size : Int) ∧ ((line1.size : Int) : Int) ≤ (line1.size : Int)) <| grd (I64 ((p20.length : Int) - 1)) <| grd (I64 ((p15.length : Int) - q1.From)) <| grd (I64 (span1 + r7)) <| grd (p15.length + 1 ≤ 2147483648) <| grd (I64 ((p15.length : Int) + 1)) <| j2 p14 (p15 ++ [(⟨zbn line1 r7 (line1.size : Int), r7, (p20.length : Int) - 1, (p15.length : Int) - q1.From, span1 + r7, span2⟩ : Gapi_Verse)]) (p20.set ((p20.length : Int) - 1 : Int).toNat (⟨q1.From, (p15.length : Int) + 1⟩ : Gapi_Span)) false true
)
)
) (fun (p17 : ByteArray) (p18 : List Gapi_Verse) (p19 : List Gapi_Span) (first4 : Bool) (row4 : Bool) => grd (I64 (x3 + 1)) <| ag1 p17 p18 p19 first4 row4 (x3 + 1)
)
) ( j1 p14 p15 p16
)
def zcU (text1 : ByteArray) : Option ((Option Gpoem_Poem) × Gapi_Spot) := zaG (zen text1) fun (r1 : ((Option Gplace_Map) × Int)) => zaU ((r1.2 : Int) != 0) ( some (none, (⟨r1.2, 65536⟩ : Gapi_Spot))
) ( zbO (fun (j1 : ByteArray → (List Gapi_Verse) → (List Gapi_Span) → Option ((Option Gpoem_Poem) × Gapi_Spot)) => zaG (r1.1) fun (p4 : Gplace_Map) => zaG (zeK p4) fun (r2 : Int) => za8 (fun _ _ _ _ _ _ => none) (zc3 text1 j1 p4 r2) zb0 ByteArray.empty ([] : List Gapi_Verse) ([] : List Gapi_Span) true false 0
) (fun (p1 : ByteArray) (p2 : List Gapi_Verse) (p3 : List Gapi_Span) => some ((some (⟨p1, p2, p3, text1⟩ : Gpoem_Poem)), (⟨0, 0⟩ : Gapi_Spot))
)
)
theorem zfv {text1 : ByteArray} {r : ((Option Gpoem_Poem) × Gapi_Spot)} (h : zcU text1 = some r) : Fn Tryd.prog 13 [.string text1] [] (fun v0 : Value => .tuple #[v0, .agg #[zI r.2.Err, zI r.2.At]]) (fun v0 => [zco zau zat 93 v0 r.1]) := by
 unfold zcU at h
 refine Fn.intro Tryd.func13 rfl Tryd.ntmps13 (by simp) ?_
 intro w0 K
 refine zas (zai (zak rfl dc rfl ?_))
 refine zbl ziG rfl dc (fun b1 => ?_)
 refine zap (zaj ?_)
 refine zgs (β := Unit) (l := 0) (fun _ => False) (fun _ => []) (fun _ => []) rfl ?_ ?_
 ·
  refine zas (zai (zah rfl dc rfl ?_))
  obtain ⟨r1, hq1, h⟩ := zbN h
  refine zed (vs := [.string text1]) rfl dc rfl rfl rfl zpR (zj5 hq1) Splits.nil ?_
  rintro v1
  show TO _ _ _ _ _ _ _ _ _ _ [cells b1 [zI 0, zI 0] 26, zco zcz zcy 128 v1 r1.1]
  refine zbw (L' := [cells b1 [zI 0, zI 0] 26, zco zcz zcy 128 v1 r1.1]) (zal [0, 1] kr rfl) (zah rfl dc rfl (zaS rfl dc rfl rfl (zaS rfl dc rfl rfl (zak rfl dc rfl (zak rfl dc rfl (zap (zaj (zas (zas (zai (zah rfl dc rfl (zaz rfl dc rfl rfl zbE (zap ?_)))))))))))))
  refine zaj ?_
  refine zaM rfl (fun hb1 => ?_) (fun hb1 => ?_)
  ·
   have h := za0 hb1 h
   refine zas (zai (zah rfl dc rfl ?_))
   refine zbe (v := .agg #[zI r1.2, zI 65536]) (ps := [(0, .tmp 24), (1, .const (zI 65536))]) rfl dc rfl (fun _ => by kernel_rfl) ?_
   refine zak rfl dc rfl (zaZ (k := 0) (vs := [zI r1.2, zI 65536]) (l' := [zI r1.2, zI 65536]) zf7 rfl rfl rfl rfl rfl (show _ ≤ _ by simp) rfl rfl (zap (zaj (zaX (zay (zcR (by simp) (zdu zau zat 93 ?_)))))))
   show TX _ _ _ _ _ _ _ [cells b1 [zI r1.2, zI 65536] 26, zco zcz zcy 128 v1 r1.1, zco zau zat 93 (.pointer none) none]
   cases h
   exact za3 (rs := [.tmp 2, .cell 3 26]) (.pointer none) (.inl rfl) Tryd.results13 (.cons (.tmp rfl) (.cons (.cells zhA (k := 0) rfl rfl rfl) .nil)) rfl (zal [2] kr rfl)
  ·
   have h := za1 hb1 h
   refine zaP (zaj ?_)
   obtain ⟨j1, hj1, h⟩ := zcp h
   refine zbm (β := ByteArray × (List Gapi_Verse) × (List Gapi_Span) × Nat × Hd × Hd) 3 rfl (fun b => j1 b.1 b.2.1 b.2.2.1 = some r) (fun b => []) (fun b => [(3, zP b1), (6, zP b.2.2.2.1)]) (fun b => [cells b1 [zI 0, zI 0] 26, cells b.2.2.2.1 [.string b.1, b.2.2.2.2.1.v, b.2.2.2.2.2.v, .string text1] 93, vec zam 36 6 b.2.2.2.2.1.v b.2.1, vec zav 34 2 b.2.2.2.2.2.v b.2.2.1]) (fun cut => ?_) ?_
   ·
    refine zas (zai (zah rfl dc rfl ?_))
    refine zbe (v := .agg #[.string ByteArray.empty, .slice none 0 0, .slice none 0 0, .string text1]) (ps := [(1, .tmp 26)]) rfl dc rfl (fun _ => by kernel_rfl) ?_
    refine zeE rfl dc rfl (fun b3 => ?_)
    refine zak rfl dc rfl (zap (zaj (zas (zai (zak rfl dc rfl (zak rfl dc rfl (zap (zaj (zas (zlr (zaj (cut (zas ?_)))))))))))))
    refine zai (zah rfl dc rfl ?_)
    obtain ⟨p4, hq2, h⟩ := zbN h
    refine ziy (As := [zco zcz zcy 128 v1 r1.1]) (zal [1] kr rfl) (zeV hq2) ?_
    rintro ⟨b4, hd3, hd4⟩ hv1
    subst hv1
    show TO _ _ _ _ _ _ _ _ _ _ [cells b1 [zI 0, zI 0] 26, emp, cells b3 [.string ByteArray.empty, .slice none 0 0, .slice none 0 0, .string text1] 93, cells b4 [.string p4.text, hd3.v, hd4.v] 128, vec zaK 130 5 hd3.v p4.places, vec zaF 132 4 hd4.v p4.lines]
    obtain ⟨r2, hq3, h⟩ := zbN h
    refine za4 (v := zI r2) (vs := [zP b4]) (Rd.nil : Rd _ _ []) rfl dc rfl rfl rfl zpQ (zgW (bm1 := b4) (m1 := p4) (m1_h0 := hd3) (m1_h1 := hd4) hq3) (.own (zal [3] (by kernel_rfl) rfl) (fun _ _ h => sepL.one1.1 h) (.own (zal [4] (by kernel_rfl) rfl) (fun _ _ h => sepL.one1.1 h) (.own (zal [5] (by kernel_rfl) rfl) (fun _ _ h => sepL.one1.1 h) .nil))) ?_
    refine zah rfl dc rfl (zap (zaj (za2 (zel (enc := zam) (e := 36) (size := 6) ?_))))
    show TC _ _ _ _ _ _ _ _ _ [cells b1 [zI 0, zI 0] 26, emp, cells b3 [.string ByteArray.empty, .slice none 0 0, .slice none 0 0, .string text1] 93, cells b4 [.string p4.text, hd3.v, hd4.v] 128, vec zaK 130 5 hd3.v p4.places, vec zaF 132 4 hd4.v p4.lines, vec zam 36 6 (.slice none 0 0) ([] : List Gapi_Verse)]
    refine zel (enc := zav) (e := 34) (size := 2) ?_
    show TC _ _ _ _ _ _ _ _ _ [cells b1 [zI 0, zI 0] 26, emp, cells b3 [.string ByteArray.empty, (.slice none 0 0), .slice none 0 0, .string text1] 93, cells b4 [.string p4.text, hd3.v, hd4.v] 128, vec zaK 130 5 hd3.v p4.places, vec zaF 132 4 hd4.v p4.lines, vec zam 36 6 (.slice none 0 0) ([] : List Gapi_Verse), vec zav 34 2 (.slice none 0 0) ([] : List Gapi_Span)]
    refine zbJ (β := Nat × ByteArray × (List Gapi_Verse) × (List Gapi_Span) × Bool × Bool × Int × Hd × Hd) (fun b => za8 (fun _ _ _ _ _ _ => none) (zc3 text1 j1 p4 r2) b.1 b.2.1 b.2.2.1 b.2.2.2.1 b.2.2.2.2.1 b.2.2.2.2.2.1 b.2.2.2.2.2.2.1 = some r) (fun b => []) (fun b => [(0, .string text1), (3, zP b1), (4, zP b4), (6, zP b3), (7, .bool b.2.2.2.2.1), (8, .bool b.2.2.2.2.2.1), (30, zI r2), (31, zI b.2.2.2.2.2.2.1)]) (fun b => [cells b1 [zI 0, zI 0] 26, cells b4 [.string p4.text, hd3.v, hd4.v] 128, vec zaK 130 5 hd3.v p4.places, vec zaF 132 4 hd4.v p4.lines, cells b3 [.string b.2.1, b.2.2.2.2.2.2.2.1.v, b.2.2.2.2.2.2.2.2.v, .string text1] 93, vec zam 36 6 b.2.2.2.2.2.2.2.1.v b.2.2.1, vec zav 34 2 b.2.2.2.2.2.2.2.2.v b.2.2.2.1]) (fun b => b.1) (zb0, ByteArray.empty, ([] : List Gapi_Verse), ([] : List Gapi_Span), true, false, 0, Hd.nil, Hd.nil) h rfl (zad rfl (zad rfl (zad rfl (zad rfl (zad rfl (zad rfl (zad rfl (zad rfl (zaH))))))))) (zal [0, 3, 4, 5, 2, 6, 7] kr rfl) ?_
    rintro ⟨n1, p14, p15, p16, first3, row3, x3, hd10, hd11⟩ h
    cases n1 with
    | zero => exact zdV h
    | succ n1 =>
     obtain ⟨ag1, hag1⟩ : ∃ ag, ag = za8 (fun _ _ _ _ _ _ => none) (zc3 text1 j1 p4 r2) n1 := ⟨_, rfl⟩
     have h : zc3 text1 j1 p4 r2 ag1 p14 p15 p16 first3 row3 x3 = some r := by rw [hag1]; exact h
     unfold zc3 at h
     show TC _ _ _ _ _ ([]) _ _ [(0, .string text1), (3, zP b1), (4, zP b4), (6, zP b3), (7, .bool first3), (8, .bool row3), (30, zI r2), (31, zI x3)] [cells b1 [zI 0, zI 0] 26, cells b4 [.string p4.text, hd3.v, hd4.v] 128, vec zaK 130 5 hd3.v p4.places, vec zaF 132 4 hd4.v p4.lines, cells b3 [.string p14, hd10.v, hd11.v, .string text1] 93, vec zam 36 6 hd10.v p15, vec zav 34 2 hd11.v p16]
     refine zas (zai (zaz rfl dc rfl rfl zbF (zap (zaj (zas ?_)))))
     refine zaM rfl (fun hb2 => ?_) (fun hb2 => ?_)
     ·
      have h := za0 hb2 h
      refine zaP (zaj ?_)
      obtain ⟨j2, hj2, h⟩ := zcp h
      refine zbm (β := ByteArray × (List Gapi_Verse) × (List Gapi_Span) × Bool × Bool × Hd × Hd) 0 rfl (fun b => j2 b.1 b.2.1 b.2.2.1 b.2.2.2.1 b.2.2.2.2.1 = some r) (fun b => []) (fun b => [(0, .string text1), (3, zP b1), (4, zP b4), (6, zP b3), (7, .bool b.2.2.2.1), (8, .bool b.2.2.2.2.1), (30, zI r2), (31, zI x3)]) (fun b => [cells b1 [zI 0, zI 0] 26, cells b4 [.string p4.text, hd3.v, hd4.v] 128, vec zaK 130 5 hd3.v p4.places, vec zaF 132 4 hd4.v p4.lines, cells b3 [.string b.1, b.2.2.2.2.2.1.v, b.2.2.2.2.2.2.v, .string text1] 93, vec zam 36 6 b.2.2.2.2.2.1.v b.2.1, vec zav 34 2 b.2.2.2.2.2.2.v b.2.2.1]) (fun cut => ?_) ?_
      ·
       refine cut (za2 ?_)
       obtain ⟨j3, hj3, h⟩ := zcp h
       refine zbm (β := Int × Int × ByteArray × Nat) 3 rfl (fun b => j3 b.1 b.2.1 b.2.2.1 = some r) (fun b => []) (fun b => [(0, .string text1), (3, zP b1), (4, zP b4), (6, zP b3), (8, .bool row3), (10, zP b.2.2.2), (13, .string b.2.2.1), (30, zI r2), (31, zI x3)]) (fun b => [cells b1 [zI 0, zI 0] 26, cells b4 [.string p4.text, hd3.v, hd4.v] 128, vec zaK 130 5 hd3.v p4.places, vec zaF 132 4 hd4.v p4.lines, cells b3 [.string p14, hd10.v, hd11.v, .string text1] 93, vec zam 36 6 hd10.v p15, vec zav 34 2 hd11.v p16, cells b.2.2.2 [zI b.1, zI b.2.1] 34]) (fun cut => ?_) ?_
       ·
        refine zas (zai (zah rfl dc rfl (zak rfl dc rfl (zap (zaj (zas (zai (zah rfl dc rfl (zah rfl dc rfl ?_)))))))))
        obtain ⟨r3, hq4, h⟩ := zbN h
        refine za4 (v := .tuple #[.agg #[zI r3.1.From, zI r3.1.To], zI r3.2.1, zI r3.2.2]) (vs := [zP b4, zI x3]) (Rd.nil : Rd _ _ []) rfl dc rfl rfl rfl zpP (zhi (bm1 := b4) (m1 := p4) (m1_h0 := hd3) (m1_h1 := hd4) hq4) (.own (zal [1] (by kernel_rfl) rfl) (fun _ _ h => sepL.one1.1 h) (.own (zal [2] (by kernel_rfl) rfl) (fun _ _ h => sepL.one1.1 h) (.own (zal [3] (by kernel_rfl) rfl) (fun _ _ h => sepL.one1.1 h) .nil))) ?_
        refine zah rfl dc rfl (zaS rfl dc rfl rfl (zaS rfl dc rfl rfl (zaS rfl dc rfl rfl ?_)))
        refine zbl zky rfl dc (fun b6 => ?_)
        refine zaZ (k := 7) (vs := [zI r3.1.From, zI r3.1.To]) (l' := [zI r3.1.From, zI r3.1.To]) zgt rfl rfl rfl rfl rfl (show _ ≤ _ by simp) rfl rfl ?_
        show TO _ _ _ _ _ _ _ _ _ _ [cells b1 [zI 0, zI 0] 26, cells b4 [.string p4.text, hd3.v, hd4.v] 128, vec zaK 130 5 hd3.v p4.places, vec zaF 132 4 hd4.v p4.lines, cells b3 [.string p14, hd10.v, hd11.v, .string text1] 93, vec zam 36 6 hd10.v p15, vec zav 34 2 hd11.v p16, cells b6 [zI r3.1.From, zI r3.1.To] 34]
        refine zak rfl dc rfl (zak rfl dc rfl (zap (zaj (zas (zai (zah rfl dc rfl (zar ze3 rfl dc rfl (show _ = 0 from rfl) (zaN (k := 7) zfb rfl dc rfl rfl rfl (zar zfC rfl dc rfl (show _ = 1 from rfl) (zaN (k := 7) zfb rfl dc rfl rfl rfl ?_))))))))))
        obtain ⟨hg1, h⟩ := zcb h
        refine zeD rfl dc rfl rfl rfl (zcv (i := r3.1.From) (j := r3.1.To) Tryd.underlying9 (.inr rfl) (.inr rfl) hg1) (zak rfl dc rfl (zap (zaj (cut (za2 (zas (zai (zah rfl dc rfl ?_))))))))
        obtain ⟨r4, hq5, h⟩ := zbN h
        refine zbH (v := .bool r4) (vs := [.string (zbn text1 r3.1.From r3.1.To)]) rfl dc rfl rfl rfl zo3 (zgV hq5) (zak rfl dc rfl (zap (zaj ?_)))
        refine zaM rfl (fun hb3 => ?_) (fun hb3 => ?_)
        ·
         have h := za0 hb3 h
         refine zas (zai (zak rfl dc rfl (zap (zaj (zby (zc9 dc (zaJ (zaV ?_))))))))
         exact zaO (p14, p15, p16, first3, false, hd10, hd11) h rfl (zad rfl (zad rfl (zad rfl (zad rfl (zad rfl (zad rfl (zad rfl (zad rfl (zaH))))))))) (zal [0, 1, 2, 3, 4, 5, 6] kr rfl)
        ·
         have h := za1 hb3 h
         refine zas (zai (zah rfl dc rfl (zbA rfl dc rfl Tryd.underlying9 (zaz rfl dc rfl rfl zdC (zak rfl dc rfl (zap (zaj ?_)))))))
         refine zaM rfl (fun hb4 => ?_) (fun hb4 => ?_)
         ·
          have h := za0 hb4 h
          refine zas ?_
          obtain ⟨hg2, h⟩ := zcb h
          refine zbR 5 [(0, 54, zP b6), (1, 55, zI r3.1.From), (2, 56, zI (r3.1.From + 1024)), (3, 57, .agg #[zI 3, zI (r3.1.From + 1024)]), (4, 2, .pointer none)] mixed kr kr dc (by rfl) kr kr (zac ?_ (zac ?_ (zac ?_ (zac ?_ (zac ?_ DrawPre.nil))))) ?_
          ·
           intro D hn hd hcl hu hi
           refine zar ze3 rfl dc (zaE (by rfl) rfl) (show _ = 0 from rfl) ?_
           exact zaf 0 hu hi rfl
          ·
           intro D hn hd hcl hu hi
           refine zaN (k := 7) zfb rfl dc (zab (m := 0) hu rfl (hd 0 dc)) rfl rfl ?_
           exact zaf 1 hu hi rfl
          ·
           intro D hn hd hcl hu hi
           refine zaz rfl dc (zab (m := 1) hu rfl (hd 1 dc)) rfl (zbh (r := r3.1.From + 1024) (IntWalk.i64_in _ hg2)) ?_
           exact zaf 2 hu hi rfl
          ·
           intro D hn hd hcl hu hi
           refine zbe (v := .agg #[zI 3, zI (r3.1.From + 1024)]) (ps := [(0, .const (zI 3)), (1, .tmp 56)]) rfl dc (evP.cons rfl (evP.cons (zab (m := 2) hu rfl (hd 2 dc)) evP.nil)) (fun _ => by kernel_rfl) ?_
           exact zaf 3 hu hi rfl
          ·
           intro D hn hd hcl hu hi
           refine zak rfl dc rfl ?_
           exact zaf 4 hu hi rfl
          refine zaZ (k := 0) (vs := [zI 3, zI (r3.1.From + 1024)]) (l' := [zI 3, zI (r3.1.From + 1024)]) zf7 rfl rfl rfl rfl rfl (show _ ≤ _ by simp) rfl rfl (zap (zaj (zaX (zaI (zay (zaI (zay (zay (zaI (zay (zcR (by simp) (zdu zau zat 93 ?_))))))))))))
          show TX _ _ _ _ _ _ _ [cells b1 [zI 3, zI (r3.1.From + 1024)] 26, cells b4 [.string p4.text, hd3.v, hd4.v] 128, vec zaK 130 5 hd3.v p4.places, vec zaF 132 4 hd4.v p4.lines, cells b3 [.string p14, hd10.v, hd11.v, .string text1] 93, vec zam 36 6 hd10.v p15, vec zav 34 2 hd11.v p16, cells b6 [zI r3.1.From, zI r3.1.To] 34, zco zau zat 93 (.pointer none) none]
          cases h
          exact za3 (rs := [.tmp 2, .cell 3 26]) (.pointer none) (.inl rfl) Tryd.results13 (.cons (.tmp rfl) (.cons (.cells zhA (k := 0) rfl rfl rfl) .nil)) rfl (zal [8] kr rfl)
         ·
          have h := za1 hb4 h
          refine zas (zai (zah rfl dc rfl (zah rfl dc rfl ?_)))
          refine za6 (s := 60) rfl (fun hb5 => ?_) (fun hb5 => ?_)
          ·
           have h := za0 hb5 h
           refine zah rfl dc rfl ?_
           obtain ⟨r5, hq6, h⟩ := zbN h
           refine zbH (v := .bool r5) (vs := [.string (zbn text1 r3.1.From r3.1.To)]) rfl dc rfl rfl rfl zo2 (zgA hq6) (zaB (b := true) rfl dc rfl rfl (zak rfl dc rfl (zap (zaj ?_))))
           refine zaM rfl (fun hb6 => ?_) (fun hb6 => ?_)
           ·
            have h := za0 hb6 h
            refine zas (zai (zak rfl dc rfl (zap (zaj (zas (zai (zah rfl dc rfl (zah rfl dc rfl ?_))))))))
            obtain ⟨hg3, h⟩ := zcb h
            refine zeD rfl dc rfl rfl rfl (zcv (i := 1) (j := ((zbn text1 r3.1.From r3.1.To).size : Int)) Tryd.underlying9 (.inr rfl) (.inl ⟨rfl, rfl⟩) hg3) ?_
            obtain ⟨r6, hq7, h⟩ := zbN h
            refine zbH (v := .string r6) (vs := [.string (zbn (zbn text1 r3.1.From r3.1.To) 1 ((zbn text1 r3.1.From r3.1.To).size : Int)), .string (⟨#[32]⟩ : ByteArray)]) rfl dc rfl rfl rfl zpO (zf8 hq7) (zaW rfl dc rfl (zar zbS rfl dc rfl (show _ = 0 from rfl) (zar zfn rfl dc rfl (show _ = 0 from rfl) ?_)))
            refine zbo (k := 4) (l' := [.string r6, hd10.v, hd11.v, .string text1]) zlY rfl rfl rfl rfl rfl (fun _ _ => rfl) rfl ?_
            refine zap (zaj (zby (zc9 dc (zaJ (zaV ?_)))))
            exact zaO (r6, p15, p16, false, row3, hd10, hd11) h rfl (zad rfl (zad rfl (zad rfl (zad rfl (zad rfl (zad rfl (zad rfl (zad rfl (zaH))))))))) (zal [0, 1, 2, 3, 4, 5, 6] kr rfl)
           ·
            have h := za1 hb6 h
            refine zas (zai (zah rfl dc rfl (zaW rfl dc rfl (zar zbS rfl dc rfl (show _ = 0 from rfl) (zar zdB rfl dc rfl (show _ = 1 from rfl) (zaN (k := 4) zew rfl dc rfl rfl rfl (zdf (k := 5) rfl dc rfl rfl Tryd.underlying57 (zaz rfl dc rfl rfl zb6 (zak rfl dc rfl (zap (zaj ?_)))))))))))
            refine zaM rfl (fun hb7 => ?_) (fun hb7 => ?_)
            ·
             have h := za0 hb7 h
             refine zas ?_
             refine zbR 4 [(0, 79, zP b6), (1, 80, zI r3.1.From), (2, 81, .agg #[zI 3, zI r3.1.From]), (3, 2, .pointer none)] mixed kr kr dc (by rfl) kr kr (zac ?_ (zac ?_ (zac ?_ (zac ?_ DrawPre.nil)))) ?_
             ·
              intro D hn hd hcl hu hi
              refine zar ze3 rfl dc (zaE (by rfl) rfl) (show _ = 0 from rfl) ?_
              exact zaf 0 hu hi rfl
             ·
              intro D hn hd hcl hu hi
              refine zaN (k := 7) zfb rfl dc (zab (m := 0) hu rfl (hd 0 dc)) rfl rfl ?_
              exact zaf 1 hu hi rfl
             ·
              intro D hn hd hcl hu hi
              refine zbe (v := .agg #[zI 3, zI r3.1.From]) (ps := [(0, .const (zI 3)), (1, .tmp 80)]) rfl dc (evP.cons rfl (evP.cons (zab (m := 1) hu rfl (hd 1 dc)) evP.nil)) (fun _ => by kernel_rfl) ?_
              exact zaf 2 hu hi rfl
             ·
              intro D hn hd hcl hu hi
              refine zak rfl dc rfl ?_
              exact zaf 3 hu hi rfl
             refine zaZ (k := 0) (vs := [zI 3, zI r3.1.From]) (l' := [zI 3, zI r3.1.From]) zf7 rfl rfl rfl rfl rfl (show _ ≤ _ by simp) rfl rfl (zap (zaj (zaX (zaI (zay (zaI (zay (zay (zaI (zay (zcR (by simp) (zdu zau zat 93 ?_))))))))))))
             show TX _ _ _ _ _ _ _ [cells b1 [zI 3, zI r3.1.From] 26, cells b4 [.string p4.text, hd3.v, hd4.v] 128, vec zaK 130 5 hd3.v p4.places, vec zaF 132 4 hd4.v p4.lines, cells b3 [.string p14, hd10.v, hd11.v, .string text1] 93, vec zam 36 6 hd10.v p15, vec zav 34 2 hd11.v p16, cells b6 [zI r3.1.From, zI r3.1.To] 34, zco zau zat 93 (.pointer none) none]
             cases h
             exact za3 (rs := [.tmp 2, .cell 3 26]) (.pointer none) (.inl rfl) Tryd.results13 (.cons (.tmp rfl) (.cons (.cells zhA (k := 0) rfl rfl rfl) .nil)) rfl (zal [8] kr rfl)
            ·
             have h := za1 hb7 h
             refine zaP (zaA ?_)
             exact zaO (r3.1.From, r3.1.To, zbn text1 r3.1.From r3.1.To, b6) h rfl (zad rfl (zad rfl (zad rfl (zad rfl (zad rfl (zad rfl (zad rfl (zad rfl (zad rfl (zaH)))))))))) (zal [0, 1, 2, 3, 4, 5, 6, 7] kr rfl)
          ·
           have h := za1 hb5 h
           refine zan rfl dc (zan rfl dc (zaB (b := false) rfl dc rfl rfl (zak rfl dc rfl (zap (zaj (zbp rfl (zas (zai (zah rfl dc rfl (zaW rfl dc rfl (zar zbS rfl dc rfl (show _ = 0 from rfl) (zar zdB rfl dc rfl (show _ = 1 from rfl) (zaN (k := 4) zew rfl dc rfl rfl rfl ?_)))))))))))))
           refine zdf (k := 5) rfl dc rfl rfl Tryd.underlying57 (zaz rfl dc rfl rfl zb6 (zak rfl dc rfl (zap (zaj ?_))))
           refine zaM rfl (fun hb8 => ?_) (fun hb8 => ?_)
           ·
            have h := za0 hb8 h
            refine zas ?_
            refine zbR 4 [(0, 79, zP b6), (1, 80, zI r3.1.From), (2, 81, .agg #[zI 3, zI r3.1.From]), (3, 2, .pointer none)] mixed kr kr dc (by rfl) kr kr (zac ?_ (zac ?_ (zac ?_ (zac ?_ DrawPre.nil)))) ?_
            ·
             intro D hn hd hcl hu hi
             refine zar ze3 rfl dc (zaE (by rfl) rfl) (show _ = 0 from rfl) ?_
             exact zaf 0 hu hi rfl
            ·
             intro D hn hd hcl hu hi
             refine zaN (k := 7) zfb rfl dc (zab (m := 0) hu rfl (hd 0 dc)) rfl rfl ?_
             exact zaf 1 hu hi rfl
            ·
             intro D hn hd hcl hu hi
             refine zbe (v := .agg #[zI 3, zI r3.1.From]) (ps := [(0, .const (zI 3)), (1, .tmp 80)]) rfl dc (evP.cons rfl (evP.cons (zab (m := 1) hu rfl (hd 1 dc)) evP.nil)) (fun _ => by kernel_rfl) ?_
             exact zaf 2 hu hi rfl
            ·
             intro D hn hd hcl hu hi
             refine zak rfl dc rfl ?_
             exact zaf 3 hu hi rfl
            refine zaZ (k := 0) (vs := [zI 3, zI r3.1.From]) (l' := [zI 3, zI r3.1.From]) zf7 rfl rfl rfl rfl rfl (show _ ≤ _ by simp) rfl rfl (zap (zaj (zaX (zaI (zay (zaI (zay (zay (zaI (zay (zcR (by simp) (zdu zau zat 93 ?_))))))))))))
            show TX _ _ _ _ _ _ _ [cells b1 [zI 3, zI r3.1.From] 26, cells b4 [.string p4.text, hd3.v, hd4.v] 128, vec zaK 130 5 hd3.v p4.places, vec zaF 132 4 hd4.v p4.lines, cells b3 [.string p14, hd10.v, hd11.v, .string text1] 93, vec zam 36 6 hd10.v p15, vec zav 34 2 hd11.v p16, cells b6 [zI r3.1.From, zI r3.1.To] 34, zco zau zat 93 (.pointer none) none]
            cases h
            exact za3 (rs := [.tmp 2, .cell 3 26]) (.pointer none) (.inl rfl) Tryd.results13 (.cons (.tmp rfl) (.cons (.cells zhA (k := 0) rfl rfl rfl) .nil)) rfl (zal [8] kr rfl)
           ·
            have h := za1 hb8 h
            refine zaP (zaA ?_)
            exact zaO (r3.1.From, r3.1.To, zbn text1 r3.1.From r3.1.To, b6) h rfl (zad rfl (zad rfl (zad rfl (zad rfl (zad rfl (zad rfl (zad rfl (zad rfl (zad rfl (zaH)))))))))) (zal [0, 1, 2, 3, 4, 5, 6, 7] kr rfl)
       ·
        rintro ⟨span1, span2, line1, b5⟩ h
        rw [hj3] at h
        show TC _ _ _ _ _ ([]) _ _ [(0, .string text1), (3, zP b1), (4, zP b4), (6, zP b3), (8, .bool row3), (10, zP b5), (13, .string line1), (30, zI r2), (31, zI x3)] [cells b1 [zI 0, zI 0] 26, cells b4 [.string p4.text, hd3.v, hd4.v] 128, vec zaK 130 5 hd3.v p4.places, vec zaF 132 4 hd4.v p4.lines, cells b3 [.string p14, hd10.v, hd11.v, .string text1] 93, vec zam 36 6 hd10.v p15, vec zav 34 2 hd11.v p16, cells b5 [zI span1, zI span2] 34]
        obtain ⟨j4, hj4, h⟩ := zcp h
        refine zbm (β := (List Gapi_Span) × Hd) 2 rfl (fun b => j4 b.1 = some r) (fun b => []) (fun b => [(0, .string text1), (3, zP b1), (4, zP b4), (6, zP b3), (7, .bool false), (10, zP b5), (13, .string line1), (14, zI (p15.length : Int)), (30, zI r2), (31, zI x3)]) (fun b => [cells b1 [zI 0, zI 0] 26, cells b4 [.string p4.text, hd3.v, hd4.v] 128, vec zaK 130 5 hd3.v p4.places, vec zaF 132 4 hd4.v p4.lines, cells b3 [.string p14, hd10.v, b.2.v, .string text1] 93, vec zam 36 6 hd10.v p15, vec zav 34 2 b.2.v b.1, cells b5 [zI span1, zI span2] 34]) (fun cut => ?_) ?_
        ·
         refine zas (zai (zak rfl dc rfl (zap (zaj (zas (zai (zah rfl dc rfl (zaW rfl dc rfl (zar zbS rfl dc rfl (show _ = 0 from rfl) (zar zdB rfl dc rfl (show _ = 1 from rfl) (zaN (k := 4) zew rfl dc rfl rfl rfl (zdf (k := 5) rfl dc rfl rfl Tryd.underlying57 (zak rfl dc rfl ?_)))))))))))))
         refine zap (zaj (cut (zas (zai (zah rfl dc rfl (zhJ rfl dc rfl zfX (zap (zaj ?_))))))))
         refine zaM rfl (fun hb9 => ?_) (fun hb9 => ?_)
         ·
          have h := za0 hb9 h
          refine zai (zah rfl dc rfl (zah rfl dc rfl (zaW rfl dc rfl (zar zbS rfl dc rfl (show _ = 0 from rfl) (zar zgg rfl dc rfl (show _ = 2 from rfl) (zaN (k := 4) zkC rfl dc rfl rfl rfl (zah rfl dc rfl (zah rfl dc rfl ?_))))))))
          refine zbe (v := .agg #[zI (p15.length : Int), zI (p15.length : Int)]) (ps := [(0, .tmp 96), (1, .tmp 97)]) rfl dc rfl (fun _ => by kernel_rfl) ?_
          refine zbg (cs := [zI (p15.length : Int), zI (p15.length : Int)]) (te := 34) (ps := [(0, .tmp 98)]) rfl dc rfl (fun _ => by kernel_rfl) (fun b7 => ?_)
          obtain ⟨hg4, h⟩ := zcb h
          refine zbr (k := 6) (k2 := 8) (ys := [(⟨(p15.length : Int), (p15.length : Int)⟩ : Gapi_Span)]) Tryd.underlying89 zjx zbv zcc rfl dc rfl rfl rfl rfl rfl rfl hg4 (fun v2 => ?_)
          refine zb7 (k := 6) rfl (fun hd15 he1 => ?_)
          subst he1
          show TO _ _ _ _ _ _ _ _ _ _ [cells b1 [zI 0, zI 0] 26, cells b4 [.string p4.text, hd3.v, hd4.v] 128, vec zaK 130 5 hd3.v p4.places, vec zaF 132 4 hd4.v p4.lines, cells b3 [.string p14, hd10.v, hd11.v, .string text1] 93, vec zam 36 6 hd10.v p15, vec zav 34 2 hd15.v (p16 ++ [(⟨(p15.length : Int), (p15.length : Int)⟩ : Gapi_Span)]), cells b5 [zI span1, zI span2] 34, cells b7 [zI (p15.length : Int), zI (p15.length : Int)] 34]
          refine zaW rfl dc rfl (zar zbS rfl dc rfl (show _ = 0 from rfl) (zar zgg rfl dc rfl (show _ = 2 from rfl) ?_))
          refine zbo (k := 4) (l' := [.string p14, hd10.v, hd15.v, .string text1]) zpu rfl rfl rfl rfl rfl (fun _ _ => rfl) rfl ?_
          refine zap ?_
          exact zaO (p16 ++ [(⟨(p15.length : Int), (p15.length : Int)⟩ : Gapi_Span)], hd15) h rfl (zad rfl (zad rfl (zad rfl (zad rfl (zad rfl (zad rfl (zad rfl (zad rfl (zad rfl (zad rfl (zaH))))))))))) (zal [0, 1, 2, 3, 4, 5, 6, 7] kr rfl)
         ·
          have h := za1 hb9 h
          refine zaP ?_
          exact zaO (p16, hd11) h rfl (zad rfl (zad rfl (zad rfl (zad rfl (zad rfl (zad rfl (zad rfl (zad rfl (zad rfl (zad rfl (zaH))))))))))) (zal [0, 1, 2, 3, 4, 5, 6, 7] kr rfl)
        ·
         rintro ⟨p20, hd14⟩ h
         rw [hj4] at h
         show TC _ _ _ _ _ ([]) _ _ [(0, .string text1), (3, zP b1), (4, zP b4), (6, zP b3), (7, .bool false), (10, zP b5), (13, .string line1), (14, zI (p15.length : Int)), (30, zI r2), (31, zI x3)] [cells b1 [zI 0, zI 0] 26, cells b4 [.string p4.text, hd3.v, hd4.v] 128, vec zaK 130 5 hd3.v p4.places, vec zaF 132 4 hd4.v p4.lines, cells b3 [.string p14, hd10.v, hd14.v, .string text1] 93, vec zam 36 6 hd10.v p15, vec zav 34 2 hd14.v p20, cells b5 [zI span1, zI span2] 34]
         refine zas (zai (zak rfl dc rfl (zap (zaj (zas ?_)))))
         obtain ⟨hg5, h⟩ := zcb h
         obtain ⟨q1, hq8, h⟩ := zbN h
         refine zbR 12 [(0, 104, zP b3), (1, 105, zP b3), (2, 106, zP b3), (3, 107, .pointer (some ⟨b3, 2, none⟩)), (4, 108, hd14.v), (5, 109, zP b3), (6, 110, zP b3), (7, 111, zP b3), (8, 112, .pointer (some ⟨b3, 2, none⟩)), (9, 113, hd14.v), (10, 114, zI (p20.length : Int)), (11, 115, zI ((p20.length : Int) - 1))] mixed kr kr dc (by rfl) kr kr (zac ?_ (zac ?_ (zac ?_ (zac ?_ (zac ?_ (zac ?_ (zac ?_ (zac ?_ (zac ?_ (zac ?_ (zac ?_ (zac ?_ DrawPre.nil)))))))))))) ?_
         ·
          intro D hn hd hcl hu hi
          refine zah rfl dc (zaE (by rfl) rfl) ?_
          exact zaf 0 hu hi rfl
         ·
          intro D hn hd hcl hu hi
          refine zaW rfl dc (zab (m := 0) hu rfl (hd 0 dc)) ?_
          exact zaf 1 hu hi rfl
         ·
          intro D hn hd hcl hu hi
          refine zar zbS rfl dc (zab (m := 1) hu rfl (hd 1 dc)) (show _ = 0 from rfl) ?_
          exact zaf 2 hu hi rfl
         ·
          intro D hn hd hcl hu hi
          refine zar zgg rfl dc (zab (m := 2) hu rfl (hd 2 dc)) (show _ = 2 from rfl) ?_
          exact zaf 3 hu hi rfl
         ·
          intro D hn hd hcl hu hi
          refine zaN (k := 4) zkC rfl dc (zab (m := 3) hu rfl (hd 3 dc)) rfl rfl ?_
          exact zaf 4 hu hi rfl
         ·
          intro D hn hd hcl hu hi
          refine zah rfl dc (zaE (by rfl) rfl) ?_
          exact zaf 5 hu hi rfl
         ·
          intro D hn hd hcl hu hi
          refine zaW rfl dc (zab (m := 5) hu rfl (hd 5 dc)) ?_
          exact zaf 6 hu hi rfl
         ·
          intro D hn hd hcl hu hi
          refine zar zbS rfl dc (zab (m := 6) hu rfl (hd 6 dc)) (show _ = 0 from rfl) ?_
          exact zaf 7 hu hi rfl
         ·
          intro D hn hd hcl hu hi
          refine zar zgg rfl dc (zab (m := 7) hu rfl (hd 7 dc)) (show _ = 2 from rfl) ?_
          exact zaf 8 hu hi rfl
         ·
          intro D hn hd hcl hu hi
          refine zaN (k := 4) zkC rfl dc (zab (m := 8) hu rfl (hd 8 dc)) rfl rfl ?_
          exact zaf 9 hu hi rfl
         ·
          intro D hn hd hcl hu hi
          refine zdf (k := 6) rfl dc (zab (m := 9) hu rfl (hd 9 dc)) rfl Tryd.underlying89 ?_
          exact zaf 10 hu hi rfl
         ·
          intro D hn hd hcl hu hi
          refine zaz rfl dc (zab (m := 10) hu rfl (hd 10 dc)) rfl (zec (r := (p20.length : Int) - 1) (IntWalk.i64_in _ hg5)) ?_
          exact zaf 11 hu hi rfl
         refine zce (k := 6) hq8 Tryd.underlying89 zgt rfl dc rfl rfl rfl rfl (zak rfl dc rfl (zap (zaj (zas (zai (zah rfl dc rfl ?_))))))
         obtain ⟨r7, hq9, h⟩ := zbN h
         refine zbH (v := zI r7) (vs := [.string line1]) rfl dc rfl rfl rfl zpN (ziM hq9) (zak rfl dc rfl (zap (zaj (zas ?_))))
         obtain ⟨hg6, h⟩ := zcb h
         obtain ⟨hg7, h⟩ := zcb h
         obtain ⟨hg8, h⟩ := zcb h
         obtain ⟨hg9, h⟩ := zcb h
         obtain ⟨hg10, h⟩ := zcb h
         refine zha 1 ?_
         show TC _ _ _ _ _ _ _ _ _ [cells b1 [zI 0, zI 0] 26, cells b4 [.string p4.text, hd3.v, hd4.v] 128, vec zaK 130 5 hd3.v p4.places, vec zaF 132 4 hd4.v p4.lines, cells b3 [.string p14, hd10.v, hd14.v, .string text1] 93, vec zam 36 6 hd10.v p15, vec zav 34 2 hd14.v p20, cells b5 [zI span1, zI span2] 34, emp]
         refine let vals1 : (Nat × Hd) → List (Nat × Nat × Value) := fun b => [(0, 119, zP b3), (1, 120, zP b3), (2, 121, zP b3), (3, 122, zP b3), (4, 123, .pointer (some ⟨b3, 1, none⟩)), (5, 124, hd10.v), (6, 125, .string line1), (7, 126, zI r7), (8, 127, .string (zbn line1 r7 (line1.size : Int))), (9, 128, zI r7), (10, 129, zP b3), (11, 130, zP b3), (12, 131, zP b3), (13, 132, .pointer (some ⟨b3, 2, none⟩)), (14, 133, hd14.v), (15, 134, zI (p20.length : Int)), (16, 135, zI ((p20.length : Int) - 1)), (17, 136, zI (p15.length : Int)), (18, 137, .pointer (some ⟨zff hd14.v, ((p20.length : Int) - 1 : Int).toNat * 2, none⟩)), (19, 138, .pointer (some ⟨zff hd14.v, ((p20.length : Int) - 1 : Int).toNat * 2, none⟩)), (20, 139, .pointer (some ⟨zff hd14.v, (((p20.length : Int) - 1 : Int).toNat) * 2, none⟩)), (21, 140, zI q1.From), (22, 141, zI ((p15.length : Int) - q1.From)), (23, 142, zP b5), (24, 143, zI span1), (25, 144, zI r7), (26, 145, zI (span1 + r7)), (27, 146, .pointer (some ⟨b5, 1, none⟩)), (28, 147, zI span2), (29, 148, .agg #[zI (span1 + r7), zI span2]), (30, 149, .agg #[.string (zbn line1 r7 (line1.size : Int)), zI r7, zI ((p20.length : Int) - 1), zI ((p15.length : Int) - q1.From), zI (span1 + r7), zI span2]), (31, 150, .slice (some ⟨b.1, 0, none⟩) 1 1), (32, 151, b.2.v)]; let LL1 : (Nat → Prop) → (Nat × Hd) → List Asn := fun D b => [cells b1 [zI 0, zI 0] 26, cells b4 [.string p4.text, hd3.v, hd4.v] 128, vec zaK 130 5 hd3.v p4.places, vec zaF 132 4 hd4.v p4.lines, cells b3 [.string p14, hd10.v, hd14.v, .string text1] 93, eD D (vec zam 36 6 hd10.v p15) [(32, vec zam 36 6 b.2.v (p15 ++ [(⟨zbn line1 r7 (line1.size : Int), r7, (p20.length : Int) - 1, (p15.length : Int) - q1.From, span1 + r7, span2⟩ : Gapi_Verse)]))], vec zav 34 2 hd14.v p20, cells b5 [zI span1, zI span2] 34, eD D emp [(31, cells b.1 [.string (zbn line1 r7 (line1.size : Int)), zI r7, zI ((p20.length : Int) - 1), zI ((p15.length : Int) - q1.From), zI (span1 + r7), zI span2] 36)]]; ?_
         refine zfa (β := Nat × Hd) 33 ((0 : Nat), Hd.nil) vals1 LL1 mixed kr kr dc (fun _ => rfl) (zaa rfl (zaa rfl (zaa rfl (zaa rfl (zaa rfl (zaa zdi (zaa rfl (zaa rfl (zaa zdi rfl))))))))) (zaC ?_ (zaC ?_ (zaC ?_ (zaC ?_ (zaC ?_ (zaC ?_ (zaC ?_ (zaC ?_ (zaC ?_ (zaC ?_ (zaC ?_ (zaC ?_ (zaC ?_ (zaC ?_ (zaC ?_ (zaC ?_ (zaC ?_ (zaC ?_ (zaC ?_ (zaC ?_ (zaC ?_ (zaC ?_ (zaC ?_ (zaC ?_ (zaC ?_ (zaC ?_ (zaC ?_ (zaC ?_ (zaC ?_ (zaC ?_ (zaC ?_ (zaC ?_ (zaC ?_ DrawG.nil))))))))))))))))))))))))))))))))) ?_
         ·
          intro D b hn hd hcl
          obtain ⟨b8, hd16⟩ := b
          refine zaQ rfl (zah rfl dc (zaE (by rfl) rfl) ?_)
          exact zaR (b8, hd16) 0 (by rfl) (by rfl) rfl (congrArg (dl D) rfl) (zaa rfl (zaa rfl (zaa rfl (zaa rfl (zaa rfl (zaa ((zax (by rfl)).trans rfl) (zaa rfl (zaa rfl (zaa ((zax (by rfl)).trans rfl) rfl)))))))))
         ·
          intro D b hn hd hcl
          obtain ⟨b8, hd16⟩ := b
          refine zaQ (zaa rfl (zaa rfl (zaa rfl (zaa rfl (zaa rfl (zaa (zaq (fun hD => hn (hcl 2 _ rfl (hcl 3 _ rfl (hcl 4 _ rfl (hcl 5 _ rfl (hcl 32 _ rfl hD 5 dc) 4 dc) 3 dc) 2 dc) 1 dc)) zaw) rfl)))))) ?_
          refine zah rfl dc (zaE (by rfl) rfl) ?_
          exact zaR (b8, hd16) 1 (by rfl) (by rfl) rfl (congrArg (dl D) rfl) (zaa rfl (zaa rfl (zaa rfl (zaa rfl (zaa rfl (zaa ((zax (by rfl)).trans (zaq (fun hD => hn (hcl 2 _ rfl (hcl 3 _ rfl (hcl 4 _ rfl (hcl 5 _ rfl (hcl 32 _ rfl hD 5 dc) 4 dc) 3 dc) 2 dc) 1 dc)) zaw)) (zaa rfl (zaa rfl (zaa ((zax (by rfl)).trans rfl) rfl)))))))))
         ·
          intro D b hn hd hcl
          obtain ⟨b8, hd16⟩ := b
          refine zaQ (zaa rfl (zaa rfl (zaa rfl (zaa rfl (zaa rfl (zaa (zaq (fun hD => hn (hcl 3 _ rfl (hcl 4 _ rfl (hcl 5 _ rfl (hcl 32 _ rfl hD 5 dc) 4 dc) 3 dc) 2 dc)) zaw) rfl)))))) ?_
          refine zaW rfl dc (zab (m := 1) rfl rfl (hd 1 dc)) ?_
          exact zaR (b8, hd16) 2 (by rfl) (by rfl) rfl (congrArg (dl D) rfl) (zaa rfl (zaa rfl (zaa rfl (zaa rfl (zaa rfl (zaa ((zax (by rfl)).trans (zaq (fun hD => hn (hcl 3 _ rfl (hcl 4 _ rfl (hcl 5 _ rfl (hcl 32 _ rfl hD 5 dc) 4 dc) 3 dc) 2 dc)) zaw)) (zaa rfl (zaa rfl (zaa ((zax (by rfl)).trans rfl) rfl)))))))))
         ·
          intro D b hn hd hcl
          obtain ⟨b8, hd16⟩ := b
          refine zaQ (zaa rfl (zaa rfl (zaa rfl (zaa rfl (zaa rfl (zaa (zaq (fun hD => hn (hcl 4 _ rfl (hcl 5 _ rfl (hcl 32 _ rfl hD 5 dc) 4 dc) 3 dc)) zaw) rfl)))))) ?_
          refine zar zbS rfl dc (zab (m := 2) rfl rfl (hd 2 dc)) (show _ = 0 from rfl) ?_
          exact zaR (b8, hd16) 3 (by rfl) (by rfl) rfl (congrArg (dl D) rfl) (zaa rfl (zaa rfl (zaa rfl (zaa rfl (zaa rfl (zaa ((zax (by rfl)).trans (zaq (fun hD => hn (hcl 4 _ rfl (hcl 5 _ rfl (hcl 32 _ rfl hD 5 dc) 4 dc) 3 dc)) zaw)) (zaa rfl (zaa rfl (zaa ((zax (by rfl)).trans rfl) rfl)))))))))
         ·
          intro D b hn hd hcl
          obtain ⟨b8, hd16⟩ := b
          refine zaQ (zaa rfl (zaa rfl (zaa rfl (zaa rfl (zaa rfl (zaa (zaq (fun hD => hn (hcl 5 _ rfl (hcl 32 _ rfl hD 5 dc) 4 dc)) zaw) rfl)))))) ?_
          refine zar zdB rfl dc (zab (m := 3) rfl rfl (hd 3 dc)) (show _ = 1 from rfl) ?_
          exact zaR (b8, hd16) 4 (by rfl) (by rfl) rfl (congrArg (dl D) rfl) (zaa rfl (zaa rfl (zaa rfl (zaa rfl (zaa rfl (zaa ((zax (by rfl)).trans (zaq (fun hD => hn (hcl 5 _ rfl (hcl 32 _ rfl hD 5 dc) 4 dc)) zaw)) (zaa rfl (zaa rfl (zaa ((zax (by rfl)).trans rfl) rfl)))))))))
         ·
          intro D b hn hd hcl
          obtain ⟨b8, hd16⟩ := b
          refine zaQ (zaa rfl (zaa rfl (zaa rfl (zaa rfl (zaa rfl (zaa (zaq (fun hD => hn (hcl 32 _ rfl hD 5 dc)) zaw) rfl)))))) ?_
          refine zaN (k := 4) zew rfl dc (zab (m := 4) rfl rfl (hd 4 dc)) rfl rfl ?_
          exact zaR (b8, hd16) 5 (by rfl) (by rfl) rfl (congrArg (dl D) rfl) (zaa rfl (zaa rfl (zaa rfl (zaa rfl (zaa rfl (zaa ((zax (by rfl)).trans (zaq (fun hD => hn (hcl 32 _ rfl hD 5 dc)) zaw)) (zaa rfl (zaa rfl (zaa ((zax (by rfl)).trans rfl) rfl)))))))))
         ·
          intro D b hn hd hcl
          obtain ⟨b8, hd16⟩ := b
          refine zaQ (zaa rfl (zaa rfl (zaa rfl (zaa rfl (zaa rfl (zaa (zaq (fun hD => hn (hcl 8 _ rfl (hcl 30 _ rfl (hcl 31 _ rfl (hcl 32 _ rfl hD 31 dc) 30 dc) 8 dc) 6 dc)) zaw) (zaa rfl (zaa rfl (zaa (zaq (fun hD => hn (hcl 8 _ rfl (hcl 30 _ rfl (hcl 31 _ rfl hD 30 dc) 8 dc) 6 dc)) zaw) rfl))))))))) ?_
          refine zah rfl dc (zaE (by rfl) rfl) ?_
          exact zaR (b8, hd16) 6 (by rfl) (by rfl) rfl (congrArg (dl D) rfl) (zaa rfl (zaa rfl (zaa rfl (zaa rfl (zaa rfl (zaa ((zax (by rfl)).trans (zaq (fun hD => hn (hcl 8 _ rfl (hcl 30 _ rfl (hcl 31 _ rfl (hcl 32 _ rfl hD 31 dc) 30 dc) 8 dc) 6 dc)) zaw)) (zaa rfl (zaa rfl (zaa ((zax (by rfl)).trans (zaq (fun hD => hn (hcl 8 _ rfl (hcl 30 _ rfl (hcl 31 _ rfl hD 30 dc) 8 dc) 6 dc)) zaw)) rfl)))))))))
         ·
          intro D b hn hd hcl
          obtain ⟨b8, hd16⟩ := b
          refine zaQ (zaa rfl (zaa rfl (zaa rfl (zaa rfl (zaa rfl (zaa (zaq (fun hD => hn (hcl 8 _ rfl (hcl 30 _ rfl (hcl 31 _ rfl (hcl 32 _ rfl hD 31 dc) 30 dc) 8 dc) 7 dc)) zaw) (zaa rfl (zaa rfl (zaa (zaq (fun hD => hn (hcl 8 _ rfl (hcl 30 _ rfl (hcl 31 _ rfl hD 30 dc) 8 dc) 7 dc)) zaw) rfl))))))))) ?_
          refine zah rfl dc (zaE (by rfl) rfl) ?_
          exact zaR (b8, hd16) 7 (by rfl) (by rfl) rfl (congrArg (dl D) rfl) (zaa rfl (zaa rfl (zaa rfl (zaa rfl (zaa rfl (zaa ((zax (by rfl)).trans (zaq (fun hD => hn (hcl 8 _ rfl (hcl 30 _ rfl (hcl 31 _ rfl (hcl 32 _ rfl hD 31 dc) 30 dc) 8 dc) 7 dc)) zaw)) (zaa rfl (zaa rfl (zaa ((zax (by rfl)).trans (zaq (fun hD => hn (hcl 8 _ rfl (hcl 30 _ rfl (hcl 31 _ rfl hD 30 dc) 8 dc) 7 dc)) zaw)) rfl)))))))))
         ·
          intro D b hn hd hcl
          obtain ⟨b8, hd16⟩ := b
          refine zaQ (zaa rfl (zaa rfl (zaa rfl (zaa rfl (zaa rfl (zaa (zaq (fun hD => hn (hcl 30 _ rfl (hcl 31 _ rfl (hcl 32 _ rfl hD 31 dc) 30 dc) 8 dc)) zaw) (zaa rfl (zaa rfl (zaa (zaq (fun hD => hn (hcl 30 _ rfl (hcl 31 _ rfl hD 30 dc) 8 dc)) zaw) rfl))))))))) ?_
          refine zeD rfl dc (zab (m := 6) rfl rfl (hd 6 dc)) (evO.some (zab (m := 7) rfl rfl (hd 7 dc))) zg3 (zcv (i := r7) (j := (line1.size : Int)) Tryd.underlying9 (.inr rfl) (.inl ⟨rfl, rfl⟩) hg6) ?_
          exact zaR (b8, hd16) 8 (by rfl) (by rfl) rfl (congrArg (dl D) rfl) (zaa rfl (zaa rfl (zaa rfl (zaa rfl (zaa rfl (zaa ((zax (by rfl)).trans (zaq (fun hD => hn (hcl 30 _ rfl (hcl 31 _ rfl (hcl 32 _ rfl hD 31 dc) 30 dc) 8 dc)) zaw)) (zaa rfl (zaa rfl (zaa ((zax (by rfl)).trans (zaq (fun hD => hn (hcl 30 _ rfl (hcl 31 _ rfl hD 30 dc) 8 dc)) zaw)) rfl)))))))))
         ·
          intro D b hn hd hcl
          obtain ⟨b8, hd16⟩ := b
          refine zaQ (zaa rfl (zaa rfl (zaa rfl (zaa rfl (zaa rfl (zaa (zaq (fun hD => hn (hcl 30 _ rfl (hcl 31 _ rfl (hcl 32 _ rfl hD 31 dc) 30 dc) 9 dc)) zaw) (zaa rfl (zaa rfl (zaa (zaq (fun hD => hn (hcl 30 _ rfl (hcl 31 _ rfl hD 30 dc) 9 dc)) zaw) rfl))))))))) ?_
          refine zah rfl dc (zaE (by rfl) rfl) ?_
          exact zaR (b8, hd16) 9 (by rfl) (by rfl) rfl (congrArg (dl D) rfl) (zaa rfl (zaa rfl (zaa rfl (zaa rfl (zaa rfl (zaa ((zax (by rfl)).trans (zaq (fun hD => hn (hcl 30 _ rfl (hcl 31 _ rfl (hcl 32 _ rfl hD 31 dc) 30 dc) 9 dc)) zaw)) (zaa rfl (zaa rfl (zaa ((zax (by rfl)).trans (zaq (fun hD => hn (hcl 30 _ rfl (hcl 31 _ rfl hD 30 dc) 9 dc)) zaw)) rfl)))))))))
         ·
          intro D b hn hd hcl
          obtain ⟨b8, hd16⟩ := b
          refine zaQ (zaa rfl (zaa rfl (zaa rfl (zaa rfl (zaa rfl (zaa (zaq (fun hD => hn (hcl 11 _ rfl (hcl 12 _ rfl (hcl 13 _ rfl (hcl 14 _ rfl (hcl 15 _ rfl (hcl 16 _ rfl (hcl 30 _ rfl (hcl 31 _ rfl (hcl 32 _ rfl hD 31 dc) 30 dc) 16 dc) 15 dc) 14 dc) 13 dc) 12 dc) 11 dc) 10 dc)) zaw) (zaa rfl (zaa rfl (zaa (zaq (fun hD => hn (hcl 11 _ rfl (hcl 12 _ rfl (hcl 13 _ rfl (hcl 14 _ rfl (hcl 15 _ rfl (hcl 16 _ rfl (hcl 30 _ rfl (hcl 31 _ rfl hD 30 dc) 16 dc) 15 dc) 14 dc) 13 dc) 12 dc) 11 dc) 10 dc)) zaw) rfl))))))))) ?_
          refine zah rfl dc (zaE (by rfl) rfl) ?_
          exact zaR (b8, hd16) 10 (by rfl) (by rfl) rfl (congrArg (dl D) rfl) (zaa rfl (zaa rfl (zaa rfl (zaa rfl (zaa rfl (zaa ((zax (by rfl)).trans (zaq (fun hD => hn (hcl 11 _ rfl (hcl 12 _ rfl (hcl 13 _ rfl (hcl 14 _ rfl (hcl 15 _ rfl (hcl 16 _ rfl (hcl 30 _ rfl (hcl 31 _ rfl (hcl 32 _ rfl hD 31 dc) 30 dc) 16 dc) 15 dc) 14 dc) 13 dc) 12 dc) 11 dc) 10 dc)) zaw)) (zaa rfl (zaa rfl (zaa ((zax (by rfl)).trans (zaq (fun hD => hn (hcl 11 _ rfl (hcl 12 _ rfl (hcl 13 _ rfl (hcl 14 _ rfl (hcl 15 _ rfl (hcl 16 _ rfl (hcl 30 _ rfl (hcl 31 _ rfl hD 30 dc) 16 dc) 15 dc) 14 dc) 13 dc) 12 dc) 11 dc) 10 dc)) zaw)) rfl)))))))))
         ·
          intro D b hn hd hcl
          obtain ⟨b8, hd16⟩ := b
          refine zaQ (zaa rfl (zaa rfl (zaa rfl (zaa rfl (zaa rfl (zaa (zaq (fun hD => hn (hcl 12 _ rfl (hcl 13 _ rfl (hcl 14 _ rfl (hcl 15 _ rfl (hcl 16 _ rfl (hcl 30 _ rfl (hcl 31 _ rfl (hcl 32 _ rfl hD 31 dc) 30 dc) 16 dc) 15 dc) 14 dc) 13 dc) 12 dc) 11 dc)) zaw) (zaa rfl (zaa rfl (zaa (zaq (fun hD => hn (hcl 12 _ rfl (hcl 13 _ rfl (hcl 14 _ rfl (hcl 15 _ rfl (hcl 16 _ rfl (hcl 30 _ rfl (hcl 31 _ rfl hD 30 dc) 16 dc) 15 dc) 14 dc) 13 dc) 12 dc) 11 dc)) zaw) rfl))))))))) ?_
          refine zaW rfl dc (zab (m := 10) rfl rfl (hd 10 dc)) ?_
          exact zaR (b8, hd16) 11 (by rfl) (by rfl) rfl (congrArg (dl D) rfl) (zaa rfl (zaa rfl (zaa rfl (zaa rfl (zaa rfl (zaa ((zax (by rfl)).trans (zaq (fun hD => hn (hcl 12 _ rfl (hcl 13 _ rfl (hcl 14 _ rfl (hcl 15 _ rfl (hcl 16 _ rfl (hcl 30 _ rfl (hcl 31 _ rfl (hcl 32 _ rfl hD 31 dc) 30 dc) 16 dc) 15 dc) 14 dc) 13 dc) 12 dc) 11 dc)) zaw)) (zaa rfl (zaa rfl (zaa ((zax (by rfl)).trans (zaq (fun hD => hn (hcl 12 _ rfl (hcl 13 _ rfl (hcl 14 _ rfl (hcl 15 _ rfl (hcl 16 _ rfl (hcl 30 _ rfl (hcl 31 _ rfl hD 30 dc) 16 dc) 15 dc) 14 dc) 13 dc) 12 dc) 11 dc)) zaw)) rfl)))))))))
         ·
          intro D b hn hd hcl
          obtain ⟨b8, hd16⟩ := b
          refine zaQ (zaa rfl (zaa rfl (zaa rfl (zaa rfl (zaa rfl (zaa (zaq (fun hD => hn (hcl 13 _ rfl (hcl 14 _ rfl (hcl 15 _ rfl (hcl 16 _ rfl (hcl 30 _ rfl (hcl 31 _ rfl (hcl 32 _ rfl hD 31 dc) 30 dc) 16 dc) 15 dc) 14 dc) 13 dc) 12 dc)) zaw) (zaa rfl (zaa rfl (zaa (zaq (fun hD => hn (hcl 13 _ rfl (hcl 14 _ rfl (hcl 15 _ rfl (hcl 16 _ rfl (hcl 30 _ rfl (hcl 31 _ rfl hD 30 dc) 16 dc) 15 dc) 14 dc) 13 dc) 12 dc)) zaw) rfl))))))))) ?_
          refine zar zbS rfl dc (zab (m := 11) rfl rfl (hd 11 dc)) (show _ = 0 from rfl) ?_
          exact zaR (b8, hd16) 12 (by rfl) (by rfl) rfl (congrArg (dl D) rfl) (zaa rfl (zaa rfl (zaa rfl (zaa rfl (zaa rfl (zaa ((zax (by rfl)).trans (zaq (fun hD => hn (hcl 13 _ rfl (hcl 14 _ rfl (hcl 15 _ rfl (hcl 16 _ rfl (hcl 30 _ rfl (hcl 31 _ rfl (hcl 32 _ rfl hD 31 dc) 30 dc) 16 dc) 15 dc) 14 dc) 13 dc) 12 dc)) zaw)) (zaa rfl (zaa rfl (zaa ((zax (by rfl)).trans (zaq (fun hD => hn (hcl 13 _ rfl (hcl 14 _ rfl (hcl 15 _ rfl (hcl 16 _ rfl (hcl 30 _ rfl (hcl 31 _ rfl hD 30 dc) 16 dc) 15 dc) 14 dc) 13 dc) 12 dc)) zaw)) rfl)))))))))
         ·
          intro D b hn hd hcl
          obtain ⟨b8, hd16⟩ := b
          refine zaQ (zaa rfl (zaa rfl (zaa rfl (zaa rfl (zaa rfl (zaa (zaq (fun hD => hn (hcl 14 _ rfl (hcl 15 _ rfl (hcl 16 _ rfl (hcl 30 _ rfl (hcl 31 _ rfl (hcl 32 _ rfl hD 31 dc) 30 dc) 16 dc) 15 dc) 14 dc) 13 dc)) zaw) (zaa rfl (zaa rfl (zaa (zaq (fun hD => hn (hcl 14 _ rfl (hcl 15 _ rfl (hcl 16 _ rfl (hcl 30 _ rfl (hcl 31 _ rfl hD 30 dc) 16 dc) 15 dc) 14 dc) 13 dc)) zaw) rfl))))))))) ?_
          refine zar zgg rfl dc (zab (m := 12) rfl rfl (hd 12 dc)) (show _ = 2 from rfl) ?_
          exact zaR (b8, hd16) 13 (by rfl) (by rfl) rfl (congrArg (dl D) rfl) (zaa rfl (zaa rfl (zaa rfl (zaa rfl (zaa rfl (zaa ((zax (by rfl)).trans (zaq (fun hD => hn (hcl 14 _ rfl (hcl 15 _ rfl (hcl 16 _ rfl (hcl 30 _ rfl (hcl 31 _ rfl (hcl 32 _ rfl hD 31 dc) 30 dc) 16 dc) 15 dc) 14 dc) 13 dc)) zaw)) (zaa rfl (zaa rfl (zaa ((zax (by rfl)).trans (zaq (fun hD => hn (hcl 14 _ rfl (hcl 15 _ rfl (hcl 16 _ rfl (hcl 30 _ rfl (hcl 31 _ rfl hD 30 dc) 16 dc) 15 dc) 14 dc) 13 dc)) zaw)) rfl)))))))))
         ·
          intro D b hn hd hcl
          obtain ⟨b8, hd16⟩ := b
          refine zaQ (zaa rfl (zaa rfl (zaa rfl (zaa rfl (zaa rfl (zaa (zaq (fun hD => hn (hcl 15 _ rfl (hcl 16 _ rfl (hcl 30 _ rfl (hcl 31 _ rfl (hcl 32 _ rfl hD 31 dc) 30 dc) 16 dc) 15 dc) 14 dc)) zaw) (zaa rfl (zaa rfl (zaa (zaq (fun hD => hn (hcl 15 _ rfl (hcl 16 _ rfl (hcl 30 _ rfl (hcl 31 _ rfl hD 30 dc) 16 dc) 15 dc) 14 dc)) zaw) rfl))))))))) ?_
          refine zaN (k := 4) zkC rfl dc (zab (m := 13) rfl rfl (hd 13 dc)) rfl rfl ?_
          exact zaR (b8, hd16) 14 (by rfl) (by rfl) rfl (congrArg (dl D) rfl) (zaa rfl (zaa rfl (zaa rfl (zaa rfl (zaa rfl (zaa ((zax (by rfl)).trans (zaq (fun hD => hn (hcl 15 _ rfl (hcl 16 _ rfl (hcl 30 _ rfl (hcl 31 _ rfl (hcl 32 _ rfl hD 31 dc) 30 dc) 16 dc) 15 dc) 14 dc)) zaw)) (zaa rfl (zaa rfl (zaa ((zax (by rfl)).trans (zaq (fun hD => hn (hcl 15 _ rfl (hcl 16 _ rfl (hcl 30 _ rfl (hcl 31 _ rfl hD 30 dc) 16 dc) 15 dc) 14 dc)) zaw)) rfl)))))))))
         ·
          intro D b hn hd hcl
          obtain ⟨b8, hd16⟩ := b
          refine zaQ (zaa rfl (zaa rfl (zaa rfl (zaa rfl (zaa rfl (zaa (zaq (fun hD => hn (hcl 16 _ rfl (hcl 30 _ rfl (hcl 31 _ rfl (hcl 32 _ rfl hD 31 dc) 30 dc) 16 dc) 15 dc)) zaw) (zaa rfl (zaa rfl (zaa (zaq (fun hD => hn (hcl 16 _ rfl (hcl 30 _ rfl (hcl 31 _ rfl hD 30 dc) 16 dc) 15 dc)) zaw) rfl))))))))) ?_
          refine zdf (k := 6) rfl dc (zab (m := 14) rfl rfl (hd 14 dc)) rfl Tryd.underlying89 ?_
          exact zaR (b8, hd16) 15 (by rfl) (by rfl) rfl (congrArg (dl D) rfl) (zaa rfl (zaa rfl (zaa rfl (zaa rfl (zaa rfl (zaa ((zax (by rfl)).trans (zaq (fun hD => hn (hcl 16 _ rfl (hcl 30 _ rfl (hcl 31 _ rfl (hcl 32 _ rfl hD 31 dc) 30 dc) 16 dc) 15 dc)) zaw)) (zaa rfl (zaa rfl (zaa ((zax (by rfl)).trans (zaq (fun hD => hn (hcl 16 _ rfl (hcl 30 _ rfl (hcl 31 _ rfl hD 30 dc) 16 dc) 15 dc)) zaw)) rfl)))))))))
         ·
          intro D b hn hd hcl
          obtain ⟨b8, hd16⟩ := b
          refine zaQ (zaa rfl (zaa rfl (zaa rfl (zaa rfl (zaa rfl (zaa (zaq (fun hD => hn (hcl 30 _ rfl (hcl 31 _ rfl (hcl 32 _ rfl hD 31 dc) 30 dc) 16 dc)) zaw) (zaa rfl (zaa rfl (zaa (zaq (fun hD => hn (hcl 30 _ rfl (hcl 31 _ rfl hD 30 dc) 16 dc)) zaw) rfl))))))))) ?_
          refine zaz rfl dc (zab (m := 15) rfl rfl (hd 15 dc)) rfl (zec (r := (p20.length : Int) - 1) (IntWalk.i64_in _ hg7)) ?_
          exact zaR (b8, hd16) 16 (by rfl) (by rfl) rfl (congrArg (dl D) rfl) (zaa rfl (zaa rfl (zaa rfl (zaa rfl (zaa rfl (zaa ((zax (by rfl)).trans (zaq (fun hD => hn (hcl 30 _ rfl (hcl 31 _ rfl (hcl 32 _ rfl hD 31 dc) 30 dc) 16 dc)) zaw)) (zaa rfl (zaa rfl (zaa ((zax (by rfl)).trans (zaq (fun hD => hn (hcl 30 _ rfl (hcl 31 _ rfl hD 30 dc) 16 dc)) zaw)) rfl)))))))))
         ·
          intro D b hn hd hcl
          obtain ⟨b8, hd16⟩ := b
          refine zaQ (zaa rfl (zaa rfl (zaa rfl (zaa rfl (zaa rfl (zaa (zaq (fun hD => hn (hcl 22 _ rfl (hcl 30 _ rfl (hcl 31 _ rfl (hcl 32 _ rfl hD 31 dc) 30 dc) 22 dc) 17 dc)) zaw) (zaa rfl (zaa rfl (zaa (zaq (fun hD => hn (hcl 22 _ rfl (hcl 30 _ rfl (hcl 31 _ rfl hD 30 dc) 22 dc) 17 dc)) zaw) rfl))))))))) ?_
          refine zah rfl dc (zaE (by rfl) rfl) ?_
          exact zaR (b8, hd16) 17 (by rfl) (by rfl) rfl (congrArg (dl D) rfl) (zaa rfl (zaa rfl (zaa rfl (zaa rfl (zaa rfl (zaa ((zax (by rfl)).trans (zaq (fun hD => hn (hcl 22 _ rfl (hcl 30 _ rfl (hcl 31 _ rfl (hcl 32 _ rfl hD 31 dc) 30 dc) 22 dc) 17 dc)) zaw)) (zaa rfl (zaa rfl (zaa ((zax (by rfl)).trans (zaq (fun hD => hn (hcl 22 _ rfl (hcl 30 _ rfl (hcl 31 _ rfl hD 30 dc) 22 dc) 17 dc)) zaw)) rfl)))))))))
         ·
          intro D b hn hd hcl
          obtain ⟨b8, hd16⟩ := b
          refine zaQ (zaa rfl (zaa rfl (zaa rfl (zaa rfl (zaa rfl (zaa (zaq (fun hD => hn (hcl 19 _ rfl (hcl 20 _ rfl (hcl 21 _ rfl (hcl 22 _ rfl (hcl 30 _ rfl (hcl 31 _ rfl (hcl 32 _ rfl hD 31 dc) 30 dc) 22 dc) 21 dc) 20 dc) 19 dc) 18 dc)) zaw) (zaa rfl (zaa rfl (zaa (zaq (fun hD => hn (hcl 19 _ rfl (hcl 20 _ rfl (hcl 21 _ rfl (hcl 22 _ rfl (hcl 30 _ rfl (hcl 31 _ rfl hD 30 dc) 22 dc) 21 dc) 20 dc) 19 dc) 18 dc)) zaw) rfl))))))))) ?_
          refine zah rfl dc (zaE (by rfl) rfl) ?_
          exact zaR (b8, hd16) 18 (by rfl) (by rfl) rfl (congrArg (dl D) rfl) (zaa rfl (zaa rfl (zaa rfl (zaa rfl (zaa rfl (zaa ((zax (by rfl)).trans (zaq (fun hD => hn (hcl 19 _ rfl (hcl 20 _ rfl (hcl 21 _ rfl (hcl 22 _ rfl (hcl 30 _ rfl (hcl 31 _ rfl (hcl 32 _ rfl hD 31 dc) 30 dc) 22 dc) 21 dc) 20 dc) 19 dc) 18 dc)) zaw)) (zaa rfl (zaa rfl (zaa ((zax (by rfl)).trans (zaq (fun hD => hn (hcl 19 _ rfl (hcl 20 _ rfl (hcl 21 _ rfl (hcl 22 _ rfl (hcl 30 _ rfl (hcl 31 _ rfl hD 30 dc) 22 dc) 21 dc) 20 dc) 19 dc) 18 dc)) zaw)) rfl)))))))))
         ·
          intro D b hn hd hcl
          obtain ⟨b8, hd16⟩ := b
          refine zaQ (zaa rfl (zaa rfl (zaa rfl (zaa rfl (zaa rfl (zaa (zaq (fun hD => hn (hcl 20 _ rfl (hcl 21 _ rfl (hcl 22 _ rfl (hcl 30 _ rfl (hcl 31 _ rfl (hcl 32 _ rfl hD 31 dc) 30 dc) 22 dc) 21 dc) 20 dc) 19 dc)) zaw) (zaa rfl (zaa rfl (zaa (zaq (fun hD => hn (hcl 20 _ rfl (hcl 21 _ rfl (hcl 22 _ rfl (hcl 30 _ rfl (hcl 31 _ rfl hD 30 dc) 22 dc) 21 dc) 20 dc) 19 dc)) zaw) rfl))))))))) ?_
          refine zaW rfl dc (zab (m := 18) rfl rfl (hd 18 dc)) ?_
          exact zaR (b8, hd16) 19 (by rfl) (by rfl) rfl (congrArg (dl D) rfl) (zaa rfl (zaa rfl (zaa rfl (zaa rfl (zaa rfl (zaa ((zax (by rfl)).trans (zaq (fun hD => hn (hcl 20 _ rfl (hcl 21 _ rfl (hcl 22 _ rfl (hcl 30 _ rfl (hcl 31 _ rfl (hcl 32 _ rfl hD 31 dc) 30 dc) 22 dc) 21 dc) 20 dc) 19 dc)) zaw)) (zaa rfl (zaa rfl (zaa ((zax (by rfl)).trans (zaq (fun hD => hn (hcl 20 _ rfl (hcl 21 _ rfl (hcl 22 _ rfl (hcl 30 _ rfl (hcl 31 _ rfl hD 30 dc) 22 dc) 21 dc) 20 dc) 19 dc)) zaw)) rfl)))))))))
         ·
          intro D b hn hd hcl
          obtain ⟨b8, hd16⟩ := b
          refine zaQ (zaa rfl (zaa rfl (zaa rfl (zaa rfl (zaa rfl (zaa (zaq (fun hD => hn (hcl 21 _ rfl (hcl 22 _ rfl (hcl 30 _ rfl (hcl 31 _ rfl (hcl 32 _ rfl hD 31 dc) 30 dc) 22 dc) 21 dc) 20 dc)) zaw) (zaa rfl (zaa rfl (zaa (zaq (fun hD => hn (hcl 21 _ rfl (hcl 22 _ rfl (hcl 30 _ rfl (hcl 31 _ rfl hD 30 dc) 22 dc) 21 dc) 20 dc)) zaw) rfl))))))))) ?_
          refine zar ze3 rfl dc (zab (m := 19) rfl rfl (hd 19 dc)) (show _ = (((p20.length : Int) - 1 : Int).toNat) * 2 from rfl) ?_
          exact zaR (b8, hd16) 20 (by rfl) (by rfl) rfl (congrArg (dl D) rfl) (zaa rfl (zaa rfl (zaa rfl (zaa rfl (zaa rfl (zaa ((zax (by rfl)).trans (zaq (fun hD => hn (hcl 21 _ rfl (hcl 22 _ rfl (hcl 30 _ rfl (hcl 31 _ rfl (hcl 32 _ rfl hD 31 dc) 30 dc) 22 dc) 21 dc) 20 dc)) zaw)) (zaa rfl (zaa rfl (zaa ((zax (by rfl)).trans (zaq (fun hD => hn (hcl 21 _ rfl (hcl 22 _ rfl (hcl 30 _ rfl (hcl 31 _ rfl hD 30 dc) 22 dc) 21 dc) 20 dc)) zaw)) rfl)))))))))
         ·
          intro D b hn hd hcl
          obtain ⟨b8, hd16⟩ := b
          refine zaQ (zaa rfl (zaa rfl (zaa rfl (zaa rfl (zaa rfl (zaa (zaq (fun hD => hn (hcl 22 _ rfl (hcl 30 _ rfl (hcl 31 _ rfl (hcl 32 _ rfl hD 31 dc) 30 dc) 22 dc) 21 dc)) zaw) (zaa rfl (zaa rfl (zaa (zaq (fun hD => hn (hcl 22 _ rfl (hcl 30 _ rfl (hcl 31 _ rfl hD 30 dc) 22 dc) 21 dc)) zaw) rfl))))))))) ?_
          refine zd2 (i := ((p20.length : Int) - 1 : Int).toNat) (j := 0) (k := 6) (q := q1) zfb zbv rfl dc (zab (m := 20) rfl rfl (hd 20 dc)) rfl (zcq hq8) rfl dc rfl ?_
          exact zaR (b8, hd16) 21 (by rfl) (by rfl) rfl (congrArg (dl D) rfl) (zaa rfl (zaa rfl (zaa rfl (zaa rfl (zaa rfl (zaa ((zax (by rfl)).trans (zaq (fun hD => hn (hcl 22 _ rfl (hcl 30 _ rfl (hcl 31 _ rfl (hcl 32 _ rfl hD 31 dc) 30 dc) 22 dc) 21 dc)) zaw)) (zaa rfl (zaa rfl (zaa ((zax (by rfl)).trans (zaq (fun hD => hn (hcl 22 _ rfl (hcl 30 _ rfl (hcl 31 _ rfl hD 30 dc) 22 dc) 21 dc)) zaw)) rfl)))))))))
         ·
          intro D b hn hd hcl
          obtain ⟨b8, hd16⟩ := b
          refine zaQ (zaa rfl (zaa rfl (zaa rfl (zaa rfl (zaa rfl (zaa (zaq (fun hD => hn (hcl 30 _ rfl (hcl 31 _ rfl (hcl 32 _ rfl hD 31 dc) 30 dc) 22 dc)) zaw) (zaa rfl (zaa rfl (zaa (zaq (fun hD => hn (hcl 30 _ rfl (hcl 31 _ rfl hD 30 dc) 22 dc)) zaw) rfl))))))))) ?_
          refine zaz rfl dc (zab (m := 17) rfl rfl (hd 17 dc)) (zab (m := 21) rfl rfl (hd 21 dc)) (zec (r := (p15.length : Int) - q1.From) (IntWalk.i64_in _ hg8)) ?_
          exact zaR (b8, hd16) 22 (by rfl) (by rfl) rfl (congrArg (dl D) rfl) (zaa rfl (zaa rfl (zaa rfl (zaa rfl (zaa rfl (zaa ((zax (by rfl)).trans (zaq (fun hD => hn (hcl 30 _ rfl (hcl 31 _ rfl (hcl 32 _ rfl hD 31 dc) 30 dc) 22 dc)) zaw)) (zaa rfl (zaa rfl (zaa ((zax (by rfl)).trans (zaq (fun hD => hn (hcl 30 _ rfl (hcl 31 _ rfl hD 30 dc) 22 dc)) zaw)) rfl)))))))))
         ·
          intro D b hn hd hcl
          obtain ⟨b8, hd16⟩ := b
          refine zaQ (zaa rfl (zaa rfl (zaa rfl (zaa rfl (zaa rfl (zaa (zaq (fun hD => hn (hcl 24 _ rfl (hcl 26 _ rfl (hcl 29 _ rfl (hcl 30 _ rfl (hcl 31 _ rfl (hcl 32 _ rfl hD 31 dc) 30 dc) 29 dc) 26 dc) 24 dc) 23 dc)) zaw) (zaa rfl (zaa rfl (zaa (zaq (fun hD => hn (hcl 24 _ rfl (hcl 26 _ rfl (hcl 29 _ rfl (hcl 30 _ rfl (hcl 31 _ rfl hD 30 dc) 29 dc) 26 dc) 24 dc) 23 dc)) zaw) rfl))))))))) ?_
          refine zar ze3 rfl dc (zaE (by rfl) rfl) (show _ = 0 from rfl) ?_
          exact zaR (b8, hd16) 23 (by rfl) (by rfl) rfl (congrArg (dl D) rfl) (zaa rfl (zaa rfl (zaa rfl (zaa rfl (zaa rfl (zaa ((zax (by rfl)).trans (zaq (fun hD => hn (hcl 24 _ rfl (hcl 26 _ rfl (hcl 29 _ rfl (hcl 30 _ rfl (hcl 31 _ rfl (hcl 32 _ rfl hD 31 dc) 30 dc) 29 dc) 26 dc) 24 dc) 23 dc)) zaw)) (zaa rfl (zaa rfl (zaa ((zax (by rfl)).trans (zaq (fun hD => hn (hcl 24 _ rfl (hcl 26 _ rfl (hcl 29 _ rfl (hcl 30 _ rfl (hcl 31 _ rfl hD 30 dc) 29 dc) 26 dc) 24 dc) 23 dc)) zaw)) rfl)))))))))
         ·
          intro D b hn hd hcl
          obtain ⟨b8, hd16⟩ := b
          refine zaQ (zaa rfl (zaa rfl (zaa rfl (zaa rfl (zaa rfl (zaa (zaq (fun hD => hn (hcl 26 _ rfl (hcl 29 _ rfl (hcl 30 _ rfl (hcl 31 _ rfl (hcl 32 _ rfl hD 31 dc) 30 dc) 29 dc) 26 dc) 24 dc)) zaw) (zaa rfl (zaa rfl (zaa (zaq (fun hD => hn (hcl 26 _ rfl (hcl 29 _ rfl (hcl 30 _ rfl (hcl 31 _ rfl hD 30 dc) 29 dc) 26 dc) 24 dc)) zaw) rfl))))))))) ?_
          refine zaN (k := 7) zfb rfl dc (zab (m := 23) rfl rfl (hd 23 dc)) rfl rfl ?_
          exact zaR (b8, hd16) 24 (by rfl) (by rfl) rfl (congrArg (dl D) rfl) (zaa rfl (zaa rfl (zaa rfl (zaa rfl (zaa rfl (zaa ((zax (by rfl)).trans (zaq (fun hD => hn (hcl 26 _ rfl (hcl 29 _ rfl (hcl 30 _ rfl (hcl 31 _ rfl (hcl 32 _ rfl hD 31 dc) 30 dc) 29 dc) 26 dc) 24 dc)) zaw)) (zaa rfl (zaa rfl (zaa ((zax (by rfl)).trans (zaq (fun hD => hn (hcl 26 _ rfl (hcl 29 _ rfl (hcl 30 _ rfl (hcl 31 _ rfl hD 30 dc) 29 dc) 26 dc) 24 dc)) zaw)) rfl)))))))))
         ·
          intro D b hn hd hcl
          obtain ⟨b8, hd16⟩ := b
          refine zaQ (zaa rfl (zaa rfl (zaa rfl (zaa rfl (zaa rfl (zaa (zaq (fun hD => hn (hcl 26 _ rfl (hcl 29 _ rfl (hcl 30 _ rfl (hcl 31 _ rfl (hcl 32 _ rfl hD 31 dc) 30 dc) 29 dc) 26 dc) 25 dc)) zaw) (zaa rfl (zaa rfl (zaa (zaq (fun hD => hn (hcl 26 _ rfl (hcl 29 _ rfl (hcl 30 _ rfl (hcl 31 _ rfl hD 30 dc) 29 dc) 26 dc) 25 dc)) zaw) rfl))))))))) ?_
          refine zah rfl dc (zaE (by rfl) rfl) ?_
          exact zaR (b8, hd16) 25 (by rfl) (by rfl) rfl (congrArg (dl D) rfl) (zaa rfl (zaa rfl (zaa rfl (zaa rfl (zaa rfl (zaa ((zax (by rfl)).trans (zaq (fun hD => hn (hcl 26 _ rfl (hcl 29 _ rfl (hcl 30 _ rfl (hcl 31 _ rfl (hcl 32 _ rfl hD 31 dc) 30 dc) 29 dc) 26 dc) 25 dc)) zaw)) (zaa rfl (zaa rfl (zaa ((zax (by rfl)).trans (zaq (fun hD => hn (hcl 26 _ rfl (hcl 29 _ rfl (hcl 30 _ rfl (hcl 31 _ rfl hD 30 dc) 29 dc) 26 dc) 25 dc)) zaw)) rfl)))))))))
         ·
          intro D b hn hd hcl
          obtain ⟨b8, hd16⟩ := b
          refine zaQ (zaa rfl (zaa rfl (zaa rfl (zaa rfl (zaa rfl (zaa (zaq (fun hD => hn (hcl 29 _ rfl (hcl 30 _ rfl (hcl 31 _ rfl (hcl 32 _ rfl hD 31 dc) 30 dc) 29 dc) 26 dc)) zaw) (zaa rfl (zaa rfl (zaa (zaq (fun hD => hn (hcl 29 _ rfl (hcl 30 _ rfl (hcl 31 _ rfl hD 30 dc) 29 dc) 26 dc)) zaw) rfl))))))))) ?_
          refine zaz rfl dc (zab (m := 24) rfl rfl (hd 24 dc)) (zab (m := 25) rfl rfl (hd 25 dc)) (zbh (r := span1 + r7) (IntWalk.i64_in _ hg9)) ?_
          exact zaR (b8, hd16) 26 (by rfl) (by rfl) rfl (congrArg (dl D) rfl) (zaa rfl (zaa rfl (zaa rfl (zaa rfl (zaa rfl (zaa ((zax (by rfl)).trans (zaq (fun hD => hn (hcl 29 _ rfl (hcl 30 _ rfl (hcl 31 _ rfl (hcl 32 _ rfl hD 31 dc) 30 dc) 29 dc) 26 dc)) zaw)) (zaa rfl (zaa rfl (zaa ((zax (by rfl)).trans (zaq (fun hD => hn (hcl 29 _ rfl (hcl 30 _ rfl (hcl 31 _ rfl hD 30 dc) 29 dc) 26 dc)) zaw)) rfl)))))))))
         ·
          intro D b hn hd hcl
          obtain ⟨b8, hd16⟩ := b
          refine zaQ (zaa rfl (zaa rfl (zaa rfl (zaa rfl (zaa rfl (zaa (zaq (fun hD => hn (hcl 28 _ rfl (hcl 29 _ rfl (hcl 30 _ rfl (hcl 31 _ rfl (hcl 32 _ rfl hD 31 dc) 30 dc) 29 dc) 28 dc) 27 dc)) zaw) (zaa rfl (zaa rfl (zaa (zaq (fun hD => hn (hcl 28 _ rfl (hcl 29 _ rfl (hcl 30 _ rfl (hcl 31 _ rfl hD 30 dc) 29 dc) 28 dc) 27 dc)) zaw) rfl))))))))) ?_
          refine zar zfC rfl dc (zaE (by rfl) rfl) (show _ = 1 from rfl) ?_
          exact zaR (b8, hd16) 27 (by rfl) (by rfl) rfl (congrArg (dl D) rfl) (zaa rfl (zaa rfl (zaa rfl (zaa rfl (zaa rfl (zaa ((zax (by rfl)).trans (zaq (fun hD => hn (hcl 28 _ rfl (hcl 29 _ rfl (hcl 30 _ rfl (hcl 31 _ rfl (hcl 32 _ rfl hD 31 dc) 30 dc) 29 dc) 28 dc) 27 dc)) zaw)) (zaa rfl (zaa rfl (zaa ((zax (by rfl)).trans (zaq (fun hD => hn (hcl 28 _ rfl (hcl 29 _ rfl (hcl 30 _ rfl (hcl 31 _ rfl hD 30 dc) 29 dc) 28 dc) 27 dc)) zaw)) rfl)))))))))
         ·
          intro D b hn hd hcl
          obtain ⟨b8, hd16⟩ := b
          refine zaQ (zaa rfl (zaa rfl (zaa rfl (zaa rfl (zaa rfl (zaa (zaq (fun hD => hn (hcl 29 _ rfl (hcl 30 _ rfl (hcl 31 _ rfl (hcl 32 _ rfl hD 31 dc) 30 dc) 29 dc) 28 dc)) zaw) (zaa rfl (zaa rfl (zaa (zaq (fun hD => hn (hcl 29 _ rfl (hcl 30 _ rfl (hcl 31 _ rfl hD 30 dc) 29 dc) 28 dc)) zaw) rfl))))))))) ?_
          refine zaN (k := 7) zfb rfl dc (zab (m := 27) rfl rfl (hd 27 dc)) rfl rfl ?_
          exact zaR (b8, hd16) 28 (by rfl) (by rfl) rfl (congrArg (dl D) rfl) (zaa rfl (zaa rfl (zaa rfl (zaa rfl (zaa rfl (zaa ((zax (by rfl)).trans (zaq (fun hD => hn (hcl 29 _ rfl (hcl 30 _ rfl (hcl 31 _ rfl (hcl 32 _ rfl hD 31 dc) 30 dc) 29 dc) 28 dc)) zaw)) (zaa rfl (zaa rfl (zaa ((zax (by rfl)).trans (zaq (fun hD => hn (hcl 29 _ rfl (hcl 30 _ rfl (hcl 31 _ rfl hD 30 dc) 29 dc) 28 dc)) zaw)) rfl)))))))))
         ·
          intro D b hn hd hcl
          obtain ⟨b8, hd16⟩ := b
          refine zaQ (zaa rfl (zaa rfl (zaa rfl (zaa rfl (zaa rfl (zaa (zaq (fun hD => hn (hcl 30 _ rfl (hcl 31 _ rfl (hcl 32 _ rfl hD 31 dc) 30 dc) 29 dc)) zaw) (zaa rfl (zaa rfl (zaa (zaq (fun hD => hn (hcl 30 _ rfl (hcl 31 _ rfl hD 30 dc) 29 dc)) zaw) rfl))))))))) ?_
          refine zbe (v := .agg #[zI (span1 + r7), zI span2]) (ps := [(0, .tmp 145), (1, .tmp 147)]) rfl dc (evP.cons (zab (m := 26) rfl rfl (hd 26 dc)) (evP.cons (zab (m := 28) rfl rfl (hd 28 dc)) evP.nil)) (fun _ => by kernel_rfl) ?_
          exact zaR (b8, hd16) 29 (by rfl) (by rfl) rfl (congrArg (dl D) rfl) (zaa rfl (zaa rfl (zaa rfl (zaa rfl (zaa rfl (zaa ((zax (by rfl)).trans (zaq (fun hD => hn (hcl 30 _ rfl (hcl 31 _ rfl (hcl 32 _ rfl hD 31 dc) 30 dc) 29 dc)) zaw)) (zaa rfl (zaa rfl (zaa ((zax (by rfl)).trans (zaq (fun hD => hn (hcl 30 _ rfl (hcl 31 _ rfl hD 30 dc) 29 dc)) zaw)) rfl)))))))))
         ·
          intro D b hn hd hcl
          obtain ⟨b8, hd16⟩ := b
          refine zaQ (zaa rfl (zaa rfl (zaa rfl (zaa rfl (zaa rfl (zaa (zaq (fun hD => hn (hcl 31 _ rfl (hcl 32 _ rfl hD 31 dc) 30 dc)) zaw) (zaa rfl (zaa rfl (zaa (zaq (fun hD => hn (hcl 31 _ rfl hD 30 dc)) zaw) rfl))))))))) ?_
          refine zbe (v := .agg #[.string (zbn line1 r7 (line1.size : Int)), zI r7, zI ((p20.length : Int) - 1), zI ((p15.length : Int) - q1.From), zI (span1 + r7), zI span2]) (ps := [(0, .tmp 127), (1, .tmp 128), (2, .tmp 135), (3, .tmp 141), (4, .tmp 148)]) rfl dc (evP.cons (zab (m := 8) rfl rfl (hd 8 dc)) (evP.cons (zab (m := 9) rfl rfl (hd 9 dc)) (evP.cons (zab (m := 16) rfl rfl (hd 16 dc)) (evP.cons (zab (m := 22) rfl rfl (hd 22 dc)) (evP.cons (zab (m := 29) rfl rfl (hd 29 dc)) evP.nil))))) (fun _ => by kernel_rfl) ?_
          exact zaR (b8, hd16) 30 (by rfl) (by rfl) rfl (congrArg (dl D) rfl) (zaa rfl (zaa rfl (zaa rfl (zaa rfl (zaa rfl (zaa ((zax (by rfl)).trans (zaq (fun hD => hn (hcl 31 _ rfl (hcl 32 _ rfl hD 31 dc) 30 dc)) zaw)) (zaa rfl (zaa rfl (zaa ((zax (by rfl)).trans (zaq (fun hD => hn (hcl 31 _ rfl hD 30 dc)) zaw)) rfl)))))))))
         ·
          intro D b hn hd hcl
          obtain ⟨_, hd16⟩ := b
          refine zaQ (zaa rfl (zaa rfl (zaa rfl (zaa rfl (zaa rfl (zaa (zaq (fun hD => hn (hcl 32 _ rfl hD 31 dc)) zaw) (zaa rfl (zaa rfl (zaa (zaq hn zaw) rfl))))))))) ?_
          refine zbg (cs := [.string (zbn line1 r7 (line1.size : Int)), zI r7, zI ((p20.length : Int) - 1), zI ((p15.length : Int) - q1.From), zI (span1 + r7), zI span2]) (te := 36) (ps := [(0, .tmp 149)]) rfl dc (evP.cons (zab (m := 30) rfl rfl (hd 30 dc)) evP.nil) (fun _ => by kernel_rfl) (fun b8 => ?_)
          refine zd5 8 rfl rfl ?_
          show TO _ _ _ _ _ _ _ _ _ _ [cells b1 [zI 0, zI 0] 26, cells b4 [.string p4.text, hd3.v, hd4.v] 128, vec zaK 130 5 hd3.v p4.places, vec zaF 132 4 hd4.v p4.lines, cells b3 [.string p14, hd10.v, hd14.v, .string text1] 93, vec zam 36 6 hd10.v p15, vec zav 34 2 hd14.v p20, cells b5 [zI span1, zI span2] 34, cells b8 [.string (zbn line1 r7 (line1.size : Int)), zI r7, zI ((p20.length : Int) - 1), zI ((p15.length : Int) - q1.From), zI (span1 + r7), zI span2] 36]
          exact zaR (b8, hd16) 31 (by rfl) (by rfl) rfl (zao (fun _ => rfl) (zao (fun _ => rfl) (zao (fun _ => rfl) (zao (fun _ => rfl) (zao (fun _ => rfl) (zao (fun _ => rfl) (zao (fun _ => rfl) (zao (fun _ => rfl) (zao (fun _ => rfl) (zao (fun _ => rfl) (zao (fun _ => rfl) (zao (fun _ => rfl) (zao (fun _ => rfl) (zao (fun _ => rfl) (zao (fun _ => rfl) (zao (fun _ => rfl) (zao (fun _ => rfl) (zao (fun _ => rfl) (zao (fun _ => rfl) (zao (fun _ => rfl) (zao (fun _ => rfl) (zao (fun _ => rfl) (zao (fun _ => rfl) (zao (fun _ => rfl) (zao (fun _ => rfl) (zao (fun _ => rfl) (zao (fun _ => rfl) (zao (fun _ => rfl) (zao (fun _ => rfl) (zao (fun _ => rfl) (zao (fun _ => rfl) (zao (fun hD => absurd hD hn) (zao (fun _ => rfl) rfl))))))))))))))))))))))))))))))))) (zaa rfl (zaa rfl (zaa rfl (zaa rfl (zaa rfl (zaa ((zax (by rfl)).trans (zaq (fun hD => hn (hcl 32 _ rfl hD 31 dc)) zaw)) (zaa rfl (zaa rfl (zaa (zbb (Or.inr rfl) rfl) rfl)))))))))
         ·
          intro D b hn hd hcl
          obtain ⟨b8, _⟩ := b
          refine zaQ (zaa rfl (zaa rfl (zaa rfl (zaa rfl (zaa rfl (zaa (zaq hn zaw) (zaa rfl (zaa rfl (zaa (zbb (hd 31 dc) rfl) rfl))))))))) ?_
          refine zbr (k := 5) (k2 := 8) (ys := [(⟨zbn line1 r7 (line1.size : Int), r7, (p20.length : Int) - 1, (p15.length : Int) - q1.From, span1 + r7, span2⟩ : Gapi_Verse)]) Tryd.underlying57 zo9 zbI zfx rfl dc (zab (m := 5) rfl rfl (hd 5 dc)) (zab (m := 31) rfl rfl (hd 31 dc)) rfl rfl rfl rfl hg10 (fun v3 => ?_)
          refine zb7 (k := 5) rfl (fun hd16 he2 => ?_)
          subst he2
          exact zaR (b8, hd16) 32 (by rfl) (by rfl) rfl (zao (fun _ => rfl) (zao (fun _ => rfl) (zao (fun _ => rfl) (zao (fun _ => rfl) (zao (fun _ => rfl) (zao (fun _ => rfl) (zao (fun _ => rfl) (zao (fun _ => rfl) (zao (fun _ => rfl) (zao (fun _ => rfl) (zao (fun _ => rfl) (zao (fun _ => rfl) (zao (fun _ => rfl) (zao (fun _ => rfl) (zao (fun _ => rfl) (zao (fun _ => rfl) (zao (fun _ => rfl) (zao (fun _ => rfl) (zao (fun _ => rfl) (zao (fun _ => rfl) (zao (fun _ => rfl) (zao (fun _ => rfl) (zao (fun _ => rfl) (zao (fun _ => rfl) (zao (fun _ => rfl) (zao (fun _ => rfl) (zao (fun _ => rfl) (zao (fun _ => rfl) (zao (fun _ => rfl) (zao (fun _ => rfl) (zao (fun _ => rfl) (zao (fun _ => rfl) (zao (fun hD => absurd hD hn) rfl))))))))))))))))))))))))))))))))) (zaa rfl (zaa rfl (zaa rfl (zaa rfl (zaa rfl (zaa (zbb (Or.inr rfl) rfl) (zaa rfl (zaa rfl (zaa ((zax (by rfl)).trans (zbb (hd 31 dc) rfl)) rfl)))))))))
         intro D b hall
         obtain ⟨b8, hd16⟩ := b
         refine zaQ (zaa rfl (zaa rfl (zaa rfl (zaa rfl (zaa rfl (zaa (zbb (hall 32 dc) rfl) (zaa rfl (zaa rfl (zaa (zbb (hall 31 dc) rfl) rfl))))))))) (zaW rfl dc rfl (zar zbS rfl dc rfl (show _ = 0 from rfl) (zar zdB rfl dc rfl (show _ = 1 from rfl) ?_)))
         refine zbo (k := 4) (l' := [.string p14, hd16.v, hd14.v, .string text1]) zpv rfl rfl rfl rfl rfl (fun _ _ => rfl) rfl ?_
         refine zap (zaj (zai (zah rfl dc rfl (zah rfl dc rfl ?_))))
         obtain ⟨hg11, h⟩ := zcb h
         refine zaz rfl dc rfl rfl (zbh (r := (p15.length : Int) + 1) (IntWalk.i64_in _ hg11)) (zaW rfl dc rfl (zar zfC rfl dc rfl (show _ = (((p20.length : Int) - 1 : Int).toNat) * 2 + 1 from rfl) ?_))
         refine zfW (i := ((p20.length : Int) - 1 : Int).toNat) (j := 1) (k := 6) (q := q1) (q' := (⟨q1.From, (p15.length : Int) + 1⟩ : Gapi_Span)) zjh zbv rfl rfl rfl rfl (zcq hq8) rfl dc rfl (fun _ _ => rfl) ?_
         show TO _ _ _ _ _ _ _ _ _ _ [cells b1 [zI 0, zI 0] 26, cells b4 [.string p4.text, hd3.v, hd4.v] 128, vec zaK 130 5 hd3.v p4.places, vec zaF 132 4 hd4.v p4.lines, cells b3 [.string p14, hd16.v, hd14.v, .string text1] 93, vec zam 36 6 hd16.v (p15 ++ [(⟨zbn line1 r7 (line1.size : Int), r7, (p20.length : Int) - 1, (p15.length : Int) - q1.From, span1 + r7, span2⟩ : Gapi_Verse)]), vec zav 34 2 hd14.v (p20.set ((p20.length : Int) - 1 : Int).toNat (⟨q1.From, (p15.length : Int) + 1⟩ : Gapi_Span)), cells b5 [zI span1, zI span2] 34, cells b8 [.string (zbn line1 r7 (line1.size : Int)), zI r7, zI ((p20.length : Int) - 1), zI ((p15.length : Int) - q1.From), zI (span1 + r7), zI span2] 36]
         refine zap (zaA ?_)
         exact zaO (p14, p15 ++ [(⟨zbn line1 r7 (line1.size : Int), r7, (p20.length : Int) - 1, (p15.length : Int) - q1.From, span1 + r7, span2⟩ : Gapi_Verse)], p20.set ((p20.length : Int) - 1 : Int).toNat (⟨q1.From, (p15.length : Int) + 1⟩ : Gapi_Span), false, true, hd16, hd14) h rfl (zad rfl (zad rfl (zad rfl (zad rfl (zad rfl (zad rfl (zad rfl (zad rfl (zaH))))))))) (zal [0, 1, 2, 3, 4, 5, 6] kr rfl)
      ·
       rintro ⟨p17, p18, p19, first4, row4, hd12, hd13⟩ h
       rw [hj2] at h
       show TC _ _ _ _ _ ([]) _ _ [(0, .string text1), (3, zP b1), (4, zP b4), (6, zP b3), (7, .bool first4), (8, .bool row4), (30, zI r2), (31, zI x3)] [cells b1 [zI 0, zI 0] 26, cells b4 [.string p4.text, hd3.v, hd4.v] 128, vec zaK 130 5 hd3.v p4.places, vec zaF 132 4 hd4.v p4.lines, cells b3 [.string p17, hd12.v, hd13.v, .string text1] 93, vec zam 36 6 hd12.v p18, vec zav 34 2 hd13.v p19]
       refine zai ?_
       obtain ⟨hg12, h⟩ := zcb h
       refine zaz rfl dc rfl rfl (zbh (r := x3 + 1) (IntWalk.i64_in _ hg12)) (zah rfl dc rfl (zap ?_))
       subst hag1
       exact zbj (n1, p17, p18, p19, first4, row4, x3 + 1, hd12, hd13) h (Nat.lt_succ_self _) rfl (zad rfl (zad rfl (zad rfl (zad rfl (zad rfl (zad rfl (zad rfl (zad rfl (zaH))))))))) (zal [0, 1, 2, 3, 4, 5, 6] kr rfl)
     ·
      have h := za1 hb2 h
      refine zby (zaJ (zaJ (zaV ?_)))
      exact zaO (p14, p15, p16, b3, hd10, hd11) h rfl (zad rfl (zad rfl (zaH))) (zal [0, 4, 5, 6] kr rfl)
   ·
    rintro ⟨p1, p2, p3, b2, hd1, hd2⟩ h
    rw [hj1] at h
    show TC _ _ _ _ _ ([]) _ _ [(3, zP b1), (6, zP b2)] [cells b1 [zI 0, zI 0] 26, cells b2 [.string p1, hd1.v, hd2.v, .string text1] 93, vec zam 36 6 hd1.v p2, vec zav 34 2 hd2.v p3]
    refine zas (zai (zah rfl dc rfl ?_))
    refine zbe (v := .agg #[zI 0, zI 0]) (ps := []) rfl dc rfl (fun _ => by kernel_rfl) ?_
    refine zak rfl dc rfl (zaZ (k := 0) (vs := [zI 0, zI 0]) (l' := [zI 0, zI 0]) zf7 rfl rfl rfl rfl rfl (show _ ≤ _ by simp) rfl rfl (zap (zaj (zaX (zcR (by simp) ?_)))))
    refine zmU (As := [cells b2 [.string p1, hd1.v, hd2.v, .string text1] 93, vec zam 36 6 hd1.v p2, vec zav 34 2 hd2.v p3]) (zal [1, 2, 3] kr rfl) (zjb (enc := zau) (nest := zat) (t := 93) (x := (⟨p1, p2, p3, text1⟩ : Gpoem_Poem)) (b := b2) (hd := (hd1, hd2))) (fun _ _ => ?_)
    show TX _ _ _ _ _ _ _ [cells b1 [zI 0, zI 0] 26, emp, emp, emp, zco zau zat 93 (zP b2) (some (⟨p1, p2, p3, text1⟩ : Gpoem_Poem))]
    cases h
    exact za3 (rs := [.tmp 2, .cell 3 26]) (zP b2) (.inl rfl) Tryd.results13 (.cons (.tmp rfl) (.cons (.cells zhA (k := 0) rfl rfl rfl) .nil)) rfl (zal [4] kr rfl)
 ·
  exact fun b hb => hb.elim
end Go.Proofs.YtgfkogafkhbgnaaDoor
namespace Go.Proofs.YtgfkogafkhbgnaaDoor
open Go.RowKit Go.Lib
set_option linter.unusedVariables false
set_option linter.unusedSimpArgs false
theorem zcr {α : Type} {enc : α → List Value} {size k : Nat} {vv : Value} {xs : List α} {e : TypeId} (hz : ∀ x, (enc x).length = size) {C : Nat → Prop} {w : World} (h : (vec enc e size vv xs).P C w) : (zbk enc size vv k xs).P C w :=
  ⟨(zeS hz h).1, fun i x j v h1 h2 h3 => (zeS hz h).2 i x j v (Nat.zero_le _) h2 h3⟩
/-- Where a slice's records lie: a block's beginning, a place, what lies there. -/
structure Seat (α : Type) where
  vv : Value
  k : Nat
  L : List α
/-- The slice of that header can be read: xs. -/
def zej {α : Type} (enc : α → List Value) (size : Nat) (hd : Hd) (xs : List α) : Asn :=
  exA fun b : {b : Seat α // Vw b.vv b.L size b.k hd.v xs} => zbk enc size b.1.vv b.1.k b.1.L
theorem znb {α : Type} {enc : α → List Value} {size : Nat} {e : TypeId} {hd : Hd} {xs : List α} (hlen : ∀ x, (enc x).length = size) {C : Nat → Prop} {w : World} (h : (vec enc e size hd.v xs).P C w) : (zej enc size hd xs).P C w :=
  ⟨⟨⟨hd.v, 0, xs⟩, zjf h⟩, zeS hlen h⟩
section
variable {α η : Type} {enc : α × η → List Value} {nest nestR : α × η → List Asn} {e : TypeId} {size : Nat} {v : Value} {xs : List α} {zs : List (α × η)} {z : α × η}
/-- What the records zs own can be read. -/
def zbM (nestR : α × η → List Asn) (zs : List (α × η)) : Asn :=
  ⟨fun C w => (∀ k, C k → k < w.heap.size) ∧ ∀ z ∈ zs, ∀ A ∈ nestR z, ∃ D, A.P D w ∧ ∀ k, D k → C k,
   fun h k hk => h.1 k hk,
   fun {C w w'} h hs hk => ⟨fun k hC => Nat.lt_of_lt_of_le (h.1 k hC) hs, fun z hz A hA => by
     obtain ⟨D, h1, h2⟩ := h.2 z hz A hA
     exact ⟨D, A.loc h1 hs (fun k hD => hk k (h2 k hD)), h2⟩⟩⟩
/-- What is owned gives what is read. -/
def zmW (nest nestR : α × η → List Asn) : Prop := ∀ z C w, sepL (nest z) C w → ∀ A ∈ nestR z, ∃ D, A.P D w ∧ ∀ k, D k → C k
theorem zmD {C : Nat → Prop} {w : World} (h : sepL (zs.flatMap nest) C w) (hz : z ∈ zs) : ∃ D, sepL (nest z) D w ∧ ∀ k, D k → C k := by
  obtain ⟨i, hi⟩ := List.getElem?_of_mem hz
  obtain ⟨C1, C2, h1, _, _, h4⟩ := (zh4 hi).1 h
  exact ⟨C1, h1, fun k hk => (h4 k).2 (.inl hk)⟩
theorem zdr (hG : zmW nest nestR) {C : Nat → Prop} {w : World} (h : (own nest zs).P C w) : (zbM nestR zs).P C w :=
  ⟨(own nest zs).lt h, fun z hz A hA => by
    obtain ⟨D, h1, h2⟩ := zmD (show sepL (zs.flatMap nest) C w from h) hz
    obtain ⟨E, h3, h4⟩ := hG z D w h1 A hA
    exact ⟨E, h3, fun k hk => h2 k (h4 k hk)⟩⟩
variable {w0 : World} {K : Nat → Prop} {RD : List Asn} {i j : Nat}
theorem Rd.openEl (hr : Rd w0 K RD) (hi : RD[i]? = some (zbM nestR zs)) (hz : zs[j]? = some z) : Rd w0 K (RD ++ nestR z) :=
  hr.more hi fun C hC B hB => hC.2 z (List.mem_of_getElem? hz) B hB
theorem Rd.openSl {β : Type} {enc1 : β → List Value} {hd : Hd} {ys : List β} (hr : Rd w0 K RD) (hi : RD[i]? = some (zej enc1 size hd ys)) : ∃ vv k L, Vw vv L size k hd.v ys ∧ Rd w0 K (RD ++ [zbk enc1 size vv k L]) := by
  obtain ⟨C, ⟨⟨⟨vv, k, L⟩, hV⟩, hC⟩, hk⟩ := hr _ (List.mem_of_getElem? hi)
  refine ⟨vv, k, L, hV, hr.append fun B hB => ?_⟩
  rw [List.mem_singleton] at hB
  subst hB
  exact ⟨C, hC, hk⟩
theorem Rd.openN (hr : Rd w0 K RD) (hi : RD[i]? = some (zbx enc nest e size v xs)) (hlen : ∀ z, (enc z).length = size) (hG : zmW nest nestR) :
    ∃ zs : List (α × η), zs.map Prod.fst = xs ∧ Vw v zs size 0 v zs ∧ Rd w0 K (RD ++ [zbk enc size v 0 zs, zbM nestR zs]) := by
  obtain ⟨C, h, hk⟩ := hr _ (List.mem_of_getElem? hi)
  obtain ⟨zs, hz, h1⟩ := zhC C w0 h
  obtain ⟨C1, C2, g1, g2, _, g4⟩ := zgl h1
  refine ⟨zs, hz, zjf g1, hr.append fun B hB => ?_⟩
  rcases List.mem_cons.1 hB with rfl | hB
  · exact ⟨C1, zeS hlen g1, fun k h => hk k ((g4 k).2 (.inl h))⟩
  · rw [List.mem_singleton] at hB
    subst hB
    exact ⟨C2, zdr hG g2, fun k h => hk k ((g4 k).2 (.inr h))⟩
theorem zi1 {ys us : List (α × η)} (hm : ∀ z ∈ us, z ∈ zs ++ ys) {C1 C2 : Nat → Prop} {w : World} (h1 : (zbM nestR zs).P C1 w) (h2 : (zbM nestR ys).P C2 w) : (zbM nestR us).P (fun k => C1 k ∨ C2 k) w :=
  ⟨fun k hk => hk.elim (h1.1 k) (h2.1 k), fun z hz A hA => by
    rcases List.mem_append.1 (hm z hz) with hz | hz
    · obtain ⟨D, g1, g2⟩ := h1.2 z hz A hA
      exact ⟨D, g1, fun k hk => .inl (g2 k hk)⟩
    · obtain ⟨D, g1, g2⟩ := h2.2 z hz A hA
      exact ⟨D, g1, fun k hk => .inr (g2 k hk)⟩⟩
theorem Rd.two {ys us : List (α × η)} (hr : Rd w0 K RD) (hi : RD[i]? = some (zbM nestR zs)) (hj : RD[j]? = some (zbM nestR ys)) (hm : ∀ z ∈ us, z ∈ zs ++ ys) : Rd w0 K (RD ++ [zbM nestR us]) :=
  hr.append fun B hB => by
    rw [List.mem_singleton] at hB
    subst hB
    obtain ⟨C1, h1, k1⟩ := hr _ (List.mem_of_getElem? hi)
    obtain ⟨C2, h2, k2⟩ := hr _ (List.mem_of_getElem? hj)
    exact ⟨_, zi1 hm h1 h2, fun k hk => hk.elim (k1 k) (k2 k)⟩
theorem zgU {ys us : List (α × η)} (hG : zmW nest nestR) (hm : ∀ z ∈ us, z ∈ zs ++ ys) {C : Nat → Prop} {w : World} (h : sepL [own nest zs, own nest ys] C w) : (zbM nestR us).P C w := by
  obtain ⟨C1, C2, g1, g2, _, g4⟩ := zgl h
  have := zi1 hm (zdr hG g1) (zdr hG g2)
  have e : (fun k => C1 k ∨ C2 k) = C := funext fun k => propext (g4 k).symm
  rwa [e] at this
theorem zle {us ys : List (α × η)} (h : ∀ y ∈ us, y ∈ ys) (hz : z ∈ ys) : ∀ y ∈ us ++ [z], y ∈ ys := fun y hy => by
  rcases List.mem_append.1 hy with hy | hy
  · exact h y hy
  · rw [List.mem_singleton] at hy
    subst hy; exact hz
/-- A contract that reads a slice's records, closed: it reads the slice that owns them. -/
theorem zch {P : Program} {f : FuncId} {vs : List Value} {RD1 RD2 As : List Asn} {β : Type} {V : β → Value} {Bs : β → List Asn} (hlen : ∀ z, (enc z).length = size) (hG : zmW nest nestR)
    (h : ∀ zs : List (α × η), zs.map Prod.fst = xs → Vw v zs size 0 v zs → FnR P f vs (RD1 ++ [zbk enc size v 0 zs, zbM nestR zs] ++ RD2) As V Bs) : FnR P f vs (RD1 ++ [zbx enc nest e size v xs] ++ RD2) As V Bs := fun w C hR => by
  obtain ⟨zs, hz, hV, h1⟩ := hR.openN (i := RD1.length) (nest := nest) (e := e) (v := v) (xs := xs) (by simp) hlen hG
  refine h zs hz hV w C fun A hA => h1 A ?_
  simp only [List.mem_append, List.mem_cons, List.not_mem_nil, or_false] at hA ⊢
  rcases hA with (hA | hA) | hA
  · exact .inl (.inl (.inl hA))
  · exact .inr hA
  · exact .inl (.inr hA)
end
section
variable {α η : Type} {nest : α × η → List Asn} {zs ys : List (α × η)}
theorem zqc (xs : List α) (h : η) : (xs.map (fun x => (x, h))).map Prod.fst = xs := by
  rw [List.map_map]
  exact List.map_id _
theorem zqj {xs us : List α} (hz : zs.map Prod.fst = xs) (hy : ys.map Prod.fst = us) : (zs ++ ys).map Prod.fst = xs ++ us := by rw [List.map_append, hz, hy]
theorem zoP (C : Nat → Prop) (w : World) (h : sepL (own nest zs :: [own nest ys]) C w) : (own nest (zs ++ ys)).P C w := by
  obtain ⟨C1, C2, g1, g2, g3, g4⟩ := zgl h
  show sepL ((zs ++ ys).flatMap nest) C w
  rw [List.flatMap_append]
  exact zd6 g1 g2 g3 g4
end
section
variable {F : Fence} {P : Program} {w0 : World} {K : Nat → Prop} {N : Nat} {dfs : List Deferred} {Q : Exit → Act → World → Prop} {σ : List (Nat × Value)} {L : List Asn} {c : Code} {k : Nat} {α η : Type} {enc : α × η → List Value} {nest : α × η → List Asn} {t : TypeId} {p : Value} {m : Option α}
end
end Go.Proofs.YtgfkogafkhbgnaaDoor
namespace Go.Proofs.YtgfkogafkhbgnaaDoor
open Go.RowKit Go.Lib
def zaD (z : (List ByteArray) × Hd) : List Asn := [zej zbT 1 z.2 z.1]
theorem za5 : zmW zag zaD := by
  intro z C w h A hA
  simp only [zaD, List.mem_cons, List.not_mem_nil, or_false] at hA
  rcases hA with rfl
  · obtain ⟨D, h1, h2⟩ := zh5 h _ (List.mem_of_getElem? (i := 0) rfl); exact ⟨D, znb zgp h1, h2⟩
end Go.Proofs.YtgfkogafkhbgnaaDoor
