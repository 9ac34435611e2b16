/-
  Texts laid together: LqR, Rq, Lr, LqZ, PqC, PqD, PqE, LqE, LqB, Cb, LqG, PcW, Bytes, Bld, Gr, Bn, LqH, PqF, PqG, PqH, LqY. Nothing is assumed.
-/
import Derived.Test.YtgfkogafkhbgnaaDoorPoemKnown2
import Derived.Test.YtgfkogafkhbgnaaDoorProg
import Derived.Test.YtgfkogafkhbgnaaDoorPoemKnown1
import Derived.Lib.AppendStr
import Derived.Laws.IdiomStrings
import Derived.Lib.BufferRead
import Derived.Lib.Builder
import Derived.Outline
import Derived.Lib.UnsafeStr
import Derived.Lib.MakeNoZero
set_option maxRecDepth 100000
set_option maxHeartbeats 4000000
namespace Go.Proofs.YtgfkogafkhbgnaaDoor
open Go.RowKit Go.Lib
set_option linter.unusedVariables false
set_option linter.unusedSimpArgs false
def zd9 (s1 : ByteArray) : Option Bool :=
grd (s1.size ≤ 9223372036854775807) <|
some (decide (zlb s1 = (⟨#[]⟩ : ByteArray)))
theorem ze9 {s1 : ByteArray} {r : Bool} (h : zd9 s1 = some r) : FnP Tryd.prog 48 [.string s1] (.bool r) := by
 unfold zd9 at h
 refine FnP.intro Tryd.func48 rfl Tryd.ntmps48 (by simp) ?_
 intro w0 K
 refine zap (zad (zai rfl dc rfl (zan (zaf (zap (zad (zag rfl dc rfl ?_)))))))
 obtain ⟨hg1, h⟩ := zcX h
 refine za9 (v := .string (zlb s1)) (vs := [.string s1, .string (⟨#[32, 9]⟩ : ByteArray)]) rfl dc rfl rfl rfl zpb (zn8 s1 hg1) (zaz rfl dc rfl rfl zel (zai rfl dc rfl (zan (zaf (zaE ?_)))))
 cases h
 exact zaM (rs := [.tmp 2]) () (.inl rfl) Tryd.results48 (.cons (.tmp rfl) .nil) rfl Splits.nil
def zdt (s1 : ByteArray) : Option Bool :=
za1 (decide (s1 = (⟨#[35]⟩ : ByteArray))) (
some true
) (
zaO (zcU s1 (⟨#[35, 32]⟩ : ByteArray)) fun (r1 : Bool) =>
some r1
)
theorem zf4 {s1 : ByteArray} {r : Bool} (h : zdt s1 = some r) : FnP Tryd.prog 49 [.string s1] (.bool r) := by
 unfold zdt at h
 refine FnP.intro Tryd.func49 rfl Tryd.ntmps49 (by simp) ?_
 intro w0 K
 refine zap (zad (zai rfl dc rfl (zan (zaf (zap (zad (zag rfl dc rfl (zaz rfl dc rfl rfl zel (zag rfl dc rfl ?_)))))))))
 refine zaV (s := 5) rfl (fun hb1 => ?_) (fun hb1 => ?_)
 ·
  have h := za6 hb1 h
  refine zae rfl dc (zae rfl dc (zas (b := true) rfl dc rfl rfl (zai rfl dc rfl (zan (zaf (zaE ?_))))))
  cases h
  exact zaM (rs := [.tmp 2]) () (.inl rfl) Tryd.results49 (.cons (.tmp rfl) .nil) rfl Splits.nil
 ·
  have h := za7 hb1 h
  refine zag rfl dc rfl ?_
  obtain ⟨r1, hq1, h⟩ := zbT h
  refine za9 (v := .bool r1) (vs := [.string s1, .string (⟨#[35, 32]⟩ : ByteArray)]) rfl dc rfl rfl rfl zps (zf0 hq1) (zas (b := false) rfl dc rfl rfl (zai rfl dc rfl (zan (zaf (zaE ?_)))))
  cases h
  exact zaM (rs := [.tmp 2]) () (.inl rfl) Tryd.results49 (.cons (.tmp rfl) .nil) rfl Splits.nil
def zdE (s1 : ByteArray) (j1 : Int → Option Int) (ag1 : Int → Nat → Option Int) (n4 : Int) (m3 : Nat) : Option Int :=
za1 (decide (m3 < (pcs s1.data.toList).length)) (
zaO ((pcs s1.data.toList)[m3]?) fun (p1 : Pc) =>
za1 (((p1.r : Int) : Int) != 32) (
j1 n4
) (
grd (I64 (n4 + 1)) <|
ag1 (n4 + 1) (m3 + 1)
)
) (
j1 n4
)
def ze8 (s1 : ByteArray) : Option Int :=
zcj (fun (j1 : Int → Option Int) =>
zbK (fun _ _ => none) (zdE s1 j1) zdX 0 0
) (fun (n1 : Int) =>
some n1
)
theorem zh5 {s1 : ByteArray} {r : Int} (h : ze8 s1 = some r) : FnP Tryd.prog 51 [.string s1] (zI r) := by
 unfold ze8 at h
 refine FnP.intro Tryd.func51 rfl Tryd.ntmps51 (by simp) ?_
 intro w0 K
 obtain ⟨j1, hj1, h⟩ := zcH h
 refine zbN (β := Int) 2 rfl (fun b => j1 b = some r) (fun b => []) (fun b => [(3, zI b)]) (fun b => []) (fun cut => ?_) ?_
 ·
  refine zap (zad (zai rfl dc rfl (zan (zaf (zap (zad (zai rfl dc rfl (zan (zaf (cut (zap (zad (zag rfl dc rfl ?_)))))))))))))
  refine zcF Tryd.underlying9 rfl dc rfl (fun b1 => ?_)
  refine zan (zaf (zaT ?_))
  refine zct (β := Nat × Int × Nat) (fun b => zbK (fun _ _ => none) (zdE s1 j1) b.1 b.2.1 b.2.2 = some r) (fun b => []) (fun b => [(3, zI b.2.1), (7, zP b1)]) (fun b => [obj b1 (.stringIter s1 (zcc s1 b.2.2))]) (fun b => b.1) (zdX, 0, 0) h rfl (zah rfl (zah rfl (zaQ))) (zak [0] kr rfl) ?_
  rintro ⟨n5, n4, m3⟩ h
  cases n5 with
  | zero => exact zeH h
  | succ n5 =>
   obtain ⟨ag1, hag1⟩ : ∃ ag, ag = zbK (fun _ _ => none) (zdE s1 j1) n5 := ⟨_, rfl⟩
   have h : zdE s1 j1 ag1 n4 m3 = some r := by rw [hag1]; exact h
   unfold zdE at h
   show TC _ _ _ _ _ ([]) _ _ [(3, zI n4), (7, zP b1)] [obj b1 (.stringIter s1 (zcc s1 m3))]
   refine zap (zad ?_)
   refine ze5 (b := decide (m3 < (pcs s1.data.toList).length)) (fun hb1 => ?_) (fun hb1 => ?_)
   ·
    have h := za6 hb1 h
    obtain ⟨p1, hq1, h⟩ := zbT h
    refine zc9 (k := 0) (m := m3) (p := p1) rfl dc rfl rfl hq1 (zaL rfl dc rfl rfl (zan (zaf (zap (zaY rfl (zaI (zaf (zaT (zap (zad (zaL rfl dc rfl rfl (zai rfl dc rfl (zan ?_)))))))))))))
    refine zaf (zap (zap (zad (zag rfl dc rfl (zaz rfl dc rfl rfl zbk (zan (zaf ?_)))))))
    refine zaF rfl (fun hb2 => ?_) (fun hb2 => ?_)
    ·
     have h := za6 hb2 h
     refine zbA (zaR (zch dc (zaR (za2 ?_))))
     exact za3 n4 h rfl (zah rfl (zaQ)) Splits.nil
    ·
     have h := za7 hb2 h
     refine zaI (zaf (zad (zag rfl dc rfl ?_)))
     obtain ⟨hg1, h⟩ := zcX h
     refine zaz rfl dc rfl rfl (zbs (r := n4 + 1) (IntWalk.i64_in _ hg1)) (zai rfl dc rfl (zan (zaw ?_)))
     subst hag1
     exact zbq (n5, n4 + 1, m3 + 1) h (Nat.lt_succ_self _) rfl (zah rfl (zah rfl (zaQ))) (zak [0] kr rfl)
   ·
    have h := za7 hb1 h
    refine zep (k := 0) (m := m3) rfl dc rfl rfl (Nat.le_of_not_lt (of_decide_eq_false hb1)) (zaL rfl dc rfl rfl (zan (zaf (zap (za0 rfl (zbA (zaR (zaR (za2 ?_)))))))))
    exact za3 n4 h rfl (zah rfl (zaQ)) Splits.nil
 ·
  rintro n1 h
  rw [hj1] at h
  show TC _ _ _ _ _ ([]) _ _ [(3, zI n1)] []
  refine zap (zad (zag rfl dc rfl (zai rfl dc rfl (zan (zaf (zaE ?_))))))
  cases h
  exact zaM (rs := [.tmp 2]) () (.inl rfl) Tryd.results51 (.cons (.tmp rfl) .nil) rfl Splits.nil
def zea (text1 : ByteArray) (j1 : ByteArray → (List Gapi_Verse) → (List Gapi_Span) → Option ((Option Gpoem_Poem) × Gapi_Spot)) (p4 : Gplace_Map) (r2 : Int) (ag1 : ByteArray → (List Gapi_Verse) → (List Gapi_Span) → Bool → Bool → Int → Option ((Option Gpoem_Poem) × Gapi_Spot)) (p14 : ByteArray) (p15 : List Gapi_Verse) (p16 : List Gapi_Span) (first3 : Bool) (row3 : Bool) (x3 : Int) : Option ((Option Gpoem_Poem) × Gapi_Spot) :=
za1 (decide ((x3 : Int) < r2)) (
zcj (fun (j2 : ByteArray → (List Gapi_Verse) → (List Gapi_Span) → Bool → Bool → Option ((Option Gpoem_Poem) × Gapi_Spot)) =>
zcj (fun (j3 : Int → Int → ByteArray → Option ((Option Gpoem_Poem) × Gapi_Spot)) =>
zaO (zeh p4 x3) fun (r3 : (Gapi_Span × Int × Int)) =>
grd (0 ≤ (r3.1.From : Int) ∧ (r3.1.From : Int) ≤ r3.1.To ∧ (r3.1.To : Int) ≤ (text1.size : Int)) <|
zaO (zd9 (zdx text1 r3.1.From r3.1.To)) fun (r4 : Bool) =>
za1 (r4) (
j2 p14 p15 p16 first3 false
) (
za1 (decide ((1024 : Int) < ((zdx text1 r3.1.From r3.1.To).size : Int))) (
grd (I64 (r3.1.From + 1024)) <|
some (none, (⟨3, r3.1.From + 1024⟩ : Gapi_Spot))
) (
za1 (first3) (
zaO (zdt (zdx text1 r3.1.From r3.1.To)) fun (r5 : Bool) =>
za1 (r5) (
grd (0 ≤ (1 : Int) ∧ (1 : Int) ≤ ((zdx text1 r3.1.From r3.1.To).size : Int) ∧ (((zdx text1 r3.1.From r3.1.To).size : Int) : Int) ≤ ((zdx text1 r3.1.From r3.1.To).size : Int)) <|
zaO (zdy (zdx (zdx text1 r3.1.From r3.1.To) 1 ((zdx text1 r3.1.From r3.1.To).size : Int)) (⟨#[32]⟩ : ByteArray)) fun (r6 : ByteArray) =>
j2 r6 p15 p16 false row3
) (
za1 (((p15.length : Int) : Int) == 512) (
some (none, (⟨3, r3.1.From⟩ : Gapi_Spot))
) (
j3 r3.1.From r3.1.To (zdx text1 r3.1.From r3.1.To)
)
)
) (
za1 (((p15.length : Int) : Int) == 512) (
some (none, (⟨3, r3.1.From⟩ : Gapi_Spot))
) (
j3 r3.1.From r3.1.To (zdx text1 r3.1.From r3.1.To)
)
)
)
)
) (fun (span1 : Int) (span2 : Int) (line1 : ByteArray) =>
zcj (fun (j4 : (List Gapi_Span) → Option ((Option Gpoem_Poem) × Gapi_Spot)) =>
za1 (!row3) (
grd (p16.length + 1 ≤ 2147483648) <|
j4 (p16 ++ [(⟨(p15.length : Int), (p15.length : Int)⟩ : Gapi_Span)])
) (
j4 p16
)
) (fun (p20 : List Gapi_Span) =>
grd (I64 ((p20.length : Int) - 1)) <|
zaO (zfH p20 ((p20.length : Int) - 1)) fun (q1 : Gapi_Span) =>
zaO (ze8 line1) fun (r7 : Int) =>
grd (0 ≤ (r7 : Int) ∧ (r7 : Int) ≤ (line1.size : Int) ∧ ((line1.size : Int) : Int) ≤ (line1.size : Int)) <|
grd (I64 ((p20.length : Int) - 1)) <|
grd (I64 ((p15.length : Int) - q1.From)) <|
grd (I64 (span1 + r7)) <|
grd (p15.length + 1 ≤ 2147483648) <|
grd (I64 ((p15.length : Int) + 1)) <|
j2 p14 (p15 ++ [(⟨zdx line1 r7 (line1.size : Int), r7, (p20.length : Int) - 1, (p15.length : Int) - q1.From, span1 + r7, span2⟩ : Gapi_Verse)]) (p20.set ((p20.length : Int) - 1 : Int).toNat (⟨q1.From, (p15.length : Int) + 1⟩ : Gapi_Span)) false true
)
)
) (fun (p17 : ByteArray) (p18 : List Gapi_Verse) (p19 : List Gapi_Span) (first4 : Bool) (row4 : Bool) =>
grd (I64 (x3 + 1)) <|
ag1 p17 p18 p19 first4 row4 (x3 + 1)
)
) (
j1 p14 p15 p16
)
def zd1 (text1 : ByteArray) : Option ((Option Gpoem_Poem) × Gapi_Spot) :=
zaO (zf6 text1) fun (r1 : ((Option Gplace_Map) × Int)) =>
za1 ((r1.2 : Int) != 0) (
some (none, (⟨r1.2, 65536⟩ : Gapi_Spot))
) (
zcj (fun (j1 : ByteArray → (List Gapi_Verse) → (List Gapi_Span) → Option ((Option Gpoem_Poem) × Gapi_Spot)) =>
zaO (r1.1) fun (p4 : Gplace_Map) =>
zaO (zd3 p4) fun (r2 : Int) =>
zbK (fun _ _ _ _ _ _ => none) (zea text1 j1 p4 r2) zdX ByteArray.empty ([] : List Gapi_Verse) ([] : List Gapi_Span) true false 0
) (fun (p1 : ByteArray) (p2 : List Gapi_Verse) (p3 : List Gapi_Span) =>
some ((some (⟨p1, p2, p3, text1⟩ : Gpoem_Poem)), (⟨0, 0⟩ : Gapi_Spot))
)
)
theorem zeI {text1 : ByteArray} {r : ((Option Gpoem_Poem) × Gapi_Spot)} (h : zd1 text1 = some r) : Fn Tryd.prog 13 [.string text1] [] (fun v0 : Value => .tuple #[v0, .agg #[zI r.2.Err, zI r.2.At]]) (fun v0 => [za5 zac zab 93 v0 r.1]) := by
 unfold zd1 at h
 refine Fn.intro Tryd.func13 rfl Tryd.ntmps13 (by simp) ?_
 intro w0 K
 refine zap (zad (zai rfl dc rfl ?_))
 refine zbe zk6 rfl dc (fun b1 => ?_)
 refine zan (zaf ?_)
 refine zem (β := Unit) (l := 0) (fun _ => False) (fun _ => []) (fun _ => []) rfl ?_ ?_
 ·
  refine zap (zad (zag rfl dc rfl ?_))
  obtain ⟨r1, hq1, h⟩ := zbT h
  refine zcr (vs := [.string text1]) rfl dc rfl rfl rfl zpm (zi9 hq1) Splits.nil ?_
  rintro v1
  show TO _ _ _ _ _ _ _ _ _ _ [cells b1 [zI 0, zI 0] 26, za5 zb6 zb4 128 v1 r1.1]
  refine zbf (L' := [cells b1 [zI 0, zI 0] 26, za5 zb6 zb4 128 v1 r1.1]) (zak [0, 1] kr rfl) (zag rfl dc rfl (zaL rfl dc rfl rfl (zaL rfl dc rfl rfl (zai rfl dc rfl (zai rfl dc rfl (zan (zaf (zap (zap (zad (zag rfl dc rfl (zaz rfl dc rfl rfl zbk (zan ?_)))))))))))))
  refine zaf ?_
  refine zaF rfl (fun hb1 => ?_) (fun hb1 => ?_)
  ·
   have h := za6 hb1 h
   refine zap (zad (zag rfl dc rfl ?_))
   refine zba (v := .agg #[zI r1.2, zI 65536]) (ps := [(0, .tmp 24), (1, .const (zI 65536))]) rfl dc rfl (fun _ => by kernel_rfl) ?_
   refine zai rfl dc rfl (za8 (k := 0) (vs := [zI r1.2, zI 65536]) (l' := [zI r1.2, zI 65536]) ziy rfl rfl rfl rfl rfl (show _ ≤ _ by simp) rfl rfl (zan (zaf (zaE (zav (zbZ (by simp) (zbL zac zab 93 ?_)))))))
   show TX _ _ _ _ _ _ _ [cells b1 [zI r1.2, zI 65536] 26, za5 zb6 zb4 128 v1 r1.1, za5 zac zab 93 (.pointer none) none]
   cases h
   exact zaM (rs := [.tmp 2, .cell 3 26]) (.pointer none) (.inl rfl) Tryd.results13 (.cons (.tmp rfl) (.cons (.cells zjG (k := 0) rfl rfl rfl) .nil)) rfl (zak [2] kr rfl)
  ·
   have h := za7 hb1 h
   refine zaI (zaf ?_)
   obtain ⟨j1, hj1, h⟩ := zcH h
   refine zbN (β := ByteArray × (List Gapi_Verse) × (List Gapi_Span) × Nat × Hd × Hd) 3 rfl (fun b => j1 b.1 b.2.1 b.2.2.1 = some r) (fun b => []) (fun b => [(3, zP b1), (6, zP b.2.2.2.1)]) (fun b => [cells b1 [zI 0, zI 0] 26, cells b.2.2.2.1 [.string b.1, b.2.2.2.2.1.v, b.2.2.2.2.2.v, .string text1] 93, vec zal 36 6 b.2.2.2.2.1.v b.2.1, vec zaq 34 2 b.2.2.2.2.2.v b.2.2.1]) (fun cut => ?_) ?_
   ·
    refine zap (zad (zag rfl dc rfl ?_))
    refine zba (v := .agg #[.string ByteArray.empty, .slice none 0 0, .slice none 0 0, .string text1]) (ps := [(1, .tmp 26)]) rfl dc rfl (fun _ => by kernel_rfl) ?_
    refine zdF rfl dc rfl (fun b3 => ?_)
    refine zai rfl dc rfl (zan (zaf (zap (zad (zai rfl dc rfl (zai rfl dc rfl (zan (zaf (zap (zkz (zaf (cut (zap ?_)))))))))))))
    refine zad (zag rfl dc rfl ?_)
    obtain ⟨p4, hq2, h⟩ := zbT h
    refine zfR (As := [za5 zb6 zb4 128 v1 r1.1]) (zak [1] kr rfl) (zcT hq2) ?_
    rintro ⟨b4, hd3, hd4⟩ hv1
    subst hv1
    show TO _ _ _ _ _ _ _ _ _ _ [cells b1 [zI 0, zI 0] 26, emp, cells b3 [.string ByteArray.empty, .slice none 0 0, .slice none 0 0, .string text1] 93, cells b4 [.string p4.text, hd3.v, hd4.v] 128, vec zaH 130 5 hd3.v p4.places, vec zaD 132 4 hd4.v p4.lines]
    obtain ⟨r2, hq3, h⟩ := zbT h
    refine zbB (v := zI r2) (vs := [zP b4]) (Rd.nil : Rd _ _ []) rfl dc rfl rfl rfl zpl (zgo (bm1 := b4) (m1 := p4) (m1_h0 := hd3) (m1_h1 := hd4) hq3) (.own (zak [3] (by kernel_rfl) rfl) (fun _ _ h => sepL.one1.1 h) (.own (zak [4] (by kernel_rfl) rfl) (fun _ _ h => sepL.one1.1 h) (.own (zak [5] (by kernel_rfl) rfl) (fun _ _ h => sepL.one1.1 h) .nil))) ?_
    refine zag rfl dc rfl (zan (zaf (zaT (zgE (enc := zal) (e := 36) (size := 6) ?_))))
    show TC _ _ _ _ _ _ _ _ _ [cells b1 [zI 0, zI 0] 26, emp, cells b3 [.string ByteArray.empty, .slice none 0 0, .slice none 0 0, .string text1] 93, cells b4 [.string p4.text, hd3.v, hd4.v] 128, vec zaH 130 5 hd3.v p4.places, vec zaD 132 4 hd4.v p4.lines, vec zal 36 6 (.slice none 0 0) ([] : List Gapi_Verse)]
    refine zgE (enc := zaq) (e := 34) (size := 2) ?_
    show TC _ _ _ _ _ _ _ _ _ [cells b1 [zI 0, zI 0] 26, emp, cells b3 [.string ByteArray.empty, (.slice none 0 0), .slice none 0 0, .string text1] 93, cells b4 [.string p4.text, hd3.v, hd4.v] 128, vec zaH 130 5 hd3.v p4.places, vec zaD 132 4 hd4.v p4.lines, vec zal 36 6 (.slice none 0 0) ([] : List Gapi_Verse), vec zaq 34 2 (.slice none 0 0) ([] : List Gapi_Span)]
    refine zct (β := Nat × ByteArray × (List Gapi_Verse) × (List Gapi_Span) × Bool × Bool × Int × Hd × Hd) (fun b => zbK (fun _ _ _ _ _ _ => none) (zea text1 j1 p4 r2) b.1 b.2.1 b.2.2.1 b.2.2.2.1 b.2.2.2.2.1 b.2.2.2.2.2.1 b.2.2.2.2.2.2.1 = some r) (fun b => []) (fun b => [(0, .string text1), (3, zP b1), (4, zP b4), (6, zP b3), (7, .bool b.2.2.2.2.1), (8, .bool b.2.2.2.2.2.1), (30, zI r2), (31, zI b.2.2.2.2.2.2.1)]) (fun b => [cells b1 [zI 0, zI 0] 26, cells b4 [.string p4.text, hd3.v, hd4.v] 128, vec zaH 130 5 hd3.v p4.places, vec zaD 132 4 hd4.v p4.lines, cells b3 [.string b.2.1, b.2.2.2.2.2.2.2.1.v, b.2.2.2.2.2.2.2.2.v, .string text1] 93, vec zal 36 6 b.2.2.2.2.2.2.2.1.v b.2.2.1, vec zaq 34 2 b.2.2.2.2.2.2.2.2.v b.2.2.2.1]) (fun b => b.1) (zdX, ByteArray.empty, ([] : List Gapi_Verse), ([] : List Gapi_Span), true, false, 0, Hd.nil, Hd.nil) h rfl (zah rfl (zah rfl (zah rfl (zah rfl (zah rfl (zah rfl (zah rfl (zah rfl (zaQ))))))))) (zak [0, 3, 4, 5, 2, 6, 7] kr rfl) ?_
    rintro ⟨n1, p14, p15, p16, first3, row3, x3, hd10, hd11⟩ h
    cases n1 with
    | zero => exact zeH h
    | succ n1 =>
     obtain ⟨ag1, hag1⟩ : ∃ ag, ag = zbK (fun _ _ _ _ _ _ => none) (zea text1 j1 p4 r2) n1 := ⟨_, rfl⟩
     have h : zea text1 j1 p4 r2 ag1 p14 p15 p16 first3 row3 x3 = some r := by rw [hag1]; exact h
     unfold zea at h
     show TC _ _ _ _ _ ([]) _ _ [(0, .string text1), (3, zP b1), (4, zP b4), (6, zP b3), (7, .bool first3), (8, .bool row3), (30, zI r2), (31, zI x3)] [cells b1 [zI 0, zI 0] 26, cells b4 [.string p4.text, hd3.v, hd4.v] 128, vec zaH 130 5 hd3.v p4.places, vec zaD 132 4 hd4.v p4.lines, cells b3 [.string p14, hd10.v, hd11.v, .string text1] 93, vec zal 36 6 hd10.v p15, vec zaq 34 2 hd11.v p16]
     refine zap (zad (zaz rfl dc rfl rfl zcb (zan (zaf (zap ?_)))))
     refine zaF rfl (fun hb2 => ?_) (fun hb2 => ?_)
     ·
      have h := za6 hb2 h
      refine zaI (zaf ?_)
      obtain ⟨j2, hj2, h⟩ := zcH h
      refine zbN (β := ByteArray × (List Gapi_Verse) × (List Gapi_Span) × Bool × Bool × Hd × Hd) 0 rfl (fun b => j2 b.1 b.2.1 b.2.2.1 b.2.2.2.1 b.2.2.2.2.1 = some r) (fun b => []) (fun b => [(0, .string text1), (3, zP b1), (4, zP b4), (6, zP b3), (7, .bool b.2.2.2.1), (8, .bool b.2.2.2.2.1), (30, zI r2), (31, zI x3)]) (fun b => [cells b1 [zI 0, zI 0] 26, cells b4 [.string p4.text, hd3.v, hd4.v] 128, vec zaH 130 5 hd3.v p4.places, vec zaD 132 4 hd4.v p4.lines, cells b3 [.string b.1, b.2.2.2.2.2.1.v, b.2.2.2.2.2.2.v, .string text1] 93, vec zal 36 6 b.2.2.2.2.2.1.v b.2.1, vec zaq 34 2 b.2.2.2.2.2.2.v b.2.2.1]) (fun cut => ?_) ?_
      ·
       refine cut (zaT ?_)
       obtain ⟨j3, hj3, h⟩ := zcH h
       refine zbN (β := Int × Int × ByteArray × Nat) 3 rfl (fun b => j3 b.1 b.2.1 b.2.2.1 = some r) (fun b => []) (fun b => [(0, .string text1), (3, zP b1), (4, zP b4), (6, zP b3), (8, .bool row3), (10, zP b.2.2.2), (13, .string b.2.2.1), (30, zI r2), (31, zI x3)]) (fun b => [cells b1 [zI 0, zI 0] 26, cells b4 [.string p4.text, hd3.v, hd4.v] 128, vec zaH 130 5 hd3.v p4.places, vec zaD 132 4 hd4.v p4.lines, cells b3 [.string p14, hd10.v, hd11.v, .string text1] 93, vec zal 36 6 hd10.v p15, vec zaq 34 2 hd11.v p16, cells b.2.2.2 [zI b.1, zI b.2.1] 34]) (fun cut => ?_) ?_
       ·
        refine zap (zad (zag rfl dc rfl (zai rfl dc rfl (zan (zaf (zap (zad (zag rfl dc rfl (zag rfl dc rfl ?_)))))))))
        obtain ⟨r3, hq4, h⟩ := zbT h
        refine zbB (v := .tuple #[.agg #[zI r3.1.From, zI r3.1.To], zI r3.2.1, zI r3.2.2]) (vs := [zP b4, zI x3]) (Rd.nil : Rd _ _ []) rfl dc rfl rfl rfl zpk (zgJ (bm1 := b4) (m1 := p4) (m1_h0 := hd3) (m1_h1 := hd4) hq4) (.own (zak [1] (by kernel_rfl) rfl) (fun _ _ h => sepL.one1.1 h) (.own (zak [2] (by kernel_rfl) rfl) (fun _ _ h => sepL.one1.1 h) (.own (zak [3] (by kernel_rfl) rfl) (fun _ _ h => sepL.one1.1 h) .nil))) ?_
        refine zag rfl dc rfl (zaL rfl dc rfl rfl (zaL rfl dc rfl rfl (zaL rfl dc rfl rfl ?_)))
        refine zbe zlY rfl dc (fun b6 => ?_)
        refine za8 (k := 7) (vs := [zI r3.1.From, zI r3.1.To]) (l' := [zI r3.1.From, zI r3.1.To]) zjF rfl rfl rfl rfl rfl (show _ ≤ _ by simp) rfl rfl ?_
        show TO _ _ _ _ _ _ _ _ _ _ [cells b1 [zI 0, zI 0] 26, cells b4 [.string p4.text, hd3.v, hd4.v] 128, vec zaH 130 5 hd3.v p4.places, vec zaD 132 4 hd4.v p4.lines, cells b3 [.string p14, hd10.v, hd11.v, .string text1] 93, vec zal 36 6 hd10.v p15, vec zaq 34 2 hd11.v p16, cells b6 [zI r3.1.From, zI r3.1.To] 34]
        refine zai rfl dc rfl (zai rfl dc rfl (zan (zaf (zap (zad (zag rfl dc rfl (zam zeV rfl dc rfl (show _ = 0 from rfl) (zaP (k := 7) zcx rfl dc rfl rfl rfl (zam zcN rfl dc rfl (show _ = 1 from rfl) (zaP (k := 7) zcx rfl dc rfl rfl rfl ?_))))))))))
        obtain ⟨hg1, h⟩ := zcX h
        refine zdi rfl dc rfl rfl rfl (zcw (i := r3.1.From) (j := r3.1.To) Tryd.underlying9 (.inr rfl) (.inr rfl) hg1) (zai rfl dc rfl (zan (zaf (cut (zaT (zap (zad (zag rfl dc rfl ?_))))))))
        obtain ⟨r4, hq5, h⟩ := zbT h
        refine za9 (v := .bool r4) (vs := [.string (zdx text1 r3.1.From r3.1.To)]) rfl dc rfl rfl rfl znx (ze9 hq5) (zai rfl dc rfl (zan (zaf ?_)))
        refine zaF rfl (fun hb3 => ?_) (fun hb3 => ?_)
        ·
         have h := za6 hb3 h
         refine zap (zad (zai rfl dc rfl (zan (zaf (zbA (zch dc (zaR (za2 ?_))))))))
         exact za3 (p14, p15, p16, first3, false, hd10, hd11) h rfl (zah rfl (zah rfl (zah rfl (zah rfl (zah rfl (zah rfl (zah rfl (zah rfl (zaQ))))))))) (zak [0, 1, 2, 3, 4, 5, 6] kr rfl)
        ·
         have h := za7 hb3 h
         refine zap (zad (zag rfl dc rfl (zbt rfl dc rfl Tryd.underlying9 (zaz rfl dc rfl rfl zcO (zai rfl dc rfl (zan (zaf ?_)))))))
         refine zaF rfl (fun hb4 => ?_) (fun hb4 => ?_)
         ·
          have h := za6 hb4 h
          refine zap ?_
          obtain ⟨hg2, h⟩ := zcX h
          refine zcm 5 [(0, 54, zP b6), (1, 55, zI r3.1.From), (2, 56, zI (r3.1.From + 1024)), (3, 57, .agg #[zI 3, zI (r3.1.From + 1024)]), (4, 2, .pointer none)] mixed kr kr dc (by rfl) kr kr (zao ?_ (zao ?_ (zao ?_ (zao ?_ (zao ?_ DrawPre.nil))))) ?_
          ·
           intro D hn hd hcl hu hi
           refine zam zeV rfl dc (zaS (by rfl) rfl) (show _ = 0 from rfl) ?_
           exact zar 0 hu hi rfl
          ·
           intro D hn hd hcl hu hi
           refine zaP (k := 7) zcx rfl dc (zaj (m := 0) hu rfl (hd 0 dc)) rfl rfl ?_
           exact zar 1 hu hi rfl
          ·
           intro D hn hd hcl hu hi
           refine zaz rfl dc (zaj (m := 1) hu rfl (hd 1 dc)) rfl (zbs (r := r3.1.From + 1024) (IntWalk.i64_in _ hg2)) ?_
           exact zar 2 hu hi rfl
          ·
           intro D hn hd hcl hu hi
           refine zba (v := .agg #[zI 3, zI (r3.1.From + 1024)]) (ps := [(0, .const (zI 3)), (1, .tmp 56)]) rfl dc (evP.cons rfl (evP.cons (zaj (m := 2) hu rfl (hd 2 dc)) evP.nil)) (fun _ => by kernel_rfl) ?_
           exact zar 3 hu hi rfl
          ·
           intro D hn hd hcl hu hi
           refine zai rfl dc rfl ?_
           exact zar 4 hu hi rfl
          refine za8 (k := 0) (vs := [zI 3, zI (r3.1.From + 1024)]) (l' := [zI 3, zI (r3.1.From + 1024)]) ziy rfl rfl rfl rfl rfl (show _ ≤ _ by simp) rfl rfl (zan (zaf (zaE (zay (zav (zay (zav (zav (zay (zav (zbZ (by simp) (zbL zac zab 93 ?_))))))))))))
          show TX _ _ _ _ _ _ _ [cells b1 [zI 3, zI (r3.1.From + 1024)] 26, cells b4 [.string p4.text, hd3.v, hd4.v] 128, vec zaH 130 5 hd3.v p4.places, vec zaD 132 4 hd4.v p4.lines, cells b3 [.string p14, hd10.v, hd11.v, .string text1] 93, vec zal 36 6 hd10.v p15, vec zaq 34 2 hd11.v p16, cells b6 [zI r3.1.From, zI r3.1.To] 34, za5 zac zab 93 (.pointer none) none]
          cases h
          exact zaM (rs := [.tmp 2, .cell 3 26]) (.pointer none) (.inl rfl) Tryd.results13 (.cons (.tmp rfl) (.cons (.cells zjG (k := 0) rfl rfl rfl) .nil)) rfl (zak [8] kr rfl)
         ·
          have h := za7 hb4 h
          refine zap (zad (zag rfl dc rfl (zag rfl dc rfl ?_)))
          refine zaV (s := 60) rfl (fun hb5 => ?_) (fun hb5 => ?_)
          ·
           have h := za6 hb5 h
           refine zag rfl dc rfl ?_
           obtain ⟨r5, hq6, h⟩ := zbT h
           refine za9 (v := .bool r5) (vs := [.string (zdx text1 r3.1.From r3.1.To)]) rfl dc rfl rfl rfl zou (zf4 hq6) (zas (b := true) rfl dc rfl rfl (zai rfl dc rfl (zan (zaf ?_))))
           refine zaF rfl (fun hb6 => ?_) (fun hb6 => ?_)
           ·
            have h := za6 hb6 h
            refine zap (zad (zai rfl dc rfl (zan (zaf (zap (zad (zag rfl dc rfl (zag rfl dc rfl ?_))))))))
            obtain ⟨hg3, h⟩ := zcX h
            refine zdi rfl dc rfl rfl rfl (zcw (i := 1) (j := ((zdx text1 r3.1.From r3.1.To).size : Int)) Tryd.underlying9 (.inr rfl) (.inl ⟨rfl, rfl⟩) hg3) ?_
            obtain ⟨r6, hq7, h⟩ := zbT h
            refine za9 (v := .string r6) (vs := [.string (zdx (zdx text1 r3.1.From r3.1.To) 1 ((zdx text1 r3.1.From r3.1.To).size : Int)), .string (⟨#[32]⟩ : ByteArray)]) rfl dc rfl rfl rfl zpj (zfx hq7) (zaC rfl dc rfl (zam zbG rfl dc rfl (show _ = 0 from rfl) (zam zeU rfl dc rfl (show _ = 0 from rfl) ?_)))
            refine zaN (k := 4) (l' := [.string r6, hd10.v, hd11.v, .string text1]) znW rfl rfl rfl rfl rfl (fun _ _ => rfl) rfl ?_
            refine zan (zaf (zbA (zch dc (zaR (za2 ?_)))))
            exact za3 (r6, p15, p16, false, row3, hd10, hd11) h rfl (zah rfl (zah rfl (zah rfl (zah rfl (zah rfl (zah rfl (zah rfl (zah rfl (zaQ))))))))) (zak [0, 1, 2, 3, 4, 5, 6] kr rfl)
           ·
            have h := za7 hb6 h
            refine zap (zad (zag rfl dc rfl (zaC rfl dc rfl (zam zbG rfl dc rfl (show _ = 0 from rfl) (zam zcY rfl dc rfl (show _ = 1 from rfl) (zaP (k := 4) zfn rfl dc rfl rfl rfl (zeC (k := 5) rfl dc rfl rfl Tryd.underlying57 (zaz rfl dc rfl rfl zaW (zai rfl dc rfl (zan (zaf ?_)))))))))))
            refine zaF rfl (fun hb7 => ?_) (fun hb7 => ?_)
            ·
             have h := za6 hb7 h
             refine zap ?_
             refine zcm 4 [(0, 79, zP b6), (1, 80, zI r3.1.From), (2, 81, .agg #[zI 3, zI r3.1.From]), (3, 2, .pointer none)] mixed kr kr dc (by rfl) kr kr (zao ?_ (zao ?_ (zao ?_ (zao ?_ DrawPre.nil)))) ?_
             ·
              intro D hn hd hcl hu hi
              refine zam zeV rfl dc (zaS (by rfl) rfl) (show _ = 0 from rfl) ?_
              exact zar 0 hu hi rfl
             ·
              intro D hn hd hcl hu hi
              refine zaP (k := 7) zcx rfl dc (zaj (m := 0) hu rfl (hd 0 dc)) rfl rfl ?_
              exact zar 1 hu hi rfl
             ·
              intro D hn hd hcl hu hi
              refine zba (v := .agg #[zI 3, zI r3.1.From]) (ps := [(0, .const (zI 3)), (1, .tmp 80)]) rfl dc (evP.cons rfl (evP.cons (zaj (m := 1) hu rfl (hd 1 dc)) evP.nil)) (fun _ => by kernel_rfl) ?_
              exact zar 2 hu hi rfl
             ·
              intro D hn hd hcl hu hi
              refine zai rfl dc rfl ?_
              exact zar 3 hu hi rfl
             refine za8 (k := 0) (vs := [zI 3, zI r3.1.From]) (l' := [zI 3, zI r3.1.From]) ziy rfl rfl rfl rfl rfl (show _ ≤ _ by simp) rfl rfl (zan (zaf (zaE (zay (zav (zay (zav (zav (zay (zav (zbZ (by simp) (zbL zac zab 93 ?_))))))))))))
             show TX _ _ _ _ _ _ _ [cells b1 [zI 3, zI r3.1.From] 26, cells b4 [.string p4.text, hd3.v, hd4.v] 128, vec zaH 130 5 hd3.v p4.places, vec zaD 132 4 hd4.v p4.lines, cells b3 [.string p14, hd10.v, hd11.v, .string text1] 93, vec zal 36 6 hd10.v p15, vec zaq 34 2 hd11.v p16, cells b6 [zI r3.1.From, zI r3.1.To] 34, za5 zac zab 93 (.pointer none) none]
             cases h
             exact zaM (rs := [.tmp 2, .cell 3 26]) (.pointer none) (.inl rfl) Tryd.results13 (.cons (.tmp rfl) (.cons (.cells zjG (k := 0) rfl rfl rfl) .nil)) rfl (zak [8] kr rfl)
            ·
             have h := za7 hb7 h
             refine zaI (zaw ?_)
             exact za3 (r3.1.From, r3.1.To, zdx text1 r3.1.From r3.1.To, b6) h rfl (zah rfl (zah rfl (zah rfl (zah rfl (zah rfl (zah rfl (zah rfl (zah rfl (zah rfl (zaQ)))))))))) (zak [0, 1, 2, 3, 4, 5, 6, 7] kr rfl)
          ·
           have h := za7 hb5 h
           refine zae rfl dc (zae rfl dc (zas (b := false) rfl dc rfl rfl (zai rfl dc rfl (zan (zaf (za0 rfl (zap (zad (zag rfl dc rfl (zaC rfl dc rfl (zam zbG rfl dc rfl (show _ = 0 from rfl) (zam zcY rfl dc rfl (show _ = 1 from rfl) (zaP (k := 4) zfn rfl dc rfl rfl rfl ?_)))))))))))))
           refine zeC (k := 5) rfl dc rfl rfl Tryd.underlying57 (zaz rfl dc rfl rfl zaW (zai rfl dc rfl (zan (zaf ?_))))
           refine zaF rfl (fun hb8 => ?_) (fun hb8 => ?_)
           ·
            have h := za6 hb8 h
            refine zap ?_
            refine zcm 4 [(0, 79, zP b6), (1, 80, zI r3.1.From), (2, 81, .agg #[zI 3, zI r3.1.From]), (3, 2, .pointer none)] mixed kr kr dc (by rfl) kr kr (zao ?_ (zao ?_ (zao ?_ (zao ?_ DrawPre.nil)))) ?_
            ·
             intro D hn hd hcl hu hi
             refine zam zeV rfl dc (zaS (by rfl) rfl) (show _ = 0 from rfl) ?_
             exact zar 0 hu hi rfl
            ·
             intro D hn hd hcl hu hi
             refine zaP (k := 7) zcx rfl dc (zaj (m := 0) hu rfl (hd 0 dc)) rfl rfl ?_
             exact zar 1 hu hi rfl
            ·
             intro D hn hd hcl hu hi
             refine zba (v := .agg #[zI 3, zI r3.1.From]) (ps := [(0, .const (zI 3)), (1, .tmp 80)]) rfl dc (evP.cons rfl (evP.cons (zaj (m := 1) hu rfl (hd 1 dc)) evP.nil)) (fun _ => by kernel_rfl) ?_
             exact zar 2 hu hi rfl
            ·
             intro D hn hd hcl hu hi
             refine zai rfl dc rfl ?_
             exact zar 3 hu hi rfl
            refine za8 (k := 0) (vs := [zI 3, zI r3.1.From]) (l' := [zI 3, zI r3.1.From]) ziy rfl rfl rfl rfl rfl (show _ ≤ _ by simp) rfl rfl (zan (zaf (zaE (zay (zav (zay (zav (zav (zay (zav (zbZ (by simp) (zbL zac zab 93 ?_))))))))))))
            show TX _ _ _ _ _ _ _ [cells b1 [zI 3, zI r3.1.From] 26, cells b4 [.string p4.text, hd3.v, hd4.v] 128, vec zaH 130 5 hd3.v p4.places, vec zaD 132 4 hd4.v p4.lines, cells b3 [.string p14, hd10.v, hd11.v, .string text1] 93, vec zal 36 6 hd10.v p15, vec zaq 34 2 hd11.v p16, cells b6 [zI r3.1.From, zI r3.1.To] 34, za5 zac zab 93 (.pointer none) none]
            cases h
            exact zaM (rs := [.tmp 2, .cell 3 26]) (.pointer none) (.inl rfl) Tryd.results13 (.cons (.tmp rfl) (.cons (.cells zjG (k := 0) rfl rfl rfl) .nil)) rfl (zak [8] kr rfl)
           ·
            have h := za7 hb8 h
            refine zaI (zaw ?_)
            exact za3 (r3.1.From, r3.1.To, zdx text1 r3.1.From r3.1.To, b6) h rfl (zah rfl (zah rfl (zah rfl (zah rfl (zah rfl (zah rfl (zah rfl (zah rfl (zah rfl (zaQ)))))))))) (zak [0, 1, 2, 3, 4, 5, 6, 7] kr rfl)
       ·
        rintro ⟨span1, span2, line1, b5⟩ h
        rw [hj3] at h
        show TC _ _ _ _ _ ([]) _ _ [(0, .string text1), (3, zP b1), (4, zP b4), (6, zP b3), (8, .bool row3), (10, zP b5), (13, .string line1), (30, zI r2), (31, zI x3)] [cells b1 [zI 0, zI 0] 26, cells b4 [.string p4.text, hd3.v, hd4.v] 128, vec zaH 130 5 hd3.v p4.places, vec zaD 132 4 hd4.v p4.lines, cells b3 [.string p14, hd10.v, hd11.v, .string text1] 93, vec zal 36 6 hd10.v p15, vec zaq 34 2 hd11.v p16, cells b5 [zI span1, zI span2] 34]
        obtain ⟨j4, hj4, h⟩ := zcH h
        refine zbN (β := (List Gapi_Span) × Hd) 2 rfl (fun b => j4 b.1 = some r) (fun b => []) (fun b => [(0, .string text1), (3, zP b1), (4, zP b4), (6, zP b3), (7, .bool false), (10, zP b5), (13, .string line1), (14, zI (p15.length : Int)), (30, zI r2), (31, zI x3)]) (fun b => [cells b1 [zI 0, zI 0] 26, cells b4 [.string p4.text, hd3.v, hd4.v] 128, vec zaH 130 5 hd3.v p4.places, vec zaD 132 4 hd4.v p4.lines, cells b3 [.string p14, hd10.v, b.2.v, .string text1] 93, vec zal 36 6 hd10.v p15, vec zaq 34 2 b.2.v b.1, cells b5 [zI span1, zI span2] 34]) (fun cut => ?_) ?_
        ·
         refine zap (zad (zai rfl dc rfl (zan (zaf (zap (zad (zag rfl dc rfl (zaC rfl dc rfl (zam zbG rfl dc rfl (show _ = 0 from rfl) (zam zcY rfl dc rfl (show _ = 1 from rfl) (zaP (k := 4) zfn rfl dc rfl rfl rfl (zeC (k := 5) rfl dc rfl rfl Tryd.underlying57 (zai rfl dc rfl ?_)))))))))))))
         refine zan (zaf (cut (zap (zad (zag rfl dc rfl (zdZ rfl dc rfl zcG (zan (zaf ?_))))))))
         refine zaF rfl (fun hb9 => ?_) (fun hb9 => ?_)
         ·
          have h := za6 hb9 h
          refine zad (zag rfl dc rfl (zag rfl dc rfl (zaC rfl dc rfl (zam zbG rfl dc rfl (show _ = 0 from rfl) (zam zgL rfl dc rfl (show _ = 2 from rfl) (zaP (k := 4) zlk rfl dc rfl rfl rfl (zag rfl dc rfl (zag rfl dc rfl ?_))))))))
          refine zba (v := .agg #[zI (p15.length : Int), zI (p15.length : Int)]) (ps := [(0, .tmp 96), (1, .tmp 97)]) rfl dc rfl (fun _ => by kernel_rfl) ?_
          refine zbC (cs := [zI (p15.length : Int), zI (p15.length : Int)]) (te := 34) (ps := [(0, .tmp 98)]) rfl dc rfl (fun _ => by kernel_rfl) (fun b7 => ?_)
          obtain ⟨hg4, h⟩ := zcX h
          refine zcS (k := 6) (k2 := 8) (ys := [(⟨(p15.length : Int), (p15.length : Int)⟩ : Gapi_Span)]) Tryd.underlying89 zpx zd5 zgR rfl dc rfl rfl rfl rfl rfl rfl hg4 (fun v2 => ?_)
          refine zef (k := 6) rfl (fun hd15 he1 => ?_)
          subst he1
          show TO _ _ _ _ _ _ _ _ _ _ [cells b1 [zI 0, zI 0] 26, cells b4 [.string p4.text, hd3.v, hd4.v] 128, vec zaH 130 5 hd3.v p4.places, vec zaD 132 4 hd4.v p4.lines, cells b3 [.string p14, hd10.v, hd11.v, .string text1] 93, vec zal 36 6 hd10.v p15, vec zaq 34 2 hd15.v (p16 ++ [(⟨(p15.length : Int), (p15.length : Int)⟩ : Gapi_Span)]), cells b5 [zI span1, zI span2] 34, cells b7 [zI (p15.length : Int), zI (p15.length : Int)] 34]
          refine zaC rfl dc rfl (zam zbG rfl dc rfl (show _ = 0 from rfl) (zam zgL rfl dc rfl (show _ = 2 from rfl) ?_))
          refine zaN (k := 4) (l' := [.string p14, hd10.v, hd15.v, .string text1]) zoZ rfl rfl rfl rfl rfl (fun _ _ => rfl) rfl ?_
          refine zan ?_
          exact za3 (p16 ++ [(⟨(p15.length : Int), (p15.length : Int)⟩ : Gapi_Span)], hd15) h rfl (zah rfl (zah rfl (zah rfl (zah rfl (zah rfl (zah rfl (zah rfl (zah rfl (zah rfl (zah rfl (zaQ))))))))))) (zak [0, 1, 2, 3, 4, 5, 6, 7] kr rfl)
         ·
          have h := za7 hb9 h
          refine zaI ?_
          exact za3 (p16, hd11) h rfl (zah rfl (zah rfl (zah rfl (zah rfl (zah rfl (zah rfl (zah rfl (zah rfl (zah rfl (zah rfl (zaQ))))))))))) (zak [0, 1, 2, 3, 4, 5, 6, 7] kr rfl)
        ·
         rintro ⟨p20, hd14⟩ h
         rw [hj4] at h
         show TC _ _ _ _ _ ([]) _ _ [(0, .string text1), (3, zP b1), (4, zP b4), (6, zP b3), (7, .bool false), (10, zP b5), (13, .string line1), (14, zI (p15.length : Int)), (30, zI r2), (31, zI x3)] [cells b1 [zI 0, zI 0] 26, cells b4 [.string p4.text, hd3.v, hd4.v] 128, vec zaH 130 5 hd3.v p4.places, vec zaD 132 4 hd4.v p4.lines, cells b3 [.string p14, hd10.v, hd14.v, .string text1] 93, vec zal 36 6 hd10.v p15, vec zaq 34 2 hd14.v p20, cells b5 [zI span1, zI span2] 34]
         refine zap (zad (zai rfl dc rfl (zan (zaf (zap ?_)))))
         obtain ⟨hg5, h⟩ := zcX h
         obtain ⟨q1, hq8, h⟩ := zbT h
         refine zcm 12 [(0, 104, zP b3), (1, 105, zP b3), (2, 106, zP b3), (3, 107, .pointer (some ⟨b3, 2, none⟩)), (4, 108, hd14.v), (5, 109, zP b3), (6, 110, zP b3), (7, 111, zP b3), (8, 112, .pointer (some ⟨b3, 2, none⟩)), (9, 113, hd14.v), (10, 114, zI (p20.length : Int)), (11, 115, zI ((p20.length : Int) - 1))] mixed kr kr dc (by rfl) kr kr (zao ?_ (zao ?_ (zao ?_ (zao ?_ (zao ?_ (zao ?_ (zao ?_ (zao ?_ (zao ?_ (zao ?_ (zao ?_ (zao ?_ DrawPre.nil)))))))))))) ?_
         ·
          intro D hn hd hcl hu hi
          refine zag rfl dc (zaS (by rfl) rfl) ?_
          exact zar 0 hu hi rfl
         ·
          intro D hn hd hcl hu hi
          refine zaC rfl dc (zaj (m := 0) hu rfl (hd 0 dc)) ?_
          exact zar 1 hu hi rfl
         ·
          intro D hn hd hcl hu hi
          refine zam zbG rfl dc (zaj (m := 1) hu rfl (hd 1 dc)) (show _ = 0 from rfl) ?_
          exact zar 2 hu hi rfl
         ·
          intro D hn hd hcl hu hi
          refine zam zgL rfl dc (zaj (m := 2) hu rfl (hd 2 dc)) (show _ = 2 from rfl) ?_
          exact zar 3 hu hi rfl
         ·
          intro D hn hd hcl hu hi
          refine zaP (k := 4) zlk rfl dc (zaj (m := 3) hu rfl (hd 3 dc)) rfl rfl ?_
          exact zar 4 hu hi rfl
         ·
          intro D hn hd hcl hu hi
          refine zag rfl dc (zaS (by rfl) rfl) ?_
          exact zar 5 hu hi rfl
         ·
          intro D hn hd hcl hu hi
          refine zaC rfl dc (zaj (m := 5) hu rfl (hd 5 dc)) ?_
          exact zar 6 hu hi rfl
         ·
          intro D hn hd hcl hu hi
          refine zam zbG rfl dc (zaj (m := 6) hu rfl (hd 6 dc)) (show _ = 0 from rfl) ?_
          exact zar 7 hu hi rfl
         ·
          intro D hn hd hcl hu hi
          refine zam zgL rfl dc (zaj (m := 7) hu rfl (hd 7 dc)) (show _ = 2 from rfl) ?_
          exact zar 8 hu hi rfl
         ·
          intro D hn hd hcl hu hi
          refine zaP (k := 4) zlk rfl dc (zaj (m := 8) hu rfl (hd 8 dc)) rfl rfl ?_
          exact zar 9 hu hi rfl
         ·
          intro D hn hd hcl hu hi
          refine zeC (k := 6) rfl dc (zaj (m := 9) hu rfl (hd 9 dc)) rfl Tryd.underlying89 ?_
          exact zar 10 hu hi rfl
         ·
          intro D hn hd hcl hu hi
          refine zaz rfl dc (zaj (m := 10) hu rfl (hd 10 dc)) rfl (zcE (r := (p20.length : Int) - 1) (IntWalk.i64_in _ hg5)) ?_
          exact zar 11 hu hi rfl
         refine zdS (k := 6) hq8 Tryd.underlying89 zjF rfl dc rfl rfl rfl rfl (zai rfl dc rfl (zan (zaf (zap (zad (zag rfl dc rfl ?_))))))
         obtain ⟨r7, hq9, h⟩ := zbT h
         refine za9 (v := zI r7) (vs := [.string line1]) rfl dc rfl rfl rfl zpi (zh5 hq9) (zai rfl dc rfl (zan (zaf (zap ?_))))
         obtain ⟨hg6, h⟩ := zcX h
         obtain ⟨hg7, h⟩ := zcX h
         obtain ⟨hg8, h⟩ := zcX h
         obtain ⟨hg9, h⟩ := zcX h
         obtain ⟨hg10, h⟩ := zcX h
         refine zhU 1 ?_
         show TC _ _ _ _ _ _ _ _ _ [cells b1 [zI 0, zI 0] 26, cells b4 [.string p4.text, hd3.v, hd4.v] 128, vec zaH 130 5 hd3.v p4.places, vec zaD 132 4 hd4.v p4.lines, cells b3 [.string p14, hd10.v, hd14.v, .string text1] 93, vec zal 36 6 hd10.v p15, vec zaq 34 2 hd14.v p20, cells b5 [zI span1, zI span2] 34, emp]
         refine let vals1 : (Nat × Hd) → List (Nat × Nat × Value) := fun b => [(0, 119, zP b3), (1, 120, zP b3), (2, 121, zP b3), (3, 122, zP b3), (4, 123, .pointer (some ⟨b3, 1, none⟩)), (5, 124, hd10.v), (6, 125, .string line1), (7, 126, zI r7), (8, 127, .string (zdx line1 r7 (line1.size : Int))), (9, 128, zI r7), (10, 129, zP b3), (11, 130, zP b3), (12, 131, zP b3), (13, 132, .pointer (some ⟨b3, 2, none⟩)), (14, 133, hd14.v), (15, 134, zI (p20.length : Int)), (16, 135, zI ((p20.length : Int) - 1)), (17, 136, zI (p15.length : Int)), (18, 137, .pointer (some ⟨zfT hd14.v, ((p20.length : Int) - 1 : Int).toNat * 2, none⟩)), (19, 138, .pointer (some ⟨zfT hd14.v, ((p20.length : Int) - 1 : Int).toNat * 2, none⟩)), (20, 139, .pointer (some ⟨zfT hd14.v, (((p20.length : Int) - 1 : Int).toNat) * 2, none⟩)), (21, 140, zI q1.From), (22, 141, zI ((p15.length : Int) - q1.From)), (23, 142, zP b5), (24, 143, zI span1), (25, 144, zI r7), (26, 145, zI (span1 + r7)), (27, 146, .pointer (some ⟨b5, 1, none⟩)), (28, 147, zI span2), (29, 148, .agg #[zI (span1 + r7), zI span2]), (30, 149, .agg #[.string (zdx line1 r7 (line1.size : Int)), zI r7, zI ((p20.length : Int) - 1), zI ((p15.length : Int) - q1.From), zI (span1 + r7), zI span2]), (31, 150, .slice (some ⟨b.1, 0, none⟩) 1 1), (32, 151, b.2.v)]; let LL1 : (Nat → Prop) → (Nat × Hd) → List Asn := fun D b => [cells b1 [zI 0, zI 0] 26, cells b4 [.string p4.text, hd3.v, hd4.v] 128, vec zaH 130 5 hd3.v p4.places, vec zaD 132 4 hd4.v p4.lines, cells b3 [.string p14, hd10.v, hd14.v, .string text1] 93, eD D (vec zal 36 6 hd10.v p15) [(32, vec zal 36 6 b.2.v (p15 ++ [(⟨zdx line1 r7 (line1.size : Int), r7, (p20.length : Int) - 1, (p15.length : Int) - q1.From, span1 + r7, span2⟩ : Gapi_Verse)]))], vec zaq 34 2 hd14.v p20, cells b5 [zI span1, zI span2] 34, eD D emp [(31, cells b.1 [.string (zdx line1 r7 (line1.size : Int)), zI r7, zI ((p20.length : Int) - 1), zI ((p15.length : Int) - q1.From), zI (span1 + r7), zI span2] 36)]]; ?_
         refine zfj (β := Nat × Hd) 33 ((0 : Nat), Hd.nil) vals1 LL1 mixed kr kr dc (fun _ => rfl) (zaa rfl (zaa rfl (zaa rfl (zaa rfl (zaa rfl (zaa zdN (zaa rfl (zaa rfl (zaa zdN rfl))))))))) (zaK ?_ (zaK ?_ (zaK ?_ (zaK ?_ (zaK ?_ (zaK ?_ (zaK ?_ (zaK ?_ (zaK ?_ (zaK ?_ (zaK ?_ (zaK ?_ (zaK ?_ (zaK ?_ (zaK ?_ (zaK ?_ (zaK ?_ (zaK ?_ (zaK ?_ (zaK ?_ (zaK ?_ (zaK ?_ (zaK ?_ (zaK ?_ (zaK ?_ (zaK ?_ (zaK ?_ (zaK ?_ (zaK ?_ (zaK ?_ (zaK ?_ (zaK ?_ (zaK ?_ DrawG.nil))))))))))))))))))))))))))))))))) ?_
         ·
          intro D b hn hd hcl
          obtain ⟨b8, hd16⟩ := b
          refine zaX rfl (zag rfl dc (zaS (by rfl) rfl) ?_)
          exact zaZ (b8, hd16) 0 (by rfl) (by rfl) rfl (congrArg (dl D) rfl) (zaa rfl (zaa rfl (zaa rfl (zaa rfl (zaa rfl (zaa ((zaJ (by rfl)).trans rfl) (zaa rfl (zaa rfl (zaa ((zaJ (by rfl)).trans rfl) rfl)))))))))
         ·
          intro D b hn hd hcl
          obtain ⟨b8, hd16⟩ := b
          refine zaX (zaa rfl (zaa rfl (zaa rfl (zaa rfl (zaa rfl (zaa (zaB (fun hD => hn (hcl 2 _ rfl (hcl 3 _ rfl (hcl 4 _ rfl (hcl 5 _ rfl (hcl 32 _ rfl hD 5 dc) 4 dc) 3 dc) 2 dc) 1 dc)) zaG) rfl)))))) ?_
          refine zag rfl dc (zaS (by rfl) rfl) ?_
          exact zaZ (b8, hd16) 1 (by rfl) (by rfl) rfl (congrArg (dl D) rfl) (zaa rfl (zaa rfl (zaa rfl (zaa rfl (zaa rfl (zaa ((zaJ (by rfl)).trans (zaB (fun hD => hn (hcl 2 _ rfl (hcl 3 _ rfl (hcl 4 _ rfl (hcl 5 _ rfl (hcl 32 _ rfl hD 5 dc) 4 dc) 3 dc) 2 dc) 1 dc)) zaG)) (zaa rfl (zaa rfl (zaa ((zaJ (by rfl)).trans rfl) rfl)))))))))
         ·
          intro D b hn hd hcl
          obtain ⟨b8, hd16⟩ := b
          refine zaX (zaa rfl (zaa rfl (zaa rfl (zaa rfl (zaa rfl (zaa (zaB (fun hD => hn (hcl 3 _ rfl (hcl 4 _ rfl (hcl 5 _ rfl (hcl 32 _ rfl hD 5 dc) 4 dc) 3 dc) 2 dc)) zaG) rfl)))))) ?_
          refine zaC rfl dc (zaj (m := 1) rfl rfl (hd 1 dc)) ?_
          exact zaZ (b8, hd16) 2 (by rfl) (by rfl) rfl (congrArg (dl D) rfl) (zaa rfl (zaa rfl (zaa rfl (zaa rfl (zaa rfl (zaa ((zaJ (by rfl)).trans (zaB (fun hD => hn (hcl 3 _ rfl (hcl 4 _ rfl (hcl 5 _ rfl (hcl 32 _ rfl hD 5 dc) 4 dc) 3 dc) 2 dc)) zaG)) (zaa rfl (zaa rfl (zaa ((zaJ (by rfl)).trans rfl) rfl)))))))))
         ·
          intro D b hn hd hcl
          obtain ⟨b8, hd16⟩ := b
          refine zaX (zaa rfl (zaa rfl (zaa rfl (zaa rfl (zaa rfl (zaa (zaB (fun hD => hn (hcl 4 _ rfl (hcl 5 _ rfl (hcl 32 _ rfl hD 5 dc) 4 dc) 3 dc)) zaG) rfl)))))) ?_
          refine zam zbG rfl dc (zaj (m := 2) rfl rfl (hd 2 dc)) (show _ = 0 from rfl) ?_
          exact zaZ (b8, hd16) 3 (by rfl) (by rfl) rfl (congrArg (dl D) rfl) (zaa rfl (zaa rfl (zaa rfl (zaa rfl (zaa rfl (zaa ((zaJ (by rfl)).trans (zaB (fun hD => hn (hcl 4 _ rfl (hcl 5 _ rfl (hcl 32 _ rfl hD 5 dc) 4 dc) 3 dc)) zaG)) (zaa rfl (zaa rfl (zaa ((zaJ (by rfl)).trans rfl) rfl)))))))))
         ·
          intro D b hn hd hcl
          obtain ⟨b8, hd16⟩ := b
          refine zaX (zaa rfl (zaa rfl (zaa rfl (zaa rfl (zaa rfl (zaa (zaB (fun hD => hn (hcl 5 _ rfl (hcl 32 _ rfl hD 5 dc) 4 dc)) zaG) rfl)))))) ?_
          refine zam zcY rfl dc (zaj (m := 3) rfl rfl (hd 3 dc)) (show _ = 1 from rfl) ?_
          exact zaZ (b8, hd16) 4 (by rfl) (by rfl) rfl (congrArg (dl D) rfl) (zaa rfl (zaa rfl (zaa rfl (zaa rfl (zaa rfl (zaa ((zaJ (by rfl)).trans (zaB (fun hD => hn (hcl 5 _ rfl (hcl 32 _ rfl hD 5 dc) 4 dc)) zaG)) (zaa rfl (zaa rfl (zaa ((zaJ (by rfl)).trans rfl) rfl)))))))))
         ·
          intro D b hn hd hcl
          obtain ⟨b8, hd16⟩ := b
          refine zaX (zaa rfl (zaa rfl (zaa rfl (zaa rfl (zaa rfl (zaa (zaB (fun hD => hn (hcl 32 _ rfl hD 5 dc)) zaG) rfl)))))) ?_
          refine zaP (k := 4) zfn rfl dc (zaj (m := 4) rfl rfl (hd 4 dc)) rfl rfl ?_
          exact zaZ (b8, hd16) 5 (by rfl) (by rfl) rfl (congrArg (dl D) rfl) (zaa rfl (zaa rfl (zaa rfl (zaa rfl (zaa rfl (zaa ((zaJ (by rfl)).trans (zaB (fun hD => hn (hcl 32 _ rfl hD 5 dc)) zaG)) (zaa rfl (zaa rfl (zaa ((zaJ (by rfl)).trans rfl) rfl)))))))))
         ·
          intro D b hn hd hcl
          obtain ⟨b8, hd16⟩ := b
          refine zaX (zaa rfl (zaa rfl (zaa rfl (zaa rfl (zaa rfl (zaa (zaB (fun hD => hn (hcl 8 _ rfl (hcl 30 _ rfl (hcl 31 _ rfl (hcl 32 _ rfl hD 31 dc) 30 dc) 8 dc) 6 dc)) zaG) (zaa rfl (zaa rfl (zaa (zaB (fun hD => hn (hcl 8 _ rfl (hcl 30 _ rfl (hcl 31 _ rfl hD 30 dc) 8 dc) 6 dc)) zaG) rfl))))))))) ?_
          refine zag rfl dc (zaS (by rfl) rfl) ?_
          exact zaZ (b8, hd16) 6 (by rfl) (by rfl) rfl (congrArg (dl D) rfl) (zaa rfl (zaa rfl (zaa rfl (zaa rfl (zaa rfl (zaa ((zaJ (by rfl)).trans (zaB (fun hD => hn (hcl 8 _ rfl (hcl 30 _ rfl (hcl 31 _ rfl (hcl 32 _ rfl hD 31 dc) 30 dc) 8 dc) 6 dc)) zaG)) (zaa rfl (zaa rfl (zaa ((zaJ (by rfl)).trans (zaB (fun hD => hn (hcl 8 _ rfl (hcl 30 _ rfl (hcl 31 _ rfl hD 30 dc) 8 dc) 6 dc)) zaG)) rfl)))))))))
         ·
          intro D b hn hd hcl
          obtain ⟨b8, hd16⟩ := b
          refine zaX (zaa rfl (zaa rfl (zaa rfl (zaa rfl (zaa rfl (zaa (zaB (fun hD => hn (hcl 8 _ rfl (hcl 30 _ rfl (hcl 31 _ rfl (hcl 32 _ rfl hD 31 dc) 30 dc) 8 dc) 7 dc)) zaG) (zaa rfl (zaa rfl (zaa (zaB (fun hD => hn (hcl 8 _ rfl (hcl 30 _ rfl (hcl 31 _ rfl hD 30 dc) 8 dc) 7 dc)) zaG) rfl))))))))) ?_
          refine zag rfl dc (zaS (by rfl) rfl) ?_
          exact zaZ (b8, hd16) 7 (by rfl) (by rfl) rfl (congrArg (dl D) rfl) (zaa rfl (zaa rfl (zaa rfl (zaa rfl (zaa rfl (zaa ((zaJ (by rfl)).trans (zaB (fun hD => hn (hcl 8 _ rfl (hcl 30 _ rfl (hcl 31 _ rfl (hcl 32 _ rfl hD 31 dc) 30 dc) 8 dc) 7 dc)) zaG)) (zaa rfl (zaa rfl (zaa ((zaJ (by rfl)).trans (zaB (fun hD => hn (hcl 8 _ rfl (hcl 30 _ rfl (hcl 31 _ rfl hD 30 dc) 8 dc) 7 dc)) zaG)) rfl)))))))))
         ·
          intro D b hn hd hcl
          obtain ⟨b8, hd16⟩ := b
          refine zaX (zaa rfl (zaa rfl (zaa rfl (zaa rfl (zaa rfl (zaa (zaB (fun hD => hn (hcl 30 _ rfl (hcl 31 _ rfl (hcl 32 _ rfl hD 31 dc) 30 dc) 8 dc)) zaG) (zaa rfl (zaa rfl (zaa (zaB (fun hD => hn (hcl 30 _ rfl (hcl 31 _ rfl hD 30 dc) 8 dc)) zaG) rfl))))))))) ?_
          refine zdi rfl dc (zaj (m := 6) rfl rfl (hd 6 dc)) (evO.some (zaj (m := 7) rfl rfl (hd 7 dc))) ziK (zcw (i := r7) (j := (line1.size : Int)) Tryd.underlying9 (.inr rfl) (.inl ⟨rfl, rfl⟩) hg6) ?_
          exact zaZ (b8, hd16) 8 (by rfl) (by rfl) rfl (congrArg (dl D) rfl) (zaa rfl (zaa rfl (zaa rfl (zaa rfl (zaa rfl (zaa ((zaJ (by rfl)).trans (zaB (fun hD => hn (hcl 30 _ rfl (hcl 31 _ rfl (hcl 32 _ rfl hD 31 dc) 30 dc) 8 dc)) zaG)) (zaa rfl (zaa rfl (zaa ((zaJ (by rfl)).trans (zaB (fun hD => hn (hcl 30 _ rfl (hcl 31 _ rfl hD 30 dc) 8 dc)) zaG)) rfl)))))))))
         ·
          intro D b hn hd hcl
          obtain ⟨b8, hd16⟩ := b
          refine zaX (zaa rfl (zaa rfl (zaa rfl (zaa rfl (zaa rfl (zaa (zaB (fun hD => hn (hcl 30 _ rfl (hcl 31 _ rfl (hcl 32 _ rfl hD 31 dc) 30 dc) 9 dc)) zaG) (zaa rfl (zaa rfl (zaa (zaB (fun hD => hn (hcl 30 _ rfl (hcl 31 _ rfl hD 30 dc) 9 dc)) zaG) rfl))))))))) ?_
          refine zag rfl dc (zaS (by rfl) rfl) ?_
          exact zaZ (b8, hd16) 9 (by rfl) (by rfl) rfl (congrArg (dl D) rfl) (zaa rfl (zaa rfl (zaa rfl (zaa rfl (zaa rfl (zaa ((zaJ (by rfl)).trans (zaB (fun hD => hn (hcl 30 _ rfl (hcl 31 _ rfl (hcl 32 _ rfl hD 31 dc) 30 dc) 9 dc)) zaG)) (zaa rfl (zaa rfl (zaa ((zaJ (by rfl)).trans (zaB (fun hD => hn (hcl 30 _ rfl (hcl 31 _ rfl hD 30 dc) 9 dc)) zaG)) rfl)))))))))
         ·
          intro D b hn hd hcl
          obtain ⟨b8, hd16⟩ := b
          refine zaX (zaa rfl (zaa rfl (zaa rfl (zaa rfl (zaa rfl (zaa (zaB (fun hD => hn (hcl 11 _ rfl (hcl 12 _ rfl (hcl 13 _ rfl (hcl 14 _ rfl (hcl 15 _ rfl (hcl 16 _ rfl (hcl 30 _ rfl (hcl 31 _ rfl (hcl 32 _ rfl hD 31 dc) 30 dc) 16 dc) 15 dc) 14 dc) 13 dc) 12 dc) 11 dc) 10 dc)) zaG) (zaa rfl (zaa rfl (zaa (zaB (fun hD => hn (hcl 11 _ rfl (hcl 12 _ rfl (hcl 13 _ rfl (hcl 14 _ rfl (hcl 15 _ rfl (hcl 16 _ rfl (hcl 30 _ rfl (hcl 31 _ rfl hD 30 dc) 16 dc) 15 dc) 14 dc) 13 dc) 12 dc) 11 dc) 10 dc)) zaG) rfl))))))))) ?_
          refine zag rfl dc (zaS (by rfl) rfl) ?_
          exact zaZ (b8, hd16) 10 (by rfl) (by rfl) rfl (congrArg (dl D) rfl) (zaa rfl (zaa rfl (zaa rfl (zaa rfl (zaa rfl (zaa ((zaJ (by rfl)).trans (zaB (fun hD => hn (hcl 11 _ rfl (hcl 12 _ rfl (hcl 13 _ rfl (hcl 14 _ rfl (hcl 15 _ rfl (hcl 16 _ rfl (hcl 30 _ rfl (hcl 31 _ rfl (hcl 32 _ rfl hD 31 dc) 30 dc) 16 dc) 15 dc) 14 dc) 13 dc) 12 dc) 11 dc) 10 dc)) zaG)) (zaa rfl (zaa rfl (zaa ((zaJ (by rfl)).trans (zaB (fun hD => hn (hcl 11 _ rfl (hcl 12 _ rfl (hcl 13 _ rfl (hcl 14 _ rfl (hcl 15 _ rfl (hcl 16 _ rfl (hcl 30 _ rfl (hcl 31 _ rfl hD 30 dc) 16 dc) 15 dc) 14 dc) 13 dc) 12 dc) 11 dc) 10 dc)) zaG)) rfl)))))))))
         ·
          intro D b hn hd hcl
          obtain ⟨b8, hd16⟩ := b
          refine zaX (zaa rfl (zaa rfl (zaa rfl (zaa rfl (zaa rfl (zaa (zaB (fun hD => hn (hcl 12 _ rfl (hcl 13 _ rfl (hcl 14 _ rfl (hcl 15 _ rfl (hcl 16 _ rfl (hcl 30 _ rfl (hcl 31 _ rfl (hcl 32 _ rfl hD 31 dc) 30 dc) 16 dc) 15 dc) 14 dc) 13 dc) 12 dc) 11 dc)) zaG) (zaa rfl (zaa rfl (zaa (zaB (fun hD => hn (hcl 12 _ rfl (hcl 13 _ rfl (hcl 14 _ rfl (hcl 15 _ rfl (hcl 16 _ rfl (hcl 30 _ rfl (hcl 31 _ rfl hD 30 dc) 16 dc) 15 dc) 14 dc) 13 dc) 12 dc) 11 dc)) zaG) rfl))))))))) ?_
          refine zaC rfl dc (zaj (m := 10) rfl rfl (hd 10 dc)) ?_
          exact zaZ (b8, hd16) 11 (by rfl) (by rfl) rfl (congrArg (dl D) rfl) (zaa rfl (zaa rfl (zaa rfl (zaa rfl (zaa rfl (zaa ((zaJ (by rfl)).trans (zaB (fun hD => hn (hcl 12 _ rfl (hcl 13 _ rfl (hcl 14 _ rfl (hcl 15 _ rfl (hcl 16 _ rfl (hcl 30 _ rfl (hcl 31 _ rfl (hcl 32 _ rfl hD 31 dc) 30 dc) 16 dc) 15 dc) 14 dc) 13 dc) 12 dc) 11 dc)) zaG)) (zaa rfl (zaa rfl (zaa ((zaJ (by rfl)).trans (zaB (fun hD => hn (hcl 12 _ rfl (hcl 13 _ rfl (hcl 14 _ rfl (hcl 15 _ rfl (hcl 16 _ rfl (hcl 30 _ rfl (hcl 31 _ rfl hD 30 dc) 16 dc) 15 dc) 14 dc) 13 dc) 12 dc) 11 dc)) zaG)) rfl)))))))))
         ·
          intro D b hn hd hcl
          obtain ⟨b8, hd16⟩ := b
          refine zaX (zaa rfl (zaa rfl (zaa rfl (zaa rfl (zaa rfl (zaa (zaB (fun hD => hn (hcl 13 _ rfl (hcl 14 _ rfl (hcl 15 _ rfl (hcl 16 _ rfl (hcl 30 _ rfl (hcl 31 _ rfl (hcl 32 _ rfl hD 31 dc) 30 dc) 16 dc) 15 dc) 14 dc) 13 dc) 12 dc)) zaG) (zaa rfl (zaa rfl (zaa (zaB (fun hD => hn (hcl 13 _ rfl (hcl 14 _ rfl (hcl 15 _ rfl (hcl 16 _ rfl (hcl 30 _ rfl (hcl 31 _ rfl hD 30 dc) 16 dc) 15 dc) 14 dc) 13 dc) 12 dc)) zaG) rfl))))))))) ?_
          refine zam zbG rfl dc (zaj (m := 11) rfl rfl (hd 11 dc)) (show _ = 0 from rfl) ?_
          exact zaZ (b8, hd16) 12 (by rfl) (by rfl) rfl (congrArg (dl D) rfl) (zaa rfl (zaa rfl (zaa rfl (zaa rfl (zaa rfl (zaa ((zaJ (by rfl)).trans (zaB (fun hD => hn (hcl 13 _ rfl (hcl 14 _ rfl (hcl 15 _ rfl (hcl 16 _ rfl (hcl 30 _ rfl (hcl 31 _ rfl (hcl 32 _ rfl hD 31 dc) 30 dc) 16 dc) 15 dc) 14 dc) 13 dc) 12 dc)) zaG)) (zaa rfl (zaa rfl (zaa ((zaJ (by rfl)).trans (zaB (fun hD => hn (hcl 13 _ rfl (hcl 14 _ rfl (hcl 15 _ rfl (hcl 16 _ rfl (hcl 30 _ rfl (hcl 31 _ rfl hD 30 dc) 16 dc) 15 dc) 14 dc) 13 dc) 12 dc)) zaG)) rfl)))))))))
         ·
          intro D b hn hd hcl
          obtain ⟨b8, hd16⟩ := b
          refine zaX (zaa rfl (zaa rfl (zaa rfl (zaa rfl (zaa rfl (zaa (zaB (fun hD => hn (hcl 14 _ rfl (hcl 15 _ rfl (hcl 16 _ rfl (hcl 30 _ rfl (hcl 31 _ rfl (hcl 32 _ rfl hD 31 dc) 30 dc) 16 dc) 15 dc) 14 dc) 13 dc)) zaG) (zaa rfl (zaa rfl (zaa (zaB (fun hD => hn (hcl 14 _ rfl (hcl 15 _ rfl (hcl 16 _ rfl (hcl 30 _ rfl (hcl 31 _ rfl hD 30 dc) 16 dc) 15 dc) 14 dc) 13 dc)) zaG) rfl))))))))) ?_
          refine zam zgL rfl dc (zaj (m := 12) rfl rfl (hd 12 dc)) (show _ = 2 from rfl) ?_
          exact zaZ (b8, hd16) 13 (by rfl) (by rfl) rfl (congrArg (dl D) rfl) (zaa rfl (zaa rfl (zaa rfl (zaa rfl (zaa rfl (zaa ((zaJ (by rfl)).trans (zaB (fun hD => hn (hcl 14 _ rfl (hcl 15 _ rfl (hcl 16 _ rfl (hcl 30 _ rfl (hcl 31 _ rfl (hcl 32 _ rfl hD 31 dc) 30 dc) 16 dc) 15 dc) 14 dc) 13 dc)) zaG)) (zaa rfl (zaa rfl (zaa ((zaJ (by rfl)).trans (zaB (fun hD => hn (hcl 14 _ rfl (hcl 15 _ rfl (hcl 16 _ rfl (hcl 30 _ rfl (hcl 31 _ rfl hD 30 dc) 16 dc) 15 dc) 14 dc) 13 dc)) zaG)) rfl)))))))))
         ·
          intro D b hn hd hcl
          obtain ⟨b8, hd16⟩ := b
          refine zaX (zaa rfl (zaa rfl (zaa rfl (zaa rfl (zaa rfl (zaa (zaB (fun hD => hn (hcl 15 _ rfl (hcl 16 _ rfl (hcl 30 _ rfl (hcl 31 _ rfl (hcl 32 _ rfl hD 31 dc) 30 dc) 16 dc) 15 dc) 14 dc)) zaG) (zaa rfl (zaa rfl (zaa (zaB (fun hD => hn (hcl 15 _ rfl (hcl 16 _ rfl (hcl 30 _ rfl (hcl 31 _ rfl hD 30 dc) 16 dc) 15 dc) 14 dc)) zaG) rfl))))))))) ?_
          refine zaP (k := 4) zlk rfl dc (zaj (m := 13) rfl rfl (hd 13 dc)) rfl rfl ?_
          exact zaZ (b8, hd16) 14 (by rfl) (by rfl) rfl (congrArg (dl D) rfl) (zaa rfl (zaa rfl (zaa rfl (zaa rfl (zaa rfl (zaa ((zaJ (by rfl)).trans (zaB (fun hD => hn (hcl 15 _ rfl (hcl 16 _ rfl (hcl 30 _ rfl (hcl 31 _ rfl (hcl 32 _ rfl hD 31 dc) 30 dc) 16 dc) 15 dc) 14 dc)) zaG)) (zaa rfl (zaa rfl (zaa ((zaJ (by rfl)).trans (zaB (fun hD => hn (hcl 15 _ rfl (hcl 16 _ rfl (hcl 30 _ rfl (hcl 31 _ rfl hD 30 dc) 16 dc) 15 dc) 14 dc)) zaG)) rfl)))))))))
         ·
          intro D b hn hd hcl
          obtain ⟨b8, hd16⟩ := b
          refine zaX (zaa rfl (zaa rfl (zaa rfl (zaa rfl (zaa rfl (zaa (zaB (fun hD => hn (hcl 16 _ rfl (hcl 30 _ rfl (hcl 31 _ rfl (hcl 32 _ rfl hD 31 dc) 30 dc) 16 dc) 15 dc)) zaG) (zaa rfl (zaa rfl (zaa (zaB (fun hD => hn (hcl 16 _ rfl (hcl 30 _ rfl (hcl 31 _ rfl hD 30 dc) 16 dc) 15 dc)) zaG) rfl))))))))) ?_
          refine zeC (k := 6) rfl dc (zaj (m := 14) rfl rfl (hd 14 dc)) rfl Tryd.underlying89 ?_
          exact zaZ (b8, hd16) 15 (by rfl) (by rfl) rfl (congrArg (dl D) rfl) (zaa rfl (zaa rfl (zaa rfl (zaa rfl (zaa rfl (zaa ((zaJ (by rfl)).trans (zaB (fun hD => hn (hcl 16 _ rfl (hcl 30 _ rfl (hcl 31 _ rfl (hcl 32 _ rfl hD 31 dc) 30 dc) 16 dc) 15 dc)) zaG)) (zaa rfl (zaa rfl (zaa ((zaJ (by rfl)).trans (zaB (fun hD => hn (hcl 16 _ rfl (hcl 30 _ rfl (hcl 31 _ rfl hD 30 dc) 16 dc) 15 dc)) zaG)) rfl)))))))))
         ·
          intro D b hn hd hcl
          obtain ⟨b8, hd16⟩ := b
          refine zaX (zaa rfl (zaa rfl (zaa rfl (zaa rfl (zaa rfl (zaa (zaB (fun hD => hn (hcl 30 _ rfl (hcl 31 _ rfl (hcl 32 _ rfl hD 31 dc) 30 dc) 16 dc)) zaG) (zaa rfl (zaa rfl (zaa (zaB (fun hD => hn (hcl 30 _ rfl (hcl 31 _ rfl hD 30 dc) 16 dc)) zaG) rfl))))))))) ?_
          refine zaz rfl dc (zaj (m := 15) rfl rfl (hd 15 dc)) rfl (zcE (r := (p20.length : Int) - 1) (IntWalk.i64_in _ hg7)) ?_
          exact zaZ (b8, hd16) 16 (by rfl) (by rfl) rfl (congrArg (dl D) rfl) (zaa rfl (zaa rfl (zaa rfl (zaa rfl (zaa rfl (zaa ((zaJ (by rfl)).trans (zaB (fun hD => hn (hcl 30 _ rfl (hcl 31 _ rfl (hcl 32 _ rfl hD 31 dc) 30 dc) 16 dc)) zaG)) (zaa rfl (zaa rfl (zaa ((zaJ (by rfl)).trans (zaB (fun hD => hn (hcl 30 _ rfl (hcl 31 _ rfl hD 30 dc) 16 dc)) zaG)) rfl)))))))))
         ·
          intro D b hn hd hcl
          obtain ⟨b8, hd16⟩ := b
          refine zaX (zaa rfl (zaa rfl (zaa rfl (zaa rfl (zaa rfl (zaa (zaB (fun hD => hn (hcl 22 _ rfl (hcl 30 _ rfl (hcl 31 _ rfl (hcl 32 _ rfl hD 31 dc) 30 dc) 22 dc) 17 dc)) zaG) (zaa rfl (zaa rfl (zaa (zaB (fun hD => hn (hcl 22 _ rfl (hcl 30 _ rfl (hcl 31 _ rfl hD 30 dc) 22 dc) 17 dc)) zaG) rfl))))))))) ?_
          refine zag rfl dc (zaS (by rfl) rfl) ?_
          exact zaZ (b8, hd16) 17 (by rfl) (by rfl) rfl (congrArg (dl D) rfl) (zaa rfl (zaa rfl (zaa rfl (zaa rfl (zaa rfl (zaa ((zaJ (by rfl)).trans (zaB (fun hD => hn (hcl 22 _ rfl (hcl 30 _ rfl (hcl 31 _ rfl (hcl 32 _ rfl hD 31 dc) 30 dc) 22 dc) 17 dc)) zaG)) (zaa rfl (zaa rfl (zaa ((zaJ (by rfl)).trans (zaB (fun hD => hn (hcl 22 _ rfl (hcl 30 _ rfl (hcl 31 _ rfl hD 30 dc) 22 dc) 17 dc)) zaG)) rfl)))))))))
         ·
          intro D b hn hd hcl
          obtain ⟨b8, hd16⟩ := b
          refine zaX (zaa rfl (zaa rfl (zaa rfl (zaa rfl (zaa rfl (zaa (zaB (fun hD => hn (hcl 19 _ rfl (hcl 20 _ rfl (hcl 21 _ rfl (hcl 22 _ rfl (hcl 30 _ rfl (hcl 31 _ rfl (hcl 32 _ rfl hD 31 dc) 30 dc) 22 dc) 21 dc) 20 dc) 19 dc) 18 dc)) zaG) (zaa rfl (zaa rfl (zaa (zaB (fun hD => hn (hcl 19 _ rfl (hcl 20 _ rfl (hcl 21 _ rfl (hcl 22 _ rfl (hcl 30 _ rfl (hcl 31 _ rfl hD 30 dc) 22 dc) 21 dc) 20 dc) 19 dc) 18 dc)) zaG) rfl))))))))) ?_
          refine zag rfl dc (zaS (by rfl) rfl) ?_
          exact zaZ (b8, hd16) 18 (by rfl) (by rfl) rfl (congrArg (dl D) rfl) (zaa rfl (zaa rfl (zaa rfl (zaa rfl (zaa rfl (zaa ((zaJ (by rfl)).trans (zaB (fun hD => hn (hcl 19 _ rfl (hcl 20 _ rfl (hcl 21 _ rfl (hcl 22 _ rfl (hcl 30 _ rfl (hcl 31 _ rfl (hcl 32 _ rfl hD 31 dc) 30 dc) 22 dc) 21 dc) 20 dc) 19 dc) 18 dc)) zaG)) (zaa rfl (zaa rfl (zaa ((zaJ (by rfl)).trans (zaB (fun hD => hn (hcl 19 _ rfl (hcl 20 _ rfl (hcl 21 _ rfl (hcl 22 _ rfl (hcl 30 _ rfl (hcl 31 _ rfl hD 30 dc) 22 dc) 21 dc) 20 dc) 19 dc) 18 dc)) zaG)) rfl)))))))))
         ·
          intro D b hn hd hcl
          obtain ⟨b8, hd16⟩ := b
          refine zaX (zaa rfl (zaa rfl (zaa rfl (zaa rfl (zaa rfl (zaa (zaB (fun hD => hn (hcl 20 _ rfl (hcl 21 _ rfl (hcl 22 _ rfl (hcl 30 _ rfl (hcl 31 _ rfl (hcl 32 _ rfl hD 31 dc) 30 dc) 22 dc) 21 dc) 20 dc) 19 dc)) zaG) (zaa rfl (zaa rfl (zaa (zaB (fun hD => hn (hcl 20 _ rfl (hcl 21 _ rfl (hcl 22 _ rfl (hcl 30 _ rfl (hcl 31 _ rfl hD 30 dc) 22 dc) 21 dc) 20 dc) 19 dc)) zaG) rfl))))))))) ?_
          refine zaC rfl dc (zaj (m := 18) rfl rfl (hd 18 dc)) ?_
          exact zaZ (b8, hd16) 19 (by rfl) (by rfl) rfl (congrArg (dl D) rfl) (zaa rfl (zaa rfl (zaa rfl (zaa rfl (zaa rfl (zaa ((zaJ (by rfl)).trans (zaB (fun hD => hn (hcl 20 _ rfl (hcl 21 _ rfl (hcl 22 _ rfl (hcl 30 _ rfl (hcl 31 _ rfl (hcl 32 _ rfl hD 31 dc) 30 dc) 22 dc) 21 dc) 20 dc) 19 dc)) zaG)) (zaa rfl (zaa rfl (zaa ((zaJ (by rfl)).trans (zaB (fun hD => hn (hcl 20 _ rfl (hcl 21 _ rfl (hcl 22 _ rfl (hcl 30 _ rfl (hcl 31 _ rfl hD 30 dc) 22 dc) 21 dc) 20 dc) 19 dc)) zaG)) rfl)))))))))
         ·
          intro D b hn hd hcl
          obtain ⟨b8, hd16⟩ := b
          refine zaX (zaa rfl (zaa rfl (zaa rfl (zaa rfl (zaa rfl (zaa (zaB (fun hD => hn (hcl 21 _ rfl (hcl 22 _ rfl (hcl 30 _ rfl (hcl 31 _ rfl (hcl 32 _ rfl hD 31 dc) 30 dc) 22 dc) 21 dc) 20 dc)) zaG) (zaa rfl (zaa rfl (zaa (zaB (fun hD => hn (hcl 21 _ rfl (hcl 22 _ rfl (hcl 30 _ rfl (hcl 31 _ rfl hD 30 dc) 22 dc) 21 dc) 20 dc)) zaG) rfl))))))))) ?_
          refine zam zeV rfl dc (zaj (m := 19) rfl rfl (hd 19 dc)) (show _ = (((p20.length : Int) - 1 : Int).toNat) * 2 from rfl) ?_
          exact zaZ (b8, hd16) 20 (by rfl) (by rfl) rfl (congrArg (dl D) rfl) (zaa rfl (zaa rfl (zaa rfl (zaa rfl (zaa rfl (zaa ((zaJ (by rfl)).trans (zaB (fun hD => hn (hcl 21 _ rfl (hcl 22 _ rfl (hcl 30 _ rfl (hcl 31 _ rfl (hcl 32 _ rfl hD 31 dc) 30 dc) 22 dc) 21 dc) 20 dc)) zaG)) (zaa rfl (zaa rfl (zaa ((zaJ (by rfl)).trans (zaB (fun hD => hn (hcl 21 _ rfl (hcl 22 _ rfl (hcl 30 _ rfl (hcl 31 _ rfl hD 30 dc) 22 dc) 21 dc) 20 dc)) zaG)) rfl)))))))))
         ·
          intro D b hn hd hcl
          obtain ⟨b8, hd16⟩ := b
          refine zaX (zaa rfl (zaa rfl (zaa rfl (zaa rfl (zaa rfl (zaa (zaB (fun hD => hn (hcl 22 _ rfl (hcl 30 _ rfl (hcl 31 _ rfl (hcl 32 _ rfl hD 31 dc) 30 dc) 22 dc) 21 dc)) zaG) (zaa rfl (zaa rfl (zaa (zaB (fun hD => hn (hcl 22 _ rfl (hcl 30 _ rfl (hcl 31 _ rfl hD 30 dc) 22 dc) 21 dc)) zaG) rfl))))))))) ?_
          refine zgZ (i := ((p20.length : Int) - 1 : Int).toNat) (j := 0) (k := 6) (q := q1) zcx zd5 rfl dc (zaj (m := 20) rfl rfl (hd 20 dc)) rfl (zdv hq8) rfl dc rfl ?_
          exact zaZ (b8, hd16) 21 (by rfl) (by rfl) rfl (congrArg (dl D) rfl) (zaa rfl (zaa rfl (zaa rfl (zaa rfl (zaa rfl (zaa ((zaJ (by rfl)).trans (zaB (fun hD => hn (hcl 22 _ rfl (hcl 30 _ rfl (hcl 31 _ rfl (hcl 32 _ rfl hD 31 dc) 30 dc) 22 dc) 21 dc)) zaG)) (zaa rfl (zaa rfl (zaa ((zaJ (by rfl)).trans (zaB (fun hD => hn (hcl 22 _ rfl (hcl 30 _ rfl (hcl 31 _ rfl hD 30 dc) 22 dc) 21 dc)) zaG)) rfl)))))))))
         ·
          intro D b hn hd hcl
          obtain ⟨b8, hd16⟩ := b
          refine zaX (zaa rfl (zaa rfl (zaa rfl (zaa rfl (zaa rfl (zaa (zaB (fun hD => hn (hcl 30 _ rfl (hcl 31 _ rfl (hcl 32 _ rfl hD 31 dc) 30 dc) 22 dc)) zaG) (zaa rfl (zaa rfl (zaa (zaB (fun hD => hn (hcl 30 _ rfl (hcl 31 _ rfl hD 30 dc) 22 dc)) zaG) rfl))))))))) ?_
          refine zaz rfl dc (zaj (m := 17) rfl rfl (hd 17 dc)) (zaj (m := 21) rfl rfl (hd 21 dc)) (zcE (r := (p15.length : Int) - q1.From) (IntWalk.i64_in _ hg8)) ?_
          exact zaZ (b8, hd16) 22 (by rfl) (by rfl) rfl (congrArg (dl D) rfl) (zaa rfl (zaa rfl (zaa rfl (zaa rfl (zaa rfl (zaa ((zaJ (by rfl)).trans (zaB (fun hD => hn (hcl 30 _ rfl (hcl 31 _ rfl (hcl 32 _ rfl hD 31 dc) 30 dc) 22 dc)) zaG)) (zaa rfl (zaa rfl (zaa ((zaJ (by rfl)).trans (zaB (fun hD => hn (hcl 30 _ rfl (hcl 31 _ rfl hD 30 dc) 22 dc)) zaG)) rfl)))))))))
         ·
          intro D b hn hd hcl
          obtain ⟨b8, hd16⟩ := b
          refine zaX (zaa rfl (zaa rfl (zaa rfl (zaa rfl (zaa rfl (zaa (zaB (fun hD => hn (hcl 24 _ rfl (hcl 26 _ rfl (hcl 29 _ rfl (hcl 30 _ rfl (hcl 31 _ rfl (hcl 32 _ rfl hD 31 dc) 30 dc) 29 dc) 26 dc) 24 dc) 23 dc)) zaG) (zaa rfl (zaa rfl (zaa (zaB (fun hD => hn (hcl 24 _ rfl (hcl 26 _ rfl (hcl 29 _ rfl (hcl 30 _ rfl (hcl 31 _ rfl hD 30 dc) 29 dc) 26 dc) 24 dc) 23 dc)) zaG) rfl))))))))) ?_
          refine zam zeV rfl dc (zaS (by rfl) rfl) (show _ = 0 from rfl) ?_
          exact zaZ (b8, hd16) 23 (by rfl) (by rfl) rfl (congrArg (dl D) rfl) (zaa rfl (zaa rfl (zaa rfl (zaa rfl (zaa rfl (zaa ((zaJ (by rfl)).trans (zaB (fun hD => hn (hcl 24 _ rfl (hcl 26 _ rfl (hcl 29 _ rfl (hcl 30 _ rfl (hcl 31 _ rfl (hcl 32 _ rfl hD 31 dc) 30 dc) 29 dc) 26 dc) 24 dc) 23 dc)) zaG)) (zaa rfl (zaa rfl (zaa ((zaJ (by rfl)).trans (zaB (fun hD => hn (hcl 24 _ rfl (hcl 26 _ rfl (hcl 29 _ rfl (hcl 30 _ rfl (hcl 31 _ rfl hD 30 dc) 29 dc) 26 dc) 24 dc) 23 dc)) zaG)) rfl)))))))))
         ·
          intro D b hn hd hcl
          obtain ⟨b8, hd16⟩ := b
          refine zaX (zaa rfl (zaa rfl (zaa rfl (zaa rfl (zaa rfl (zaa (zaB (fun hD => hn (hcl 26 _ rfl (hcl 29 _ rfl (hcl 30 _ rfl (hcl 31 _ rfl (hcl 32 _ rfl hD 31 dc) 30 dc) 29 dc) 26 dc) 24 dc)) zaG) (zaa rfl (zaa rfl (zaa (zaB (fun hD => hn (hcl 26 _ rfl (hcl 29 _ rfl (hcl 30 _ rfl (hcl 31 _ rfl hD 30 dc) 29 dc) 26 dc) 24 dc)) zaG) rfl))))))))) ?_
          refine zaP (k := 7) zcx rfl dc (zaj (m := 23) rfl rfl (hd 23 dc)) rfl rfl ?_
          exact zaZ (b8, hd16) 24 (by rfl) (by rfl) rfl (congrArg (dl D) rfl) (zaa rfl (zaa rfl (zaa rfl (zaa rfl (zaa rfl (zaa ((zaJ (by rfl)).trans (zaB (fun hD => hn (hcl 26 _ rfl (hcl 29 _ rfl (hcl 30 _ rfl (hcl 31 _ rfl (hcl 32 _ rfl hD 31 dc) 30 dc) 29 dc) 26 dc) 24 dc)) zaG)) (zaa rfl (zaa rfl (zaa ((zaJ (by rfl)).trans (zaB (fun hD => hn (hcl 26 _ rfl (hcl 29 _ rfl (hcl 30 _ rfl (hcl 31 _ rfl hD 30 dc) 29 dc) 26 dc) 24 dc)) zaG)) rfl)))))))))
         ·
          intro D b hn hd hcl
          obtain ⟨b8, hd16⟩ := b
          refine zaX (zaa rfl (zaa rfl (zaa rfl (zaa rfl (zaa rfl (zaa (zaB (fun hD => hn (hcl 26 _ rfl (hcl 29 _ rfl (hcl 30 _ rfl (hcl 31 _ rfl (hcl 32 _ rfl hD 31 dc) 30 dc) 29 dc) 26 dc) 25 dc)) zaG) (zaa rfl (zaa rfl (zaa (zaB (fun hD => hn (hcl 26 _ rfl (hcl 29 _ rfl (hcl 30 _ rfl (hcl 31 _ rfl hD 30 dc) 29 dc) 26 dc) 25 dc)) zaG) rfl))))))))) ?_
          refine zag rfl dc (zaS (by rfl) rfl) ?_
          exact zaZ (b8, hd16) 25 (by rfl) (by rfl) rfl (congrArg (dl D) rfl) (zaa rfl (zaa rfl (zaa rfl (zaa rfl (zaa rfl (zaa ((zaJ (by rfl)).trans (zaB (fun hD => hn (hcl 26 _ rfl (hcl 29 _ rfl (hcl 30 _ rfl (hcl 31 _ rfl (hcl 32 _ rfl hD 31 dc) 30 dc) 29 dc) 26 dc) 25 dc)) zaG)) (zaa rfl (zaa rfl (zaa ((zaJ (by rfl)).trans (zaB (fun hD => hn (hcl 26 _ rfl (hcl 29 _ rfl (hcl 30 _ rfl (hcl 31 _ rfl hD 30 dc) 29 dc) 26 dc) 25 dc)) zaG)) rfl)))))))))
         ·
          intro D b hn hd hcl
          obtain ⟨b8, hd16⟩ := b
          refine zaX (zaa rfl (zaa rfl (zaa rfl (zaa rfl (zaa rfl (zaa (zaB (fun hD => hn (hcl 29 _ rfl (hcl 30 _ rfl (hcl 31 _ rfl (hcl 32 _ rfl hD 31 dc) 30 dc) 29 dc) 26 dc)) zaG) (zaa rfl (zaa rfl (zaa (zaB (fun hD => hn (hcl 29 _ rfl (hcl 30 _ rfl (hcl 31 _ rfl hD 30 dc) 29 dc) 26 dc)) zaG) rfl))))))))) ?_
          refine zaz rfl dc (zaj (m := 24) rfl rfl (hd 24 dc)) (zaj (m := 25) rfl rfl (hd 25 dc)) (zbs (r := span1 + r7) (IntWalk.i64_in _ hg9)) ?_
          exact zaZ (b8, hd16) 26 (by rfl) (by rfl) rfl (congrArg (dl D) rfl) (zaa rfl (zaa rfl (zaa rfl (zaa rfl (zaa rfl (zaa ((zaJ (by rfl)).trans (zaB (fun hD => hn (hcl 29 _ rfl (hcl 30 _ rfl (hcl 31 _ rfl (hcl 32 _ rfl hD 31 dc) 30 dc) 29 dc) 26 dc)) zaG)) (zaa rfl (zaa rfl (zaa ((zaJ (by rfl)).trans (zaB (fun hD => hn (hcl 29 _ rfl (hcl 30 _ rfl (hcl 31 _ rfl hD 30 dc) 29 dc) 26 dc)) zaG)) rfl)))))))))
         ·
          intro D b hn hd hcl
          obtain ⟨b8, hd16⟩ := b
          refine zaX (zaa rfl (zaa rfl (zaa rfl (zaa rfl (zaa rfl (zaa (zaB (fun hD => hn (hcl 28 _ rfl (hcl 29 _ rfl (hcl 30 _ rfl (hcl 31 _ rfl (hcl 32 _ rfl hD 31 dc) 30 dc) 29 dc) 28 dc) 27 dc)) zaG) (zaa rfl (zaa rfl (zaa (zaB (fun hD => hn (hcl 28 _ rfl (hcl 29 _ rfl (hcl 30 _ rfl (hcl 31 _ rfl hD 30 dc) 29 dc) 28 dc) 27 dc)) zaG) rfl))))))))) ?_
          refine zam zcN rfl dc (zaS (by rfl) rfl) (show _ = 1 from rfl) ?_
          exact zaZ (b8, hd16) 27 (by rfl) (by rfl) rfl (congrArg (dl D) rfl) (zaa rfl (zaa rfl (zaa rfl (zaa rfl (zaa rfl (zaa ((zaJ (by rfl)).trans (zaB (fun hD => hn (hcl 28 _ rfl (hcl 29 _ rfl (hcl 30 _ rfl (hcl 31 _ rfl (hcl 32 _ rfl hD 31 dc) 30 dc) 29 dc) 28 dc) 27 dc)) zaG)) (zaa rfl (zaa rfl (zaa ((zaJ (by rfl)).trans (zaB (fun hD => hn (hcl 28 _ rfl (hcl 29 _ rfl (hcl 30 _ rfl (hcl 31 _ rfl hD 30 dc) 29 dc) 28 dc) 27 dc)) zaG)) rfl)))))))))
         ·
          intro D b hn hd hcl
          obtain ⟨b8, hd16⟩ := b
          refine zaX (zaa rfl (zaa rfl (zaa rfl (zaa rfl (zaa rfl (zaa (zaB (fun hD => hn (hcl 29 _ rfl (hcl 30 _ rfl (hcl 31 _ rfl (hcl 32 _ rfl hD 31 dc) 30 dc) 29 dc) 28 dc)) zaG) (zaa rfl (zaa rfl (zaa (zaB (fun hD => hn (hcl 29 _ rfl (hcl 30 _ rfl (hcl 31 _ rfl hD 30 dc) 29 dc) 28 dc)) zaG) rfl))))))))) ?_
          refine zaP (k := 7) zcx rfl dc (zaj (m := 27) rfl rfl (hd 27 dc)) rfl rfl ?_
          exact zaZ (b8, hd16) 28 (by rfl) (by rfl) rfl (congrArg (dl D) rfl) (zaa rfl (zaa rfl (zaa rfl (zaa rfl (zaa rfl (zaa ((zaJ (by rfl)).trans (zaB (fun hD => hn (hcl 29 _ rfl (hcl 30 _ rfl (hcl 31 _ rfl (hcl 32 _ rfl hD 31 dc) 30 dc) 29 dc) 28 dc)) zaG)) (zaa rfl (zaa rfl (zaa ((zaJ (by rfl)).trans (zaB (fun hD => hn (hcl 29 _ rfl (hcl 30 _ rfl (hcl 31 _ rfl hD 30 dc) 29 dc) 28 dc)) zaG)) rfl)))))))))
         ·
          intro D b hn hd hcl
          obtain ⟨b8, hd16⟩ := b
          refine zaX (zaa rfl (zaa rfl (zaa rfl (zaa rfl (zaa rfl (zaa (zaB (fun hD => hn (hcl 30 _ rfl (hcl 31 _ rfl (hcl 32 _ rfl hD 31 dc) 30 dc) 29 dc)) zaG) (zaa rfl (zaa rfl (zaa (zaB (fun hD => hn (hcl 30 _ rfl (hcl 31 _ rfl hD 30 dc) 29 dc)) zaG) rfl))))))))) ?_
          refine zba (v := .agg #[zI (span1 + r7), zI span2]) (ps := [(0, .tmp 145), (1, .tmp 147)]) rfl dc (evP.cons (zaj (m := 26) rfl rfl (hd 26 dc)) (evP.cons (zaj (m := 28) rfl rfl (hd 28 dc)) evP.nil)) (fun _ => by kernel_rfl) ?_
          exact zaZ (b8, hd16) 29 (by rfl) (by rfl) rfl (congrArg (dl D) rfl) (zaa rfl (zaa rfl (zaa rfl (zaa rfl (zaa rfl (zaa ((zaJ (by rfl)).trans (zaB (fun hD => hn (hcl 30 _ rfl (hcl 31 _ rfl (hcl 32 _ rfl hD 31 dc) 30 dc) 29 dc)) zaG)) (zaa rfl (zaa rfl (zaa ((zaJ (by rfl)).trans (zaB (fun hD => hn (hcl 30 _ rfl (hcl 31 _ rfl hD 30 dc) 29 dc)) zaG)) rfl)))))))))
         ·
          intro D b hn hd hcl
          obtain ⟨b8, hd16⟩ := b
          refine zaX (zaa rfl (zaa rfl (zaa rfl (zaa rfl (zaa rfl (zaa (zaB (fun hD => hn (hcl 31 _ rfl (hcl 32 _ rfl hD 31 dc) 30 dc)) zaG) (zaa rfl (zaa rfl (zaa (zaB (fun hD => hn (hcl 31 _ rfl hD 30 dc)) zaG) rfl))))))))) ?_
          refine zba (v := .agg #[.string (zdx line1 r7 (line1.size : Int)), zI r7, zI ((p20.length : Int) - 1), zI ((p15.length : Int) - q1.From), zI (span1 + r7), zI span2]) (ps := [(0, .tmp 127), (1, .tmp 128), (2, .tmp 135), (3, .tmp 141), (4, .tmp 148)]) rfl dc (evP.cons (zaj (m := 8) rfl rfl (hd 8 dc)) (evP.cons (zaj (m := 9) rfl rfl (hd 9 dc)) (evP.cons (zaj (m := 16) rfl rfl (hd 16 dc)) (evP.cons (zaj (m := 22) rfl rfl (hd 22 dc)) (evP.cons (zaj (m := 29) rfl rfl (hd 29 dc)) evP.nil))))) (fun _ => by kernel_rfl) ?_
          exact zaZ (b8, hd16) 30 (by rfl) (by rfl) rfl (congrArg (dl D) rfl) (zaa rfl (zaa rfl (zaa rfl (zaa rfl (zaa rfl (zaa ((zaJ (by rfl)).trans (zaB (fun hD => hn (hcl 31 _ rfl (hcl 32 _ rfl hD 31 dc) 30 dc)) zaG)) (zaa rfl (zaa rfl (zaa ((zaJ (by rfl)).trans (zaB (fun hD => hn (hcl 31 _ rfl hD 30 dc)) zaG)) rfl)))))))))
         ·
          intro D b hn hd hcl
          obtain ⟨_, hd16⟩ := b
          refine zaX (zaa rfl (zaa rfl (zaa rfl (zaa rfl (zaa rfl (zaa (zaB (fun hD => hn (hcl 32 _ rfl hD 31 dc)) zaG) (zaa rfl (zaa rfl (zaa (zaB hn zaG) rfl))))))))) ?_
          refine zbC (cs := [.string (zdx line1 r7 (line1.size : Int)), zI r7, zI ((p20.length : Int) - 1), zI ((p15.length : Int) - q1.From), zI (span1 + r7), zI span2]) (te := 36) (ps := [(0, .tmp 149)]) rfl dc (evP.cons (zaj (m := 30) rfl rfl (hd 30 dc)) evP.nil) (fun _ => by kernel_rfl) (fun b8 => ?_)
          refine zeP 8 rfl rfl ?_
          show TO _ _ _ _ _ _ _ _ _ _ [cells b1 [zI 0, zI 0] 26, cells b4 [.string p4.text, hd3.v, hd4.v] 128, vec zaH 130 5 hd3.v p4.places, vec zaD 132 4 hd4.v p4.lines, cells b3 [.string p14, hd10.v, hd14.v, .string text1] 93, vec zal 36 6 hd10.v p15, vec zaq 34 2 hd14.v p20, cells b5 [zI span1, zI span2] 34, cells b8 [.string (zdx line1 r7 (line1.size : Int)), zI r7, zI ((p20.length : Int) - 1), zI ((p15.length : Int) - q1.From), zI (span1 + r7), zI span2] 36]
          exact zaZ (b8, hd16) 31 (by rfl) (by rfl) rfl (zax (fun _ => rfl) (zax (fun _ => rfl) (zax (fun _ => rfl) (zax (fun _ => rfl) (zax (fun _ => rfl) (zax (fun _ => rfl) (zax (fun _ => rfl) (zax (fun _ => rfl) (zax (fun _ => rfl) (zax (fun _ => rfl) (zax (fun _ => rfl) (zax (fun _ => rfl) (zax (fun _ => rfl) (zax (fun _ => rfl) (zax (fun _ => rfl) (zax (fun _ => rfl) (zax (fun _ => rfl) (zax (fun _ => rfl) (zax (fun _ => rfl) (zax (fun _ => rfl) (zax (fun _ => rfl) (zax (fun _ => rfl) (zax (fun _ => rfl) (zax (fun _ => rfl) (zax (fun _ => rfl) (zax (fun _ => rfl) (zax (fun _ => rfl) (zax (fun _ => rfl) (zax (fun _ => rfl) (zax (fun _ => rfl) (zax (fun _ => rfl) (zax (fun hD => absurd hD hn) (zax (fun _ => rfl) rfl))))))))))))))))))))))))))))))))) (zaa rfl (zaa rfl (zaa rfl (zaa rfl (zaa rfl (zaa ((zaJ (by rfl)).trans (zaB (fun hD => hn (hcl 32 _ rfl hD 31 dc)) zaG)) (zaa rfl (zaa rfl (zaa (zbz (Or.inr rfl) rfl) rfl)))))))))
         ·
          intro D b hn hd hcl
          obtain ⟨b8, _⟩ := b
          refine zaX (zaa rfl (zaa rfl (zaa rfl (zaa rfl (zaa rfl (zaa (zaB hn zaG) (zaa rfl (zaa rfl (zaa (zbz (hd 31 dc) rfl) rfl))))))))) ?_
          refine zcS (k := 5) (k2 := 8) (ys := [(⟨zdx line1 r7 (line1.size : Int), r7, (p20.length : Int) - 1, (p15.length : Int) - q1.From, span1 + r7, span2⟩ : Gapi_Verse)]) Tryd.underlying57 zpw zcg zgB rfl dc (zaj (m := 5) rfl rfl (hd 5 dc)) (zaj (m := 31) rfl rfl (hd 31 dc)) rfl rfl rfl rfl hg10 (fun v3 => ?_)
          refine zef (k := 5) rfl (fun hd16 he2 => ?_)
          subst he2
          exact zaZ (b8, hd16) 32 (by rfl) (by rfl) rfl (zax (fun _ => rfl) (zax (fun _ => rfl) (zax (fun _ => rfl) (zax (fun _ => rfl) (zax (fun _ => rfl) (zax (fun _ => rfl) (zax (fun _ => rfl) (zax (fun _ => rfl) (zax (fun _ => rfl) (zax (fun _ => rfl) (zax (fun _ => rfl) (zax (fun _ => rfl) (zax (fun _ => rfl) (zax (fun _ => rfl) (zax (fun _ => rfl) (zax (fun _ => rfl) (zax (fun _ => rfl) (zax (fun _ => rfl) (zax (fun _ => rfl) (zax (fun _ => rfl) (zax (fun _ => rfl) (zax (fun _ => rfl) (zax (fun _ => rfl) (zax (fun _ => rfl) (zax (fun _ => rfl) (zax (fun _ => rfl) (zax (fun _ => rfl) (zax (fun _ => rfl) (zax (fun _ => rfl) (zax (fun _ => rfl) (zax (fun _ => rfl) (zax (fun _ => rfl) (zax (fun hD => absurd hD hn) rfl))))))))))))))))))))))))))))))))) (zaa rfl (zaa rfl (zaa rfl (zaa rfl (zaa rfl (zaa (zbz (Or.inr rfl) rfl) (zaa rfl (zaa rfl (zaa ((zaJ (by rfl)).trans (zbz (hd 31 dc) rfl)) rfl)))))))))
         intro D b hall
         obtain ⟨b8, hd16⟩ := b
         refine zaX (zaa rfl (zaa rfl (zaa rfl (zaa rfl (zaa rfl (zaa (zbz (hall 32 dc) rfl) (zaa rfl (zaa rfl (zaa (zbz (hall 31 dc) rfl) rfl))))))))) (zaC rfl dc rfl (zam zbG rfl dc rfl (show _ = 0 from rfl) (zam zcY rfl dc rfl (show _ = 1 from rfl) ?_)))
         refine zaN (k := 4) (l' := [.string p14, hd16.v, hd14.v, .string text1]) zo0 rfl rfl rfl rfl rfl (fun _ _ => rfl) rfl ?_
         refine zan (zaf (zad (zag rfl dc rfl (zag rfl dc rfl ?_))))
         obtain ⟨hg11, h⟩ := zcX h
         refine zaz rfl dc rfl rfl (zbs (r := (p15.length : Int) + 1) (IntWalk.i64_in _ hg11)) (zaC rfl dc rfl (zam zcN rfl dc rfl (show _ = (((p20.length : Int) - 1 : Int).toNat) * 2 + 1 from rfl) ?_))
         refine zge (i := ((p20.length : Int) - 1 : Int).toNat) (j := 1) (k := 6) (q := q1) (q' := (⟨q1.From, (p15.length : Int) + 1⟩ : Gapi_Span)) zdW zd5 rfl rfl rfl rfl (zdv hq8) rfl dc rfl (fun _ _ => rfl) ?_
         show TO _ _ _ _ _ _ _ _ _ _ [cells b1 [zI 0, zI 0] 26, cells b4 [.string p4.text, hd3.v, hd4.v] 128, vec zaH 130 5 hd3.v p4.places, vec zaD 132 4 hd4.v p4.lines, cells b3 [.string p14, hd16.v, hd14.v, .string text1] 93, vec zal 36 6 hd16.v (p15 ++ [(⟨zdx line1 r7 (line1.size : Int), r7, (p20.length : Int) - 1, (p15.length : Int) - q1.From, span1 + r7, span2⟩ : Gapi_Verse)]), vec zaq 34 2 hd14.v (p20.set ((p20.length : Int) - 1 : Int).toNat (⟨q1.From, (p15.length : Int) + 1⟩ : Gapi_Span)), cells b5 [zI span1, zI span2] 34, cells b8 [.string (zdx line1 r7 (line1.size : Int)), zI r7, zI ((p20.length : Int) - 1), zI ((p15.length : Int) - q1.From), zI (span1 + r7), zI span2] 36]
         refine zan (zaw ?_)
         exact za3 (p14, p15 ++ [(⟨zdx line1 r7 (line1.size : Int), r7, (p20.length : Int) - 1, (p15.length : Int) - q1.From, span1 + r7, span2⟩ : Gapi_Verse)], p20.set ((p20.length : Int) - 1 : Int).toNat (⟨q1.From, (p15.length : Int) + 1⟩ : Gapi_Span), false, true, hd16, hd14) h rfl (zah rfl (zah rfl (zah rfl (zah rfl (zah rfl (zah rfl (zah rfl (zah rfl (zaQ))))))))) (zak [0, 1, 2, 3, 4, 5, 6] kr rfl)
      ·
       rintro ⟨p17, p18, p19, first4, row4, hd12, hd13⟩ h
       rw [hj2] at h
       show TC _ _ _ _ _ ([]) _ _ [(0, .string text1), (3, zP b1), (4, zP b4), (6, zP b3), (7, .bool first4), (8, .bool row4), (30, zI r2), (31, zI x3)] [cells b1 [zI 0, zI 0] 26, cells b4 [.string p4.text, hd3.v, hd4.v] 128, vec zaH 130 5 hd3.v p4.places, vec zaD 132 4 hd4.v p4.lines, cells b3 [.string p17, hd12.v, hd13.v, .string text1] 93, vec zal 36 6 hd12.v p18, vec zaq 34 2 hd13.v p19]
       refine zad ?_
       obtain ⟨hg12, h⟩ := zcX h
       refine zaz rfl dc rfl rfl (zbs (r := x3 + 1) (IntWalk.i64_in _ hg12)) (zag rfl dc rfl (zan ?_))
       subst hag1
       exact zbq (n1, p17, p18, p19, first4, row4, x3 + 1, hd12, hd13) h (Nat.lt_succ_self _) rfl (zah rfl (zah rfl (zah rfl (zah rfl (zah rfl (zah rfl (zah rfl (zah rfl (zaQ))))))))) (zak [0, 1, 2, 3, 4, 5, 6] kr rfl)
     ·
      have h := za7 hb2 h
      refine zbA (zaR (zaR (za2 ?_)))
      exact za3 (p14, p15, p16, b3, hd10, hd11) h rfl (zah rfl (zah rfl (zaQ))) (zak [0, 4, 5, 6] kr rfl)
   ·
    rintro ⟨p1, p2, p3, b2, hd1, hd2⟩ h
    rw [hj1] at h
    show TC _ _ _ _ _ ([]) _ _ [(3, zP b1), (6, zP b2)] [cells b1 [zI 0, zI 0] 26, cells b2 [.string p1, hd1.v, hd2.v, .string text1] 93, vec zal 36 6 hd1.v p2, vec zaq 34 2 hd2.v p3]
    refine zap (zad (zag rfl dc rfl ?_))
    refine zba (v := .agg #[zI 0, zI 0]) (ps := []) rfl dc rfl (fun _ => by kernel_rfl) ?_
    refine zai rfl dc rfl (za8 (k := 0) (vs := [zI 0, zI 0]) (l' := [zI 0, zI 0]) ziy rfl rfl rfl rfl rfl (show _ ≤ _ by simp) rfl rfl (zan (zaf (zaE (zbZ (by simp) ?_)))))
    refine zlS (As := [cells b2 [.string p1, hd1.v, hd2.v, .string text1] 93, vec zal 36 6 hd1.v p2, vec zaq 34 2 hd2.v p3]) (zak [1, 2, 3] kr rfl) (ziq (enc := zac) (nest := zab) (t := 93) (x := (⟨p1, p2, p3, text1⟩ : Gpoem_Poem)) (b := b2) (hd := (hd1, hd2))) (fun _ _ => ?_)
    show TX _ _ _ _ _ _ _ [cells b1 [zI 0, zI 0] 26, emp, emp, emp, za5 zac zab 93 (zP b2) (some (⟨p1, p2, p3, text1⟩ : Gpoem_Poem))]
    cases h
    exact zaM (rs := [.tmp 2, .cell 3 26]) (zP b2) (.inl rfl) Tryd.results13 (.cons (.tmp rfl) (.cons (.cells zjG (k := 0) rfl rfl rfl) .nil)) rfl (zak [4] kr rfl)
 ·
  exact fun b hb => hb.elim
end Go.Proofs.YtgfkogafkhbgnaaDoor
namespace Go.Proofs.YtgfkogafkhbgnaaDoor
open Go.RowKit Go.Lib
set_option linter.unusedVariables false
set_option linter.unusedSimpArgs false
theorem zkH {α : Type} {enc : α → List Value} {size k : Nat} {vv : Value} {xs : List α} {e : TypeId} (hz : ∀ x, (enc x).length = size) {C : Nat → Prop} {w : World} (h : (vec enc e size vv xs).P C w) : (zeG enc size vv k xs).P C w :=
  ⟨(zgm hz h).1, fun i x j v h1 h2 h3 => (zgm hz h).2 i x j v (Nat.zero_le _) h2 h3⟩
/-- Where a slice's records lie: a block's beginning, a place, what lies there. -/
structure Seat (α : Type) where
  vv : Value
  k : Nat
  L : List α
/-- The slice of that header can be read: xs. -/
def zlq {α : Type} (enc : α → List Value) (size : Nat) (hd : Hd) (xs : List α) : Asn :=
  exA fun b : {b : Seat α // Vw b.vv b.L size b.k hd.v xs} => zeG enc size b.1.vv b.1.k b.1.L
theorem zmc {α : Type} {enc : α → List Value} {size : Nat} {e : TypeId} {hd : Hd} {xs : List α} (hlen : ∀ x, (enc x).length = size) {C : Nat → Prop} {w : World} (h : (vec enc e size hd.v xs).P C w) : (zlq enc size hd xs).P C w :=
  ⟨⟨⟨hd.v, 0, xs⟩, ziw h⟩, zgm hlen h⟩
section
variable {α η : Type} {enc : α × η → List Value} {nest nestR : α × η → List Asn} {e : TypeId} {size : Nat} {v : Value} {xs : List α} {zs : List (α × η)} {z : α × η}
/-- What the records zs own can be read. -/
def zf5 (nestR : α × η → List Asn) (zs : List (α × η)) : Asn :=
  ⟨fun C w => (∀ k, C k → k < w.heap.size) ∧ ∀ z ∈ zs, ∀ A ∈ nestR z, ∃ D, A.P D w ∧ ∀ k, D k → C k,
   fun h k hk => h.1 k hk,
   fun {C w w'} h hs hk => ⟨fun k hC => Nat.lt_of_lt_of_le (h.1 k hC) hs, fun z hz A hA => by
     obtain ⟨D, h1, h2⟩ := h.2 z hz A hA
     exact ⟨D, A.loc h1 hs (fun k hD => hk k (h2 k hD)), h2⟩⟩⟩
/-- What is owned gives what is read. -/
def zmF (nest nestR : α × η → List Asn) : Prop := ∀ z C w, sepL (nest z) C w → ∀ A ∈ nestR z, ∃ D, A.P D w ∧ ∀ k, D k → C k
theorem zlH {C : Nat → Prop} {w : World} (h : sepL (zs.flatMap nest) C w) (hz : z ∈ zs) : ∃ D, sepL (nest z) D w ∧ ∀ k, D k → C k := by
  obtain ⟨i, hi⟩ := List.getElem?_of_mem hz
  obtain ⟨C1, C2, h1, _, _, h4⟩ := (zhy hi).1 h
  exact ⟨C1, h1, fun k hk => (h4 k).2 (.inl hk)⟩
theorem zi7 (hG : zmF nest nestR) {C : Nat → Prop} {w : World} (h : (own nest zs).P C w) : (zf5 nestR zs).P C w :=
  ⟨(own nest zs).lt h, fun z hz A hA => by
    obtain ⟨D, h1, h2⟩ := zlH (show sepL (zs.flatMap nest) C w from h) hz
    obtain ⟨E, h3, h4⟩ := hG z D w h1 A hA
    exact ⟨E, h3, fun k hk => h2 k (h4 k hk)⟩⟩
variable {w0 : World} {K : Nat → Prop} {RD : List Asn} {i j : Nat}
theorem Rd.openEl (hr : Rd w0 K RD) (hi : RD[i]? = some (zf5 nestR zs)) (hz : zs[j]? = some z) : Rd w0 K (RD ++ nestR z) :=
  hr.more hi fun C hC B hB => hC.2 z (List.mem_of_getElem? hz) B hB
theorem Rd.openSl {β : Type} {enc1 : β → List Value} {hd : Hd} {ys : List β} (hr : Rd w0 K RD) (hi : RD[i]? = some (zlq enc1 size hd ys)) : ∃ vv k L, Vw vv L size k hd.v ys ∧ Rd w0 K (RD ++ [zeG enc1 size vv k L]) := by
  obtain ⟨C, ⟨⟨⟨vv, k, L⟩, hV⟩, hC⟩, hk⟩ := hr _ (List.mem_of_getElem? hi)
  refine ⟨vv, k, L, hV, hr.append fun B hB => ?_⟩
  rw [List.mem_singleton] at hB
  subst hB
  exact ⟨C, hC, hk⟩
theorem Rd.openN (hr : Rd w0 K RD) (hi : RD[i]? = some (zb2 enc nest e size v xs)) (hlen : ∀ z, (enc z).length = size) (hG : zmF nest nestR) :
    ∃ zs : List (α × η), zs.map Prod.fst = xs ∧ Vw v zs size 0 v zs ∧ Rd w0 K (RD ++ [zeG enc size v 0 zs, zf5 nestR zs]) := by
  obtain ⟨C, h, hk⟩ := hr _ (List.mem_of_getElem? hi)
  obtain ⟨zs, hz, h1⟩ := zme C w0 h
  obtain ⟨C1, C2, g1, g2, _, g4⟩ := zif h1
  refine ⟨zs, hz, ziw g1, hr.append fun B hB => ?_⟩
  rcases List.mem_cons.1 hB with rfl | hB
  · exact ⟨C1, zgm hlen g1, fun k h => hk k ((g4 k).2 (.inl h))⟩
  · rw [List.mem_singleton] at hB
    subst hB
    exact ⟨C2, zi7 hG g2, fun k h => hk k ((g4 k).2 (.inr h))⟩
/-- A contract that reads a slice's records, closed: it reads the slice that owns them. -/
theorem ze6 {P : Program} {f : FuncId} {vs : List Value} {RD1 RD2 As : List Asn} {β : Type} {V : β → Value} {Bs : β → List Asn} (hlen : ∀ z, (enc z).length = size) (hG : zmF nest nestR)
    (h : ∀ zs : List (α × η), zs.map Prod.fst = xs → Vw v zs size 0 v zs → FnR P f vs (RD1 ++ [zeG enc size v 0 zs, zf5 nestR zs] ++ RD2) As V Bs) : FnR P f vs (RD1 ++ [zb2 enc nest e size v xs] ++ RD2) As V Bs := fun w C hR => by
  obtain ⟨zs, hz, hV, h1⟩ := hR.openN (i := RD1.length) (nest := nest) (e := e) (v := v) (xs := xs) (by simp) hlen hG
  refine h zs hz hV w C fun A hA => h1 A ?_
  simp only [List.mem_append, List.mem_cons, List.not_mem_nil, or_false] at hA ⊢
  rcases hA with (hA | hA) | hA
  · exact .inl (.inl (.inl hA))
  · exact .inr hA
  · exact .inl (.inr hA)
end
section
variable {α η : Type} {nest : α × η → List Asn} {zs ys : List (α × η)}
end
section
variable {F : Fence} {P : Program} {w0 : World} {K : Nat → Prop} {N : Nat} {dfs : List Deferred} {Q : Exit → Act → World → Prop} {σ : List (Nat × Value)} {L : List Asn} {c : Code} {k : Nat} {α η : Type} {enc : α × η → List Value} {nest : α × η → List Asn} {t : TypeId} {p : Value} {m : Option α}
end
end Go.Proofs.YtgfkogafkhbgnaaDoor
namespace Go.Proofs.YtgfkogafkhbgnaaDoor
open Go.RowKit Go.Lib
def zbx (z : (List ByteArray) × Hd) : List Asn := [zlq zfL 1 z.2 z.1]
theorem zc8 : zmF zau zbx := by
  intro z C w h A hA
  simp only [zbx, List.mem_cons, List.not_mem_nil, or_false] at hA
  rcases hA with rfl
  · obtain ⟨D, h1, h2⟩ := zi4 h _ (List.mem_of_getElem? (i := 0) rfl); exact ⟨D, zmc zfV h1, h2⟩
end Go.Proofs.YtgfkogafkhbgnaaDoor
namespace Go.Proofs.YtgfkogafkhbgnaaDoor
open Go.RowKit Go.Lib
set_option linter.unusedVariables false
set_option linter.unusedSimpArgs false
end Go.Proofs.YtgfkogafkhbgnaaDoor
namespace Go.Proofs.YtgfkogafkhbgnaaDoor
open Go.RowKit Go.Lib
set_option linter.unusedVariables false
set_option linter.unusedSimpArgs false
/-! ### Texts of bytes -/
def mkB (l : List UInt8) : ByteArray := ⟨l.toArray⟩
theorem ziD (l : List UInt8) : (mkB l).data.toList = l := rfl
theorem zcJ (l : List UInt8) : (mkB l).size = l.length := by rw [← zoF, ziD]
theorem zjO {a b : List UInt8} (h : mkB a = mkB b) : a = b := by
  have := congrArg (fun s : ByteArray => s.data.toList) h
  exact this
theorem znC (l : List UInt8) (i j : Nat) : zdx (mkB l) (i : Int) (j : Int) = mkB ((l.drop i).take (j - i)) := by
  unfold zdx
  have h : ∀ a b : ByteArray, a.data.toList = b.data.toList → a = b := fun a b h => by
    have : mkB a.data.toList = mkB b.data.toList := by rw [h]
    exact this
  apply h
  rw [ziD]
  simp only [Int.toNat_natCast, ByteArray.data_extract, Array.toList_extract, List.extract, ziD]
/-! ### Blank lines -/
def isB (b : UInt8) : Bool := b == 32 || b == 9
def znH (l : List UInt8) : Bool := l.all isB
/-! ### Title lines -/
def znV : List UInt8 → Bool
  | [] => false
  | [b] => b == 35
  | b :: c :: _ => b == 35 && c == 32
theorem zo3 (l p : List UInt8) : zbj (mkB l) (mkB p) = some (decide (p.length ≤ l.length) && decide (l.take p.length = p)) := by
  unfold zbj
  rw [zcJ, zcJ]
  by_cases h : p.length ≤ l.length
  · refine zdh (decide_eq_true (by omega)) (ziE ⟨by omega, by omega, by omega⟩ (congrArg some ?_))
    have := znC l 0 p.length
    rw [show ((0 : Nat) : Int) = 0 from rfl] at this
    rw [this, List.drop_zero, Nat.sub_zero, decide_eq_true h, Bool.true_and]
    by_cases e : l.take p.length = p
    · rw [decide_eq_true e, decide_eq_true (by rw [e])]
    · rw [decide_eq_false e, decide_eq_false (fun x => e (zjO x))]
  · refine zc6 (decide_eq_false (by omega)) ?_
    rw [decide_eq_false h]; rfl
theorem zl3 (l : List UInt8) : zdt (mkB l) = some (znV l) := by
  unfold zdt zcU
  rw [show (⟨#[35]⟩ : ByteArray) = mkB [35] from rfl, show (⟨#[35, 32]⟩ : ByteArray) = mkB [35, 32] from rfl]
  by_cases h : l = [35]
  · subst h; exact zdh (decide_eq_true rfl) rfl
  · refine zc6 (decide_eq_false (fun e => h (zjO e))) (zes (zes (zo3 _ _) rfl) (congrArg some ?_))
    match l with
    | [] => rfl
    | [b] =>
      have hb : b ≠ 35 := fun e => h (by rw [e])
      show _ = (b == 35)
      rw [beq_eq_false_iff_ne.2 hb]; rfl
    | b :: c :: t =>
      show _ = (b == 35 && c == 32)
      rw [decide_eq_true (by simp), Bool.true_and]
      show decide ([b, c] = [35, 32]) = _
      by_cases hb : b = 35 <;> by_cases hc : c = 32 <;> simp [hb, hc]
/-! ### Indents -/
def ind (l : List UInt8) : Nat := (l.takeWhile (· == 32)).length
theorem zkk (b : UInt8) (l : List UInt8) : ind (b :: l) = if b = 32 then ind l + 1 else 0 := by
  unfold ind
  rw [List.takeWhile_cons]
  by_cases h : b = 32
  · subst h; simp
  · rw [if_neg h, beq_eq_false_iff_ne.2 h]; rfl
theorem zon (l : List UInt8) : ind l ≤ l.length := by
  induction l with
  | nil => exact Nat.le_refl _
  | cons b l ih => rw [zkk, List.length_cons]; split <;> omega
end Go.Proofs.YtgfkogafkhbgnaaDoor
namespace Go.Proofs.YtgfkogafkhbgnaaDoor
open Go.RowKit Go.Lib
set_option linter.unusedVariables false
set_option linter.unusedSimpArgs false
/-- A text's lines: where each begins, and its bytes. -/
def zo4 (T : List UInt8) : List (Nat × List UInt8) := (zm4 T).map fun x => (x.1, (T.drop x.1).take (x.2 - x.1))

/-! ### The fold -/
structure RS where
  t : List UInt8
  stz : List (List (List UInt8))
  vs : List Gapi_Verse
  first : Bool
  row : Bool
def zfe (z : List (List (List UInt8))) : List (List UInt8) := z.getLastD []
def zdY (st : RS) : List (List (List UInt8)) := if st.row then st.stz else st.stz ++ [[]]
def ziv (f : Nat) (x : List UInt8) (z : List (List (List UInt8))) : Gapi_Verse := ⟨mkB (x.drop (ind x)), ind x, (z.length : Int) - 1, (zfe z).length, (f : Int) + ind x, ((f + x.length : Nat) : Int)⟩
def zpG (st : RS) (f : Nat) (x : List UInt8) : RS :=
  ⟨st.t, (zdY st).dropLast ++ [zfe (zdY st) ++ [x]], st.vs ++ [ziv f x (zdY st)], false, true⟩
def zi8 (st : RS) (x : Nat × List UInt8) : Except Gapi_Spot RS :=
  if znH x.2 = true then .ok { st with row := false }
  else if 1024 < x.2.length then .error ⟨3, (x.1 : Int) + 1024⟩
  else if st.first = true ∧ znV x.2 = true then .ok { st with first := false, t := x.2.drop 2 }
  else if st.vs.length = 512 then .error ⟨3, x.1⟩
  else .ok (zpG st x.1 x.2)
def zmQ : RS → List (Nat × List UInt8) → Except Gapi_Spot RS
  | st, [] => .ok st
  | st, x :: xs => match zi8 st x with
    | .ok st' => zmQ st' xs
    | .error e => .error e
def rs0 : RS := ⟨[], [], [], true, false⟩
def rd (T : List UInt8) : Except Gapi_Spot RS := if 65536 < T.length then .error ⟨3, 65536⟩ else zmQ rs0 (zo4 T)
def tot (z : List (List (List UInt8))) : Nat := (z.map List.length).sum
def zl5 : Nat → List (List (List UInt8)) → List Gapi_Span
  | _, [] => []
  | n, r :: rs => ⟨n, ((n + r.length : Nat) : Int)⟩ :: zl5 (n + r.length) rs
theorem zkd : ∀ (a b : List (List (List UInt8))) (n : Nat), zl5 n (a ++ b) = zl5 n a ++ zl5 (n + tot a) b
  | [], b, n => rfl
  | r :: a, b, n => by
    show _ :: zl5 (n + r.length) (a ++ b) = _
    rw [zkd a b]
    have : n + tot (r :: a) = n + r.length + tot a := by unfold tot; rw [List.map_cons, List.sum_cons]; omega
    rw [this]; rfl
theorem zhw (a b : List (List (List UInt8))) : tot (a ++ b) = tot a + tot b := by unfold tot; rw [List.map_append, List.sum_append]
theorem zhv (r : List (List UInt8)) : tot [r] = r.length := by unfold tot; simp
theorem zhH {z : List (List (List UInt8))} (h : z ≠ []) : z = z.dropLast ++ [zfe z] := by
  unfold zfe
  rw [List.getLastD_eq_getLast?, List.getLast?_eq_some_getLast h]
  exact (List.dropLast_concat_getLast h).symm
structure RInv (st : RS) : Prop where
  tot : st.vs.length = tot st.stz
  row : st.row = true → st.stz ≠ []
  most : st.vs.length ≤ 512
  ne : ∀ r ∈ st.stz, r ≠ []
  t0 : st.first = true → st.t = []
theorem zmJ : ∀ (z : List (List (List UInt8))), (∀ r ∈ z, r ≠ []) → z.length ≤ tot z
  | [], h => Nat.le_refl _
  | r :: z, h => by
    have h1 := zmJ z fun y hy => h y (by simp [hy])
    have h2 : 0 < r.length := List.length_pos_iff.2 (h r (by simp))
    have : tot (r :: z) = r.length + tot z := by unfold tot; rw [List.map_cons, List.sum_cons]
    rw [this, List.length_cons]; omega
theorem zkh {st : RS} (h : RInv st) : zdY st ≠ [] := by
  unfold zdY
  split
  · rename_i hr; exact h.row hr
  · simp
theorem zhF (st : RS) : tot (zdY st) = tot st.stz := by
  unfold zdY
  split
  · rfl
  · rw [zhw, zhv]; rfl
theorem RInv.step {st st' : RS} {x : Nat × List UInt8} (h : RInv st) (hs : zi8 st x = .ok st') : RInv st' := by
  unfold zi8 at hs
  split at hs
  · cases hs; exact ⟨h.tot, (fun e => by cases e), h.most, h.ne, h.t0⟩
  · split at hs
    · cases hs
    · split at hs
      · cases hs; exact ⟨h.tot, h.row, h.most, h.ne, (fun e => by cases e)⟩
      · split at hs
        · cases hs
        · rename_i h512
          cases hs
          have e := zhH (zkh h)
          refine ⟨?_, (fun _ => by simp [zpG]), ?_, ?_, (fun e => by cases e)⟩
          · show (st.vs ++ [_]).length = Go.Proofs.YtgfkogafkhbgnaaDoor.tot ((zdY st).dropLast ++ [zfe (zdY st) ++ [x.2]])
            have h2 := zhF st
            rw [e, zhw, zhv] at h2
            rw [zhw, zhv, List.length_append, List.length_append, List.length_singleton, List.length_singleton, h.tot, ← h2]
            omega
          · show (st.vs ++ [_]).length ≤ 512
            rw [List.length_append, List.length_singleton]
            have := h.most; omega
          · intro r hr
            rcases List.mem_append.1 hr with hr | hr
            · have hm : r ∈ zdY st := (List.dropLast_sublist _).mem hr
              unfold zdY at hm hr
              split at hm
              · exact h.ne r hm
              · rename_i hrow
                rw [if_neg hrow, List.dropLast_concat] at hr
                exact h.ne r hr
            · rw [List.mem_singleton] at hr
              subst hr; simp
theorem zl8 {α : Type} (a : List α) (x y : α) : (a ++ [x]).set a.length y = a ++ [y] := by simp
/-! ### The program -/
def mkZ (z : List (List (List UInt8))) : List (List ByteArray) := z.map (·.map mkB)
section
variable {T : List UInt8} {st : RS} {sp : Nat × Nat} {k : Nat}
theorem zlz {st : RS} (h : RInv st) : ∃ init r, zdY st = init ++ [r] ∧ zfe (zdY st) = r ∧ (zdY st).dropLast = init ∧ tot init + r.length = st.vs.length ∧ zl5 0 (zdY st) = zl5 0 init ++ [⟨(tot init : Int), (st.vs.length : Int)⟩] := by
  have e := zhH (zkh h)
  refine ⟨_, _, e, rfl, rfl, ?_, ?_⟩
  · have h2 := zhF st
    rw [e, zhw, zhv] at h2
    rw [h.tot]; exact h2
  · have h2 := zhF st
    rw [e, zhw, zhv] at h2
    conv => lhs; rw [e]
    rw [zkd, Nat.zero_add]
    show _ ++ [(⟨(tot (zdY st).dropLast : Int), ((tot (zdY st).dropLast + (zfe (zdY st)).length : Nat) : Int)⟩ : Gapi_Span)] = _
    rw [h2, h.tot]
end
end Go.Proofs.YtgfkogafkhbgnaaDoor
namespace Go.Proofs.YtgfkogafkhbgnaaDoor
open Go.RowKit Go.Lib
set_option linter.unusedVariables false
set_option linter.unusedSimpArgs false
theorem ziC (a b : List (List (List UInt8))) : mkZ (a ++ b) = mkZ a ++ mkZ b := List.map_append
theorem zfG (a : List (List (List UInt8))) : (mkZ a).length = a.length := List.length_map ..
section
variable {T : List UInt8} {st : RS} {sp : Nat × Nat} {k : Nat}
end
end Go.Proofs.YtgfkogafkhbgnaaDoor
namespace Go.Proofs.YtgfkogafkhbgnaaDoor
open Go.RowKit Go.Lib
set_option linter.unusedVariables false
set_option linter.unusedSimpArgs false
def zbF (c0 : Gpoem_Poem) (ag1 : Int → Option (List (Int × Gapi_Verse))) (x3 : Int) : Option (List (Int × Gapi_Verse)) :=
za1 (decide ((x3 : Int) < (c0.told_lines.length : Int))) (
zaO (zfH c0.told_lines x3) fun (q1 : Gapi_Verse) =>
znE (x3, q1) <|
grd (I64 (x3 + 1)) <|
ag1 (x3 + 1)
) (
some []
)
def zcf (c0 : Gpoem_Poem) : Option (List (Int × Gapi_Verse)) :=
zbK (fun _ => none) (zbF c0) zdX 0
theorem zei {b_c0 p_c0 : Nat} {c0 : Gpoem_Poem} {c0_h0 c0_h1 : Hd} {xs : (List (Int × Gapi_Verse))} (h : zcf c0 = some xs) : ItrR Tryd.prog 52 [zP b_c0] (fun q : Int × Gapi_Verse => [zI q.1, .agg #[.string q.2.Text, zI q.2.Indent, zI q.2.Stanza, zI q.2.In, zI q.2.Span_From, zI q.2.Span_To]]) xs [cells b_c0 [zP p_c0] 23, cells p_c0 [.string c0.told_title, c0_h0.v, c0_h1.v, .string c0.source] 93, vec zal 36 6 c0_h0.v c0.told_lines, vec zaq 34 2 c0_h1.v c0.told_stanzas] := by
 unfold zcf at h
 refine ItrR.intro Tryd.func52 rfl Tryd.ntmps52 (by simp) ?_
 intro l w0 K I X hrd hy
 obtain ⟨r0, hx0⟩ : ∃ r, xs = [] ++ r := ⟨xs, rfl⟩
 have hr0 : xs = r0 := hx0
 rw [hr0] at h
 refine zap (zap (zad (zbg (i := 0) hrd rfl zmb rfl dc rfl rfl (zaz rfl dc rfl rfl (zbh Tryd.underlying23) (zan (zaf (za0 rfl (zaI (zaf (zap (zad (zbg (i := 0) hrd rfl zmb rfl dc rfl rfl (zaC rfl dc rfl ?_)))))))))))))
 refine zam zbG rfl dc rfl (show _ = 0 from rfl) (zam zcY rfl dc rfl (show _ = 1 from rfl) (zbg (i := 1) hrd rfl zfn rfl dc rfl rfl (zck (hrd.vw (i := 2) rfl) rfl dc rfl Tryd.underlying57 (zag rfl dc rfl (zan (zaf (zaT ?_)))))))
 refine zct (β := Nat × Int × (List (Int × Gapi_Verse)) × (List (Int × Gapi_Verse))) (fun b => zbK (fun _ => none) (zbF c0) b.1 b.2.1 = some b.2.2.2 ∧ xs = b.2.2.1 ++ b.2.2.2) (fun b => []) (fun b => [(0, .func (.yield l) #[] #[]), (11, c0_h0.v), (12, zI (c0.told_lines.length : Int)), (13, zI b.2.1)]) (fun b => [I b.2.2.1]) (fun b => b.1) (zdX, 0, ([] : List (Int × Gapi_Verse)), r0) ⟨h, hx0⟩ rfl (zah rfl (zah rfl (zah rfl (zah rfl (zaQ))))) (zak [0] kr rfl) ?_
 rintro ⟨n1, x3, acc3, rr3⟩ ⟨h, hx3⟩
 cases n1 with
 | zero => exact zeH h
 | succ n1 =>
  obtain ⟨ag1, hag1⟩ : ∃ ag, ag = zbK (fun _ => none) (zbF c0) n1 := ⟨_, rfl⟩
  have h : zbF c0 ag1 x3 = some rr3 := by rw [hag1]; exact h
  unfold zbF at h
  show TC _ _ _ _ _ ([]) _ _ [(0, .func (.yield l) #[] #[]), (11, c0_h0.v), (12, zI (c0.told_lines.length : Int)), (13, zI x3)] [I acc3]
  refine zap (zad (zaz rfl dc rfl rfl zcb (zan (zaf (zap ?_)))))
  refine zaF rfl (fun hb1 => ?_) (fun hb1 => ?_)
  ·
   have h := za6 hb1 h
   refine zaI (zaf (zap (zaT (zap (zad (zag rfl dc rfl ?_))))))
   obtain ⟨q1, hq1, h⟩ := zbT h
   refine zb0 (hrd.vw (i := 2) rfl) hq1 Tryd.underlying57 zfm rfl dc rfl rfl rfl (zc2 (m := 0 + (x3 : Int).toNat) (j := 0) (i := 2) (q := q1) (cs := [.string q1.Text, zI q1.Indent, zI q1.Stanza, zI q1.In, zI q1.Span_From, zI q1.Span_To]) hrd rfl zg9 zcg rfl dc rfl (Vw.get (hrd.vw (i := 2) rfl) hq1) rfl rfl rfl ?_)
   refine zbe zhr rfl dc (fun b1 => ?_)
   refine zai rfl dc rfl (za8 (k := 1) (vs := [.string q1.Text, zI q1.Indent, zI q1.Stanza, zI q1.In, zI q1.Span_From, zI q1.Span_To]) (l' := [.string q1.Text, zI q1.Indent, zI q1.Stanza, zI q1.In, zI q1.Span_From, zI q1.Span_To]) zfm rfl rfl rfl rfl rfl (show _ ≤ _ by simp) rfl rfl ?_)
   show TO _ _ _ _ _ _ _ _ _ _ [I acc3, cells b1 [.string q1.Text, zI q1.Indent, zI q1.Stanza, zI q1.In, zI q1.Span_From, zI q1.Span_To] 36]
   refine zan (zaf (zap (zad (zag rfl dc rfl (zag rfl dc rfl (zbb (k := 1) (cs := [.string q1.Text, zI q1.Indent, zI q1.Stanza, zI q1.In, zI q1.Span_From, zI q1.Span_To]) zg9 rfl dc rfl rfl rfl rfl ?_))))))
   obtain ⟨rr4, hr1, h⟩ := zoD h
   have hx4 : xs = acc3 ++ (x3, q1) :: rr4 := by rw [hx3, hr1]
   refine zdw hy rfl dc rfl hx4 rfl (k := 0) rfl ?_ ?_
   ·
    have hx5 : xs = (acc3 ++ [(x3, q1)]) ++ rr4 := by rw [hx4]; simp
    show TO _ _ _ _ _ _ _ _ _ _ [I (acc3 ++ [(x3, q1)]), cells b1 [.string q1.Text, zI q1.Indent, zI q1.Stanza, zI q1.In, zI q1.Span_From, zI q1.Span_To] 36]
    refine zdZ rfl dc rfl zcG (zan (zaf (za0 rfl (zaI (zaw (zaf (zad ?_)))))))
    obtain ⟨hg1, h⟩ := zcX h
    refine zaz rfl dc rfl rfl (zbs (r := x3 + 1) (IntWalk.i64_in _ hg1)) (zag rfl dc rfl (zan ?_))
    subst hag1
    exact zbq (n1, x3 + 1, acc3 ++ [(x3, q1)], rr4) ⟨h, hx5⟩ (Nat.lt_succ_self _) rfl (zah rfl (zah rfl (zah rfl (zah rfl (zaQ))))) (zak [0] kr rfl)
   ·
    show TO _ _ _ _ _ _ _ _ _ _ [X (acc3 ++ [(x3, q1)]), cells b1 [.string q1.Text, zI q1.Indent, zI q1.Stanza, zI q1.In, zI q1.Span_From, zI q1.Span_To] 36]
    refine zdZ rfl dc rfl zcG (zan (zaf (zaY rfl (zaE (zay (zav (zav (zay ?_))))))))
    exact zfO (ds := []) acc3 (x3, q1) rr4 hx4 (.inl rfl) Splits.nil Tryd.results52 (zak [0] kr rfl)
  ·
   have h := za7 hb1 h
   refine zbA (zaR (zaR (za2 ?_)))
   cases h
   exact zfN (ds := []) (.inr rfl) Splits.nil Tryd.results52 (congrArg I (hx3.trans (List.append_nil _))) (zak [0] kr rfl)
def zdI (p1 : Gpoem_Poem) : Option Unit :=
some ()
theorem ze3 {bp1 : Nat} {p1 : Gpoem_Poem} {p1_h0 p1_h1 : Hd} {r : Unit} (h : zdI p1 = some r) : FnR Tryd.prog 14 [zP bp1] [cells bp1 [.string p1.told_title, p1_h0.v, p1_h1.v, .string p1.source] 93, vec zal 36 6 p1_h0.v p1.told_lines, vec zaq 34 2 p1_h1.v p1.told_stanzas] [] (fun v0 : Nat => .func (.func 52) #[] #[zP v0]) (fun v0 => [cells v0 [zP bp1] 23]) := by
 unfold zdI at h
 refine FnR.intro Tryd.func14 rfl Tryd.ntmps14 (by simp) ?_
 intro w0 K hrd
 refine zap (zad ?_)
 refine zdF rfl dc rfl (fun b1 => ?_)
 refine zai rfl dc rfl (zan (zaf (zap (zad (zdO (x1 := []) (x2 := [.tmp 1]) rfl dc rfl rfl (zai rfl dc rfl (zan (zaf (zaE ?_)))))))))
 cases h
 exact zaM (rs := [.tmp 2]) b1 (.inl rfl) Tryd.results14 (.cons (.tmp rfl) .nil) rfl (zak [0] kr rfl)
def zcM (at1 : Int) (e1 : Int → Int → Option (Int × Int × Int)) (x1 : Int × Gapi_Verse) (ag1 : Option (Int × Int × Int)) : Option (Int × Int × Int) :=
za1 (decide ((x1.2.Span_From : Int) ≤ at1)) (
za1 (decide ((at1 : Int) ≤ x1.2.Span_To)) (
grd (I64 (at1 - x1.2.Span_From)) <|
e1 x1.1 (at1 - x1.2.Span_From)
) (
ag1
)
) (
ag1
)
def zeg (p1 : Gpoem_Poem) (at1 : Int) : Option (Int × Int × Int) :=
za1 (decide ((at1 : Int) < 0)) (
some (0, 0, 5)
) (
za1 (decide (((p1.source.size : Int) : Int) < at1)) (
some (0, 0, 5)
) (
zcj (fun (j1 : Option (Int × Int × Int)) =>
zaO (zdI p1) fun (r1 : Unit) =>
zaO (zcf p1) fun (its1 : (List (Int × Gapi_Verse))) =>
zcj (fun (e1 : Int → Int → Option (Int × Int × Int)) =>
zcj (fun (d1 : Option (Int × Int × Int)) =>
zdf d1 (zcM at1 e1) its1
) (
j1
)
) (fun (line1 : Int) (in1 : Int) =>
some (line1, in1, 0)
)
) (
some (0, 0, 4)
)
)
)
theorem zgI {bp1 : Nat} {p1 : Gpoem_Poem} {p1_h0 p1_h1 : Hd} {at1 : Int} {r : (Int × Int × Int)} (h : zeg p1 at1 = some r) : FnR Tryd.prog 32 [zP bp1, zI at1] [cells bp1 [.string p1.told_title, p1_h0.v, p1_h1.v, .string p1.source] 93, vec zal 36 6 p1_h0.v p1.told_lines, vec zaq 34 2 p1_h1.v p1.told_stanzas] [] (fun _ : Unit => (.tuple #[zI r.1, zI r.2.1, zI r.2.2])) (fun _ => []) := by
 unfold zeg at h
 refine FnR.intro Tryd.func32 rfl Tryd.ntmps32 (by simp) ?_
 intro w0 K hrd
 refine zgD ?_
 show TC _ _ _ _ _ _ _ _ _ [zbU ((([] : List Nat) : List Nat).map zbJ)]
 refine zap (zad ?_)
 refine zdF rfl dc rfl (fun b1 => ?_)
 refine zbe znU rfl dc (fun b2 => ?_)
 show TO _ _ _ _ _ _ _ _ _ _ [zbU ((([] : List Nat) : List Nat).map zbJ), cells b1 [zI at1] 3, cells b2 [zI 0] 3]
 refine zbe znU rfl dc (fun b3 => ?_)
 refine zbe zn1 rfl dc (fun b4 => ?_)
 show TO _ _ _ _ _ _ _ _ _ _ [zbU ((([] : List Nat) : List Nat).map zbJ), cells b1 [zI at1] 3, cells b2 [zI 0] 3, cells b3 [zI 0] 3, cells b4 [zI 0] 24]
 refine zan (zaf (zap (zaT (zap (zad (zag rfl dc rfl (zaz rfl dc rfl rfl (zbh Tryd.underlying23) (zai rfl dc rfl (zan (zaf (za0 rfl (zap ?_))))))))))))
 refine zip (b := decide ((at1 : Int) < 0)) (fun hb1 => ?_) (fun hb1 => ?_)
 ·
  have h := za6 hb1 h
  refine zcm 9 [(0, 13, zI at1), (1, 14, .bool true), (2, 15, .bool true), (3, 16, undef), (4, 17, undef), (5, 18, undef), (6, 19, undef), (7, 20, undef), (8, 21, undef)] mixed kr kr dc (by rfl) kr kr (zao ?_ (zao ?_ (zao ?_ (zao ?_ (zao ?_ (zao ?_ (zao ?_ (zao ?_ (zao ?_ DrawPre.nil))))))))) ?_
  ·
   intro D hn hd hcl hu hi
   refine zaP (k := 1) zcx rfl dc (zaS (by rfl) rfl) rfl rfl ?_
   exact zar 0 hu hi rfl
  ·
   intro D hn hd hcl hu hi
   refine zaz rfl dc (zaj (m := 0) hu rfl (hd 0 dc)) rfl zcb (ziT (show Value.bool (decide ((at1 : Int) < 0)) = Value.bool true from congrArg Value.bool hb1) ?_)
   exact zar 1 hu hi rfl
  ·
   intro D hn hd hcl hu hi
   refine zag rfl dc (zaj (m := 1) hu rfl (hd 1 dc)) ?_
   exact zar 2 hu hi rfl
  ·
   intro D hn hd hcl hu hi
   refine zae (zcu rfl (zaj (m := 2) hu rfl (hd 2 dc))) dc ?_
   exact zar 3 hu hi rfl
  ·
   intro D hn hd hcl hu hi
   refine zae (zcu rfl (zaj (m := 2) hu rfl (hd 2 dc))) dc ?_
   exact zar 4 hu hi rfl
  ·
   intro D hn hd hcl hu hi
   refine zae (zcu rfl (zaj (m := 2) hu rfl (hd 2 dc))) dc ?_
   exact zar 5 hu hi rfl
  ·
   intro D hn hd hcl hu hi
   refine zae (zcu rfl (zaj (m := 2) hu rfl (hd 2 dc))) dc ?_
   exact zar 6 hu hi rfl
  ·
   intro D hn hd hcl hu hi
   refine zae (zcu rfl (zaj (m := 2) hu rfl (hd 2 dc))) dc ?_
   exact zar 7 hu hi rfl
  ·
   intro D hn hd hcl hu hi
   refine zae (zcu rfl (zaj (m := 2) hu rfl (hd 2 dc))) dc ?_
   exact zar 8 hu hi rfl
  refine zae rfl dc (zas (b := true) rfl dc rfl rfl (zai rfl dc rfl (zan (zaf (zaY rfl (zap (zad ?_)))))))
  refine zaN (k := 2) (l' := [zI 0]) zdW rfl rfl rfl rfl rfl (fun _ _ => rfl) rfl ?_
  refine zaN (k := 3) (l' := [zI 0]) zdW rfl rfl rfl rfl rfl (fun _ _ => rfl) rfl ?_
  show TO _ _ _ _ _ _ _ _ _ _ [zbU ((([] : List Nat) : List Nat).map zbJ), cells b1 [zI at1] 3, cells b2 [zI 0] 3, cells b3 [zI 0] 3, cells b4 [zI 0] 24]
  refine zaN (k := 4) (l' := [zI 5]) zld rfl rfl rfl rfl rfl (fun _ _ => rfl) rfl ?_
  refine zan (zaf (zaE (zay (zav ?_))))
  cases h
  exact zbm (rs := [.cell 4 3, .cell 5 3, .cell 6 24]) ([] : List Nat) () (.inl rfl) (zaU (k := 0) rfl) Tryd.results32 (.cons (.cell zcx (k := 2) rfl rfl) (.cons (.cell zcx (k := 3) rfl rfl) (.cons (.cell zlm (k := 4) rfl rfl) .nil))) rfl Splits.nil
 ·
  have h := za7 hb1 h
  refine zcm 9 [(0, 13, zI at1), (1, 14, .bool false), (2, 15, .bool false), (3, 16, zI at1), (4, 17, zP bp1), (5, 18, zP bp1), (6, 19, .pointer (some ⟨bp1, 3, none⟩)), (7, 20, .string p1.source), (8, 21, zI (p1.source.size : Int))] mixed kr kr dc (by rfl) kr kr (zao ?_ (zao ?_ (zao ?_ (zao ?_ (zao ?_ (zao ?_ (zao ?_ (zao ?_ (zao ?_ DrawPre.nil))))))))) ?_
  ·
   intro D hn hd hcl hu hi
   refine zaP (k := 1) zcx rfl dc (zaS (by rfl) rfl) rfl rfl ?_
   exact zar 0 hu hi rfl
  ·
   intro D hn hd hcl hu hi
   refine zaz rfl dc (zaj (m := 0) hu rfl (hd 0 dc)) rfl zcb (ziT (show Value.bool (decide ((at1 : Int) < 0)) = Value.bool false from congrArg Value.bool hb1) ?_)
   exact zar 1 hu hi rfl
  ·
   intro D hn hd hcl hu hi
   refine zag rfl dc (zaj (m := 1) hu rfl (hd 1 dc)) ?_
   exact zar 2 hu hi rfl
  ·
   intro D hn hd hcl hu hi
   refine zaP (k := 1) zcx (zeE rfl (zaj (m := 2) hu rfl (hd 2 dc))) dc (zaS (by rfl) rfl) rfl rfl ?_
   exact zar 3 hu hi rfl
  ·
   intro D hn hd hcl hu hi
   refine zag (zeE rfl (zaj (m := 2) hu rfl (hd 2 dc))) dc (zaS (by rfl) rfl) ?_
   exact zar 4 hu hi rfl
  ·
   intro D hn hd hcl hu hi
   refine zaC (zeE rfl (zaj (m := 2) hu rfl (hd 2 dc))) dc (zaj (m := 4) hu rfl (hd 4 dc)) ?_
   exact zar 5 hu hi rfl
  ·
   intro D hn hd hcl hu hi
   refine zam znj (zeE rfl (zaj (m := 2) hu rfl (hd 2 dc))) dc (zaj (m := 5) hu rfl (hd 5 dc)) (show _ = 3 from rfl) ?_
   exact zar 6 hu hi rfl
  ·
   intro D hn hd hcl hu hi
   refine zbg (i := 0) hrd rfl zhz (zeE rfl (zaj (m := 2) hu rfl (hd 2 dc))) dc (zaj (m := 6) hu rfl (hd 6 dc)) rfl ?_
   exact zar 7 hu hi rfl
  ·
   intro D hn hd hcl hu hi
   refine zbt (zeE rfl (zaj (m := 2) hu rfl (hd 2 dc))) dc (zaj (m := 7) hu rfl (hd 7 dc)) Tryd.underlying9 ?_
   exact zar 8 hu hi rfl
  refine zaz rfl dc rfl rfl zcO (zas (b := false) rfl dc rfl rfl (zai rfl dc rfl (zan (zaf ?_))))
  refine zaF rfl (fun hb2 => ?_) (fun hb2 => ?_)
  ·
   have h := za6 hb2 h
   refine zap (zad ?_)
   refine zaN (k := 2) (l' := [zI 0]) zdW rfl rfl rfl rfl rfl (fun _ _ => rfl) rfl ?_
   refine zaN (k := 3) (l' := [zI 0]) zdW rfl rfl rfl rfl rfl (fun _ _ => rfl) rfl ?_
   show TO _ _ _ _ _ _ _ _ _ _ [zbU ((([] : List Nat) : List Nat).map zbJ), cells b1 [zI at1] 3, cells b2 [zI 0] 3, cells b3 [zI 0] 3, cells b4 [zI 0] 24]
   refine zaN (k := 4) (l' := [zI 5]) zld rfl rfl rfl rfl rfl (fun _ _ => rfl) rfl ?_
   refine zan (zaf (zaE (zay (zav ?_))))
   cases h
   exact zbm (rs := [.cell 4 3, .cell 5 3, .cell 6 24]) ([] : List Nat) () (.inl rfl) (zaU (k := 0) rfl) Tryd.results32 (.cons (.cell zcx (k := 2) rfl rfl) (.cons (.cell zcx (k := 3) rfl rfl) (.cons (.cell zlm (k := 4) rfl rfl) .nil))) rfl Splits.nil
  ·
   have h := za7 hb2 h
   refine zaI (zaw (zaf ?_))
   obtain ⟨j1, hj1, h⟩ := zcH h
   refine zbN (β := (List Nat)) 0 rfl (fun b => j1 = some r) (fun b => zdq b) (fun b => [(4, zP b2), (5, zP b3), (6, zP b4)]) (fun b => [cells b2 [zI 0] 3, cells b3 [zI 0] 3, cells b4 [zI 0] 24, zbU ((b : List Nat).map zbJ)]) (fun cut => ?_) ?_
   ·
    refine cut (zap (zad (zag rfl dc rfl ?_)))
    obtain ⟨r1, hq1, h⟩ := zbT h
    refine zcl (vs := [zP bp1]) hrd rfl dc rfl rfl rfl zmr (ze3 (bp1 := bp1) (p1 := p1) (p1_h0 := p1_h0) (p1_h1 := p1_h1) hq1) Splits.nil (.ro 0 rfl (.ro 1 rfl (.ro 2 rfl .nil))) ?_
    rintro b5
    show TO _ _ _ _ _ _ _ _ _ _ [zbU ((([] : List Nat) : List Nat).map zbJ), cells b1 [zI at1] 3, cells b2 [zI 0] 3, cells b3 [zI 0] 3, cells b4 [zI 0] 24, cells b5 [zP bp1] 23]
    refine zbf (L' := [zbU ((([] : List Nat) : List Nat).map zbJ), cells b1 [zI at1] 3, cells b2 [zI 0] 3, cells b3 [zI 0] 3, cells b4 [zI 0] 24, cells b5 [zP bp1] 23]) (zak [0, 1, 2, 3, 4, 5] kr rfl) (zan (zaf (zaT ?_)))
    obtain ⟨its1, hq2, h⟩ := zbT h
    obtain ⟨e1, he1, h⟩ := zcH h
    obtain ⟨d1, hd1, h⟩ := zcH h
    refine zfS (α := Int × Gapi_Verse) (β := Unit) (γ := (Int × Int)) (δ := Nat) (ps := [26, 27]) hrd Ro.nil rfl zmo (zei hq2) (fun pre b => ∀ post, its1 = pre ++ post → zdf d1 (zcM at1 e1) post = some r) (fun pre b => [cells b1 [zI at1] 3, cells b2 [zI 0] 3, cells b3 [zI 0] 3, cells b4 [zI 0] 24]) (fun c pre g => (fun g => c = .ret ∧ e1 g.1 g.2 = some r) g) (fun c pre g => (fun g => [cells b1 [zI at1] 3, cells b2 [zI g.1] 3, cells b3 [zI g.2] 3, cells b4 [zI 0] 24]) g) (fun pre x b j => [(3, zP b1), (4, zP b2), (5, zP b3), (6, zP b4), (25, .func (.func 52) #[] #[zP b5]), (7, zI x.1), (8, zP j)]) (fun pre x b j => [cells b1 [zI at1] 3, cells b2 [zI 0] 3, cells b3 [zI 0] 3, cells b4 [zI 0] 24, cells j [.string x.2.Text, zI x.2.Indent, zI x.2.Stanza, zI x.2.In, zI x.2.Span_From, zI x.2.Span_To] 36]) () (fun post e => by rw [List.nil_append] at e; subst e; exact h) (zak [1, 2, 3, 4] kr rfl) (.own (zak [5] (by kernel_rfl) rfl) (fun _ _ h => sepL.one1.1 h) (.ro 0 rfl (.ro 1 rfl (.ro 2 rfl .nil)))) (fun _ => rfl) dc ?_ ?_ ?_ ?_
    ·
     rintro lp rc pre x1 post _ w1 K1 hxs1 hext hro hinv
     have hrd := hrd.ext hext
     refine zap (zad (zai rfl dc rfl (zan (zaf (zad ?_)))))
     refine zbe zhr rfl dc (fun b6 => ?_)
     refine za8 (k := 4) (vs := [.string x1.2.Text, zI x1.2.Indent, zI x1.2.Stanza, zI x1.2.In, zI x1.2.Span_From, zI x1.2.Span_To]) (l' := [.string x1.2.Text, zI x1.2.Indent, zI x1.2.Stanza, zI x1.2.In, zI x1.2.Span_From, zI x1.2.Span_To]) zfm rfl rfl rfl rfl rfl (show _ ≤ _ by simp) rfl rfl ?_
     show TO _ _ _ _ _ _ _ _ _ _ [cells b1 [zI at1] 3, cells b2 [zI 0] 3, cells b3 [zI 0] 3, cells b4 [zI 0] 24, cells b6 [.string x1.2.Text, zI x1.2.Indent, zI x1.2.Stanza, zI x1.2.In, zI x1.2.Span_From, zI x1.2.Span_To] 36]
     refine zan ?_
     exact fun a w ha hw => ⟨b6, (zah rfl (zah rfl (zah rfl (zah rfl (zah rfl (zah rfl (zah rfl (zaQ)))))))) _ _ _ ha, hw.weaken (zak [0, 1, 2, 3, 4] kr rfl)⟩
    ·
     rintro lp rc pre x1 post1 _ jb1 w1 K1 hxs1 hext hro hinv
     have hrd := hrd.ext hext
     have h := hinv (x1 :: post1) hxs1
     obtain ⟨ag1, hag1⟩ : ∃ ag, ag = zdf d1 (zcM at1 e1) post1 := ⟨_, rfl⟩
     have h : zcM at1 e1 x1 ag1 = some r := by rw [hag1]; exact h
     unfold zcM at h
     show TC _ _ _ _ _ _ _ _ [(3, zP b1), (4, zP b2), (5, zP b3), (6, zP b4), (25, .func (.func 52) #[] #[zP b5]), (7, zI x1.1), (8, zP jb1)] [cells b1 [zI at1] 3, cells b2 [zI 0] 3, cells b3 [zI 0] 3, cells b4 [zI 0] 24, cells jb1 [.string x1.2.Text, zI x1.2.Indent, zI x1.2.Stanza, zI x1.2.In, zI x1.2.Span_From, zI x1.2.Span_To] 36]
     refine zaT (zap (zad (zam ziH rfl dc rfl (show _ = 4 from rfl) (zam zeV rfl dc rfl (show _ = 4 from rfl) (zaP (k := 4) zcx rfl dc rfl rfl rfl (zaP (k := 0) zcx rfl dc rfl rfl rfl (zaz rfl dc rfl rfl ziQ (zag rfl dc rfl ?_))))))))
     refine zaV (s := 33) rfl (fun hb3 => ?_) (fun hb3 => ?_)
     ·
      have h := za6 hb3 h
      refine zaP (k := 0) zcx rfl dc rfl rfl rfl (zam ziH rfl dc rfl (show _ = 4 from rfl) (zam zcN rfl dc rfl (show _ = 5 from rfl) (zaP (k := 4) zcx rfl dc rfl rfl rfl (zaz rfl dc rfl rfl ziQ (zas (b := true) rfl dc rfl rfl (zan (zaf ?_)))))))
      refine zaF rfl (fun hb4 => ?_) (fun hb4 => ?_)
      ·
       have h := za6 hb4 h
       refine zap ?_
       obtain ⟨hg1, h⟩ := zcX h
       refine zen (β := Unit) 7 6 _ [(0, 40, zI x1.1), (1, 41, zI at1), (2, 42, .pointer (some ⟨jb1, 4, none⟩)), (3, 43, .pointer (some ⟨jb1, 4, none⟩)), (4, 44, zI x1.2.Span_From), (5, 45, zI (at1 - x1.2.Span_From))] (fun _b => []) (fun _b => [cells b1 [zI at1] 3, cells b2 [zI x1.1] 3, cells b3 [zI 0] 3, cells b4 [zI 0] 24, cells jb1 [.string x1.2.Text, zI x1.2.Indent, zI x1.2.Stanza, zI x1.2.In, zI x1.2.Span_From, zI x1.2.Span_To] 36]) mixed kr kr rfl dc dc (by rfl) kr kr (DrawPreX.cons ?_ (DrawPreX.cons ?_ (DrawPreX.cons ?_ (DrawPreX.cons ?_ (DrawPreX.cons ?_ (DrawPreX.cons ?_ (zbo DrawPreX.nil))))))) (fun _b => (DrawPreX.cons ?_ (DrawPreX.cons ?_ (DrawPreX.cons ?_ (DrawPreX.cons ?_ (DrawPreX.cons ?_ (DrawPreX.cons ?_ (zbo DrawPreX.nil)))))))) ?_ ?_
       ·
        intro D hn hd hcl hu hi
        refine zag rfl dc (zaS (by rfl) rfl) ?_
        exact zar 0 hu hi rfl
       ·
        intro D hn hd hcl hu hi
        refine zaP (k := 0) zcx rfl dc (zaS (by rfl) rfl) rfl rfl ?_
        exact zar 1 hu hi rfl
       ·
        intro D hn hd hcl hu hi
        refine zam ziH rfl dc (zaS (by rfl) rfl) (show _ = 4 from rfl) ?_
        exact zar 2 hu hi rfl
       ·
        intro D hn hd hcl hu hi
        refine zam zeV rfl dc (zaj (m := 2) hu rfl (hd 2 dc)) (show _ = 4 from rfl) ?_
        exact zar 3 hu hi rfl
       ·
        intro D hn hd hcl hu hi
        refine zaP (k := 4) zcx rfl dc (zaj (m := 3) hu rfl (hd 3 dc)) rfl rfl ?_
        exact zar 4 hu hi rfl
       ·
        intro D hn hd hcl hu hi
        refine zaz rfl dc (zaj (m := 1) hu rfl (hd 1 dc)) (zaj (m := 4) hu rfl (hd 4 dc)) (zcE (r := at1 - x1.2.Span_From) (IntWalk.i64_in _ hg1)) ?_
        exact zar 5 hu hi rfl
       ·
        intro D hn hd hcl hu hi
        refine zag rfl dc (zaS (by rfl) rfl) ?_
        exact zar 0 hu hi rfl
       ·
        intro D hn hd hcl hu hi
        refine zaP (k := 0) zcx rfl dc (zaS (by rfl) rfl) rfl rfl ?_
        exact zar 1 hu hi rfl
       ·
        intro D hn hd hcl hu hi
        refine zam ziH rfl dc (zaS (by rfl) rfl) (show _ = 4 from rfl) ?_
        exact zar 2 hu hi rfl
       ·
        intro D hn hd hcl hu hi
        refine zam zeV rfl dc (zaj (m := 2) hu rfl (hd 2 dc)) (show _ = 4 from rfl) ?_
        exact zar 3 hu hi rfl
       ·
        intro D hn hd hcl hu hi
        refine zaP (k := 4) zcx rfl dc (zaj (m := 3) hu rfl (hd 3 dc)) rfl rfl ?_
        exact zar 4 hu hi rfl
       ·
        intro D hn hd hcl hu hi
        refine zaz rfl dc (zaj (m := 1) hu rfl (hd 1 dc)) (zaj (m := 4) hu rfl (hd 4 dc)) (zcE (r := at1 - x1.2.Span_From) (IntWalk.i64_in _ hg1)) ?_
        exact zar 5 hu hi rfl
       ·
        intro D hn hd hcl
        refine zaN (k := 1) (l' := [zI x1.1]) zdW rfl (zaS (by rfl) rfl) (zaj (m := 0) kr rfl (hd 0 dc)) rfl rfl (fun _ _ => rfl) rfl ?_
        exact fun a w ha hw => ⟨(), ha, hw⟩
       intro _b
       show TO _ _ _ _ _ _ _ _ _ _ [cells b1 [zI at1] 3, cells b2 [zI x1.1] 3, cells b3 [zI 0] 3, cells b4 [zI 0] 24, cells jb1 [.string x1.2.Text, zI x1.2.Indent, zI x1.2.Stanza, zI x1.2.In, zI x1.2.Span_From, zI x1.2.Span_To] 36]
       refine zaN (k := 2) (l' := [zI (at1 - x1.2.Span_From)]) zdW rfl rfl rfl rfl rfl (fun _ _ => rfl) rfl ?_
       refine zaN (k := 3) (l' := [zI 0]) zld rfl rfl rfl rfl rfl (fun _ _ => rfl) rfl ?_
       show TO _ _ _ _ _ _ _ _ _ _ [cells b1 [zI at1] 3, cells b2 [zI x1.1] 3, cells b3 [zI (at1 - x1.2.Span_From)] 3, cells b4 [zI 0] 24, cells jb1 [.string x1.2.Text, zI x1.2.Indent, zI x1.2.Stanza, zI x1.2.In, zI x1.2.Span_From, zI x1.2.Span_To] 36]
       refine zan (zaf (zaE (zay ?_)))
       exact zc1 (x1.1, at1 - x1.2.Span_From) (show _ ∧ _ from ⟨rfl, h⟩) (zak [0, 1, 2, 3] kr rfl)
      ·
       have h := za7 hb4 h
       refine zaI (zaw ?_)
       exact zcD () (fun post2 e2 => by have e9 := zeu hxs1 e2; subst e9; subst hag1; exact h) (zak [0, 1, 2, 3] kr rfl)
     ·
      have h := za7 hb3 h
      refine zae rfl dc (zae rfl dc (zae rfl dc (zae rfl dc (zae rfl dc (zas (b := false) rfl dc rfl rfl (zan (zaf (za0 rfl (zaI (zaw ?_))))))))))
      exact zcD () (fun post2 e2 => by have e9 := zeu hxs1 e2; subst e9; subst hag1; exact h) (zak [0, 1, 2, 3] kr rfl)
    ·
     rintro dm1 _ hinv
     have h : d1 = some r := hinv [] (List.append_nil _).symm
     rw [hd1] at h
     show TX _ _ _ _ _ _ _ [zbU ((([] : List Nat) : List Nat).map zbJ), emp, emp, emp, emp, cells b5 [zP bp1] 23, cells b1 [zI at1] 3, cells b2 [zI 0] 3, cells b3 [zI 0] 3, cells b4 [zI 0] 24, zbJ dm1]
     refine zeB (k := 10) (j := 0) rfl rfl dc ?_
     show TX _ _ _ _ _ _ _ [zbU ((dm1 :: ([] : List Nat) : List Nat).map zbJ), emp, emp, emp, emp, cells b5 [zP bp1] 23, cells b1 [zI at1] 3, cells b2 [zI 0] 3, cells b3 [zI 0] 3, cells b4 [zI 0] 24, emp]
     refine zaw ?_
     exact za3 (dm1 :: ([] : List Nat)) h rfl (zah rfl (zah rfl (zah rfl (zaQ)))) (zak [7, 8, 9, 0] kr rfl)
    ·
     rintro dm1 c pre x1 post g hxs hX
     obtain ⟨rfl, h⟩ := (show _ ∧ _ from hX)
     obtain ⟨line1, in1⟩ := g
     rw [he1] at h
     show TC _ _ _ _ _ _ _ _ _ [zbU ((([] : List Nat) : List Nat).map zbJ), emp, emp, emp, emp, cells b5 [zP bp1] 23, cells b1 [zI at1] 3, cells b2 [zI line1] 3, cells b3 [zI in1] 3, cells b4 [zI 0] 24, zbJ dm1]
     refine zfi (k := 10) (j := 0) rfl rfl dc ?_
     show TC _ _ _ _ _ _ _ _ _ [zbU ((dm1 :: ([] : List Nat) : List Nat).map zbJ), emp, emp, emp, emp, cells b5 [zP bp1] 23, cells b1 [zI at1] 3, cells b2 [zI line1] 3, cells b3 [zI in1] 3, cells b4 [zI 0] 24, emp]
     refine zaE (zay (zav ?_))
     cases h
     exact zbm (rs := [.cell 4 3, .cell 5 3, .cell 6 24]) (dm1 :: ([] : List Nat)) () (.inl rfl) (zaU (k := 0) rfl) Tryd.results32 (.cons (.cell zcx (k := 7) rfl rfl) (.cons (.cell zcx (k := 8) rfl rfl) (.cons (.cell zlm (k := 9) rfl rfl) .nil))) rfl Splits.nil
   ·
    rintro ds1 h
    rw [hj1] at h
    show TC _ _ _ _ _ (zdq ds1) _ _ [(4, zP b2), (5, zP b3), (6, zP b4)] [cells b2 [zI 0] 3, cells b3 [zI 0] 3, cells b4 [zI 0] 24, zbU ((ds1 : List Nat).map zbJ)]
    refine zap (zad ?_)
    refine zaN (k := 0) (l' := [zI 0]) zdW rfl rfl rfl rfl rfl (fun _ _ => rfl) rfl ?_
    refine zaN (k := 1) (l' := [zI 0]) zdW rfl rfl rfl rfl rfl (fun _ _ => rfl) rfl ?_
    show TO _ _ _ _ _ _ _ _ _ _ [cells b2 [zI 0] 3, cells b3 [zI 0] 3, cells b4 [zI 0] 24, zbU ((ds1 : List Nat).map zbJ)]
    refine zaN (k := 2) (l' := [zI 4]) zld rfl rfl rfl rfl rfl (fun _ _ => rfl) rfl ?_
    refine zan (zaf (zaE ?_))
    cases h
    exact zbm (rs := [.cell 4 3, .cell 5 3, .cell 6 24]) ds1 () (.inl rfl) (zaU (k := 3) rfl) Tryd.results32 (.cons (.cell zcx (k := 0) rfl rfl) (.cons (.cell zcx (k := 1) rfl rfl) (.cons (.cell zlm (k := 2) rfl rfl) .nil))) rfl Splits.nil
end Go.Proofs.YtgfkogafkhbgnaaDoor
namespace Go.Proofs.YtgfkogafkhbgnaaDoor
open Go.RowKit Go.Lib
set_option linter.unusedVariables false
set_option linter.unusedSimpArgs false
def zbI (s1 : ByteArray) : Option Bool :=
grd (s1.size ≤ 4294967280) <|
some (decide ((0 : Int) ≤ (iaV s1)))
theorem zet {s1 : ByteArray} {r : Bool} (h : zbI s1 = some r) : FnP Tryd.prog 17 [.string s1, .string (⟨#[13, 10]⟩ : ByteArray)] (.bool r) := by
 unfold zbI at h
 refine FnP.intro Tryd.func17 rfl Tryd.ntmps17 (by simp) ?_
 intro w0 K
 refine zap (zad (zai rfl dc rfl (zan (zaf (zap (zad (zag rfl dc rfl (zag rfl dc rfl ?_))))))))
 obtain ⟨hg1, h⟩ := zcX h
 refine za9 (v := zI (iaV s1)) (vs := [.string s1, .string (⟨#[13, 10]⟩ : ByteArray)]) rfl dc rfl rfl rfl zpf (zoo s1 hg1) (zaz rfl dc rfl rfl zfg (zai rfl dc rfl (zan (zaf (zaE ?_)))))
 cases h
 exact zaM (rs := [.tmp 4]) () (.inl rfl) Tryd.results17 (.cons (.tmp rfl) .nil) rfl Splits.nil
def zgH (s1 : ByteArray) (most1 : Int) : Option Bool :=
za1 (decide (((s1.size : Int) : Int) ≤ most1)) (
zaO (zbI s1) fun (r1 : Bool) =>
some (!r1)
) (
some false
)
theorem zjL {s1 : ByteArray} {most1 : Int} {r : Bool} (h : zgH s1 most1 = some r) : FnP Tryd.prog 63 [.string s1, zI most1] (.bool r) := by
 unfold zgH at h
 refine FnP.intro Tryd.func63 rfl Tryd.ntmps63 (by simp) ?_
 intro w0 K
 refine zap (zad (zai rfl dc rfl (zan (zaf (zap (zad (zag rfl dc rfl (zbt rfl dc rfl Tryd.underlying9 (zag rfl dc rfl (zaz rfl dc rfl rfl ziQ (zag rfl dc rfl ?_)))))))))))
 refine zaV (s := 9) rfl (fun hb1 => ?_) (fun hb1 => ?_)
 ·
  have h := za6 hb1 h
  refine zag rfl dc rfl ?_
  obtain ⟨r1, hq1, h⟩ := zbT h
  refine za9 (v := .bool r1) (vs := [.string s1, .string (⟨#[13, 10]⟩ : ByteArray)]) rfl dc rfl rfl rfl zpr (zet hq1) (zdZ rfl dc rfl zcG (zas (b := true) rfl dc rfl rfl (zai rfl dc rfl (zan (zaf (zaE ?_))))))
  cases h
  exact zaM (rs := [.tmp 4]) () (.inl rfl) Tryd.results63 (.cons (.tmp rfl) .nil) rfl Splits.nil
 ·
  have h := za7 hb1 h
  refine zae rfl dc (zae rfl dc (zae rfl dc (zas (b := false) rfl dc rfl rfl (zai rfl dc rfl (zan (zaf (zaE ?_)))))))
  cases h
  exact zaM (rs := [.tmp 4]) () (.inl rfl) Tryd.results63 (.cons (.tmp rfl) .nil) rfl Splits.nil
end Go.Proofs.YtgfkogafkhbgnaaDoor
namespace Go.Proofs.YtgfkogafkhbgnaaDoor
open Go.RowKit Go.Lib Go.Shelf
set_option linter.unusedVariables false
set_option linter.unusedSimpArgs false
def zmR (s : ByteArray) (n : Int) : Bool := decide ((s.size : Int) ≤ n) && !zju s
theorem zkX (s : ByteArray) (h : s.size ≤ 4294967280) : zbI s = some (zju s) := by
  unfold zbI
  exact ziE h (congrArg some (zop s))
theorem znb (s : ByteArray) (n : Int) (h : n ≤ 4294967280) : FnP Tryd.prog 63 [.string s, .int .i64 n] (.bool (zmR s n)) := by
  refine zjL ?_
  unfold zgH zmR
  cases hc : decide ((s.size : Int) ≤ n) with
  | true => exact zdh rfl (zes (zkX s (by have := of_decide_eq_true hc; omega)) rfl)
  | false => exact zc6 rfl rfl
end Go.Proofs.YtgfkogafkhbgnaaDoor
namespace Go.Proofs.YtgfkogafkhbgnaaDoor
open Go.RowKit Go.Lib
set_option linter.unusedVariables false
set_option linter.unusedSimpArgs false
def zcL (p1 : Gpoem_Poem) : Option Int :=
some (p1.told_lines.length : Int)
theorem zdU {bp1 : Nat} {p1 : Gpoem_Poem} {p1_h0 p1_h1 : Hd} {r : Int} (h : zcL p1 = some r) : FnR Tryd.prog 21 [zP bp1] [cells bp1 [.string p1.told_title, p1_h0.v, p1_h1.v, .string p1.source] 93, vec zal 36 6 p1_h0.v p1.told_lines, vec zaq 34 2 p1_h1.v p1.told_stanzas] [] (fun _ : Unit => (zI r)) (fun _ => []) := by
 unfold zcL at h
 refine FnR.intro Tryd.func21 rfl Tryd.ntmps21 (by simp) ?_
 intro w0 K hrd
 refine zap (zad (zai rfl dc rfl (zan (zaf (zap (zap (zad (zag rfl dc rfl (zaz rfl dc rfl rfl (zbh Tryd.underlying23) (zan (zaf (za0 rfl (zaI ?_)))))))))))))
 refine zaf (zap (zad (zag rfl dc rfl (zaC rfl dc rfl (zam zbG rfl dc rfl (show _ = 0 from rfl) (zam zcY rfl dc rfl (show _ = 1 from rfl) (zbg (i := 0) hrd rfl zfn rfl dc rfl rfl (zck (hrd.vw (i := 1) rfl) rfl dc rfl Tryd.underlying57 (zai rfl dc rfl (zan (zaf (zaE ?_))))))))))))
 cases h
 exact zaM (rs := [.tmp 2]) () (.inl rfl) Tryd.results21 (.cons (.tmp rfl) .nil) rfl Splits.nil
def zco (p1 : Gpoem_Poem) : Option Int :=
some (p1.told_stanzas.length : Int)
theorem zdz {bp1 : Nat} {p1 : Gpoem_Poem} {p1_h0 p1_h1 : Hd} {r : Int} (h : zco p1 = some r) : FnR Tryd.prog 23 [zP bp1] [cells bp1 [.string p1.told_title, p1_h0.v, p1_h1.v, .string p1.source] 93, vec zal 36 6 p1_h0.v p1.told_lines, vec zaq 34 2 p1_h1.v p1.told_stanzas] [] (fun _ : Unit => (zI r)) (fun _ => []) := by
 unfold zco at h
 refine FnR.intro Tryd.func23 rfl Tryd.ntmps23 (by simp) ?_
 intro w0 K hrd
 refine zap (zad (zai rfl dc rfl (zan (zaf (zap (zap (zad (zag rfl dc rfl (zaz rfl dc rfl rfl (zbh Tryd.underlying23) (zan (zaf (za0 rfl (zaI ?_)))))))))))))
 refine zaf (zap (zad (zag rfl dc rfl (zaC rfl dc rfl (zam zbG rfl dc rfl (show _ = 0 from rfl) (zam zgL rfl dc rfl (show _ = 2 from rfl) (zbg (i := 0) hrd rfl zlk rfl dc rfl rfl (zck (hrd.vw (i := 2) rfl) rfl dc rfl Tryd.underlying89 (zai rfl dc rfl (zan (zaf (zaE ?_))))))))))))
 cases h
 exact zaM (rs := [.tmp 2]) () (.inl rfl) Tryd.results23 (.cons (.tmp rfl) .nil) rfl Splits.nil
def zdu (p1 : Gpoem_Poem) : Option ByteArray :=
some p1.told_title
theorem zeJ {bp1 : Nat} {p1 : Gpoem_Poem} {p1_h0 p1_h1 : Hd} {r : ByteArray} (h : zdu p1 = some r) : FnR Tryd.prog 24 [zP bp1] [cells bp1 [.string p1.told_title, p1_h0.v, p1_h1.v, .string p1.source] 93, vec zal 36 6 p1_h0.v p1.told_lines, vec zaq 34 2 p1_h1.v p1.told_stanzas] [] (fun _ : Unit => (.string r)) (fun _ => []) := by
 unfold zdu at h
 refine FnR.intro Tryd.func24 rfl Tryd.ntmps24 (by simp) ?_
 intro w0 K hrd
 refine zap (zad (zai rfl dc rfl (zan (zaf (zap (zap (zad (zag rfl dc rfl (zaz rfl dc rfl rfl (zbh Tryd.underlying23) (zan (zaf (za0 rfl (zaI ?_)))))))))))))
 refine zaf (zap (zad (zag rfl dc rfl (zaC rfl dc rfl (zam zbG rfl dc rfl (show _ = 0 from rfl) (zam zeU rfl dc rfl (show _ = 0 from rfl) (zbg (i := 0) hrd rfl zhz rfl dc rfl rfl (zai rfl dc rfl (zan (zaf (zaE ?_)))))))))))
 cases h
 exact zaM (rs := [.tmp 2]) () (.inl rfl) Tryd.results24 (.cons (.tmp rfl) .nil) rfl Splits.nil
def zdH (p1 : Gpoem_Poem) (k1 : Int) : Option (Gapi_Verse × Int) :=
za1 (decide ((k1 : Int) < 0)) (
some ((⟨ByteArray.empty, 0, 0, 0, 0, 0⟩ : Gapi_Verse), 5)
) (
za1 (decide (((p1.told_lines.length : Int) : Int) ≤ k1)) (
some ((⟨ByteArray.empty, 0, 0, 0, 0, 0⟩ : Gapi_Verse), 5)
) (
zaO (zfH p1.told_lines k1) fun (q1 : Gapi_Verse) =>
some (q1, 0)
)
)
theorem ze2 {bp1 : Nat} {p1 : Gpoem_Poem} {p1_h0 p1_h1 : Hd} {k1 : Int} {r : (Gapi_Verse × Int)} (h : zdH p1 k1 = some r) : FnR Tryd.prog 28 [zP bp1, zI k1] [cells bp1 [.string p1.told_title, p1_h0.v, p1_h1.v, .string p1.source] 93, vec zal 36 6 p1_h0.v p1.told_lines, vec zaq 34 2 p1_h1.v p1.told_stanzas] [] (fun _ : Unit => (.tuple #[.agg #[.string r.1.Text, zI r.1.Indent, zI r.1.Stanza, zI r.1.In, zI r.1.Span_From, zI r.1.Span_To], zI r.2])) (fun _ => []) := by
 unfold zdH at h
 refine FnR.intro Tryd.func28 rfl Tryd.ntmps28 (by simp) ?_
 intro w0 K hrd
 refine zap (zad ?_)
 refine zbe zhr rfl dc (fun b1 => ?_)
 refine zai rfl dc rfl (zan (zaf (zap (zaT (zap (zad (zag rfl dc rfl (zaz rfl dc rfl rfl (zbh Tryd.underlying23) (zai rfl dc rfl (zan (zaf (za0 rfl (zap ?_)))))))))))))
 refine zad (zag rfl dc rfl (zaz rfl dc rfl rfl zcb (zag rfl dc rfl ?_)))
 refine zaV (s := 13) rfl (fun hb1 => ?_) (fun hb1 => ?_)
 ·
  have h := za6 hb1 h
  refine zae rfl dc (zae rfl dc (zae rfl dc (zae rfl dc (zae rfl dc (zae rfl dc (zae rfl dc (zae rfl dc (zas (b := true) rfl dc rfl rfl (zai rfl dc rfl (zan (zaf (zaY rfl (zap ?_)))))))))))))
  refine zad ?_
  refine zba (v := .agg #[.string ByteArray.empty, zI 0, zI 0, zI 0, zI 0, zI 0]) (ps := []) rfl dc rfl (fun _ => by kernel_rfl) ?_
  refine za8 (k := 0) (vs := [.string ByteArray.empty, zI 0, zI 0, zI 0, zI 0, zI 0]) (l' := [.string ByteArray.empty, zI 0, zI 0, zI 0, zI 0, zI 0]) zfm rfl rfl rfl rfl rfl (show _ ≤ _ by simp) rfl rfl ?_
  show TO _ _ _ _ _ _ _ _ _ _ [cells b1 [.string ByteArray.empty, zI 0, zI 0, zI 0, zI 0, zI 0] 36]
  refine zai rfl dc rfl (zan (zaf (zaE (zay (zav ?_)))))
  cases h
  exact zaM (rs := [.cell 4 36, .tmp 5]) () (.inl rfl) Tryd.results28 (.cons (.cells zg9 (k := 0) rfl rfl rfl) (.cons (.tmp rfl) .nil)) rfl Splits.nil
 ·
  have h := za7 hb1 h
  refine zag rfl dc rfl (zag rfl dc rfl (zaC rfl dc rfl (zam zbG rfl dc rfl (show _ = 0 from rfl) (zam zcY rfl dc rfl (show _ = 1 from rfl) (zbg (i := 0) hrd rfl zfn rfl dc rfl rfl (zck (hrd.vw (i := 1) rfl) rfl dc rfl Tryd.underlying57 (zaz rfl dc rfl rfl zfg (zas (b := false) rfl dc rfl rfl (zai rfl dc rfl (zan (zaf ?_)))))))))))
  refine zaF rfl (fun hb2 => ?_) (fun hb2 => ?_)
  ·
   have h := za6 hb2 h
   refine zap (zad ?_)
   refine zba (v := .agg #[.string ByteArray.empty, zI 0, zI 0, zI 0, zI 0, zI 0]) (ps := []) rfl dc rfl (fun _ => by kernel_rfl) ?_
   refine za8 (k := 0) (vs := [.string ByteArray.empty, zI 0, zI 0, zI 0, zI 0, zI 0]) (l' := [.string ByteArray.empty, zI 0, zI 0, zI 0, zI 0, zI 0]) zfm rfl rfl rfl rfl rfl (show _ ≤ _ by simp) rfl rfl ?_
   show TO _ _ _ _ _ _ _ _ _ _ [cells b1 [.string ByteArray.empty, zI 0, zI 0, zI 0, zI 0, zI 0] 36]
   refine zai rfl dc rfl (zan (zaf (zaE (zay (zav ?_)))))
   cases h
   exact zaM (rs := [.cell 4 36, .tmp 5]) () (.inl rfl) Tryd.results28 (.cons (.cells zg9 (k := 0) rfl rfl rfl) (.cons (.tmp rfl) .nil)) rfl Splits.nil
  ·
   have h := za7 hb2 h
   refine zaI (zaw (zaf (zap (zad (zag rfl dc rfl (zaC rfl dc rfl (zam zbG rfl dc rfl (show _ = 0 from rfl) (zam zcY rfl dc rfl (show _ = 1 from rfl) (zbg (i := 0) hrd rfl zfn rfl dc rfl rfl (zag rfl dc rfl ?_))))))))))
   obtain ⟨q1, hq1, h⟩ := zbT h
   refine zb0 (hrd.vw (i := 1) rfl) hq1 Tryd.underlying57 zfm rfl dc rfl rfl rfl (zc2 (m := 0 + (k1 : Int).toNat) (j := 0) (i := 1) (q := q1) (cs := [.string q1.Text, zI q1.Indent, zI q1.Stanza, zI q1.In, zI q1.Span_From, zI q1.Span_To]) hrd rfl zg9 zcg rfl dc rfl (Vw.get (hrd.vw (i := 1) rfl) hq1) rfl rfl rfl (za8 (k := 0) (vs := [.string q1.Text, zI q1.Indent, zI q1.Stanza, zI q1.In, zI q1.Span_From, zI q1.Span_To]) (l' := [.string q1.Text, zI q1.Indent, zI q1.Stanza, zI q1.In, zI q1.Span_From, zI q1.Span_To]) zfm rfl rfl rfl rfl rfl (show _ ≤ _ by simp) rfl rfl ?_))
   show TO _ _ _ _ _ _ _ _ _ _ [cells b1 [.string q1.Text, zI q1.Indent, zI q1.Stanza, zI q1.In, zI q1.Span_From, zI q1.Span_To] 36]
   refine zai rfl dc rfl (zan (zaf (zaE ?_)))
   cases h
   exact zaM (rs := [.cell 4 36, .tmp 5]) () (.inl rfl) Tryd.results28 (.cons (.cells zg9 (k := 0) rfl rfl rfl) (.cons (.tmp rfl) .nil)) rfl Splits.nil
def zcK (p1 : Gpoem_Poem) (q1 : Gpoem_Poem) (j1 : Option Bool) (ag1 : Int → Option Bool) (x3 : Int) : Option Bool :=
za1 (decide ((x3 : Int) < (p1.told_lines.length : Int))) (
zaO (zfH p1.told_lines x3) fun (q2 : Gapi_Verse) =>
zaO (zfH q1.told_lines x3) fun (q3 : Gapi_Verse) =>
za1 (!decide (q2.Text = q3.Text)) (
some false
) (
za1 ((q2.Indent : Int) != q3.Indent) (
some false
) (
za1 ((q2.Stanza : Int) != q3.Stanza) (
some false
) (
grd (I64 (x3 + 1)) <|
ag1 (x3 + 1)
)
)
)
) (
j1
)
def zdG (p1 : Gpoem_Poem) (q1 : Gpoem_Poem) : Option Bool :=
za1 (!decide (p1.told_title = q1.told_title)) (
some false
) (
za1 (((p1.told_lines.length : Int) : Int) != (q1.told_lines.length : Int)) (
some false
) (
zcj (fun (j1 : Option Bool) =>
zbK (fun _ => none) (zcK p1 q1 j1) zdX 0
) (
some true
)
)
)
theorem ze1 {bp1 : Nat} {p1 : Gpoem_Poem} {p1_h0 p1_h1 : Hd} {bq1 : Nat} {q1 : Gpoem_Poem} {q1_h0 q1_h1 : Hd} {r : Bool} (h : zdG p1 q1 = some r) : FnR Tryd.prog 19 [zP bp1, zP bq1] [cells bp1 [.string p1.told_title, p1_h0.v, p1_h1.v, .string p1.source] 93, vec zal 36 6 p1_h0.v p1.told_lines, vec zaq 34 2 p1_h1.v p1.told_stanzas, cells bq1 [.string q1.told_title, q1_h0.v, q1_h1.v, .string q1.source] 93, vec zal 36 6 q1_h0.v q1.told_lines, vec zaq 34 2 q1_h1.v q1.told_stanzas] [] (fun _ : Unit => (.bool r)) (fun _ => []) := by
 unfold zdG at h
 refine FnR.intro Tryd.func19 rfl Tryd.ntmps19 (by simp) ?_
 intro w0 K hrd
 refine zap (zad (zai rfl dc rfl (zan (zaf (zap (zap ?_))))))
 refine zip (b := !decide (p1.told_title = q1.told_title)) (fun hb1 => ?_) (fun hb1 => ?_)
 ·
  have h := za6 hb1 h
  refine zcm 32 [(0, 8, zP bp1), (1, 9, .bool false), (2, 10, .bool false), (3, 11, zP bq1), (4, 12, .bool false), (5, 13, .bool false), (6, 14, .bool false), (7, 15, zP bp1), (8, 16, zP bp1), (9, 17, zP bp1), (10, 18, zP bp1), (11, 19, .string p1.told_title), (12, 20, zP bq1), (13, 21, zP bq1), (14, 22, zP bq1), (15, 23, zP bq1), (16, 24, .string q1.told_title), (17, 25, .bool true), (18, 26, .bool true), (19, 27, .bool true), (20, 28, undef), (21, 29, undef), (22, 30, undef), (23, 31, undef), (24, 32, undef), (25, 33, undef), (26, 34, undef), (27, 35, undef), (28, 36, undef), (29, 37, undef), (30, 38, undef), (31, 39, undef)] mixed kr kr dc (by rfl) kr kr (zao ?_ (zao ?_ (zao ?_ (zao ?_ (zao ?_ (zao ?_ (zao ?_ (zao ?_ (zao ?_ (zao ?_ (zao ?_ (zao ?_ (zao ?_ (zao ?_ (zao ?_ (zao ?_ (zao ?_ (zao ?_ (zao ?_ (zao ?_ (zao ?_ (zao ?_ (zao ?_ (zao ?_ (zao ?_ (zao ?_ (zao ?_ (zao ?_ (zao ?_ (zao ?_ (zao ?_ (zao ?_ DrawPre.nil)))))))))))))))))))))))))))))))) ?_
  ·
   intro D hn hd hcl hu hi
   refine zag rfl dc (zaS (by rfl) rfl) ?_
   exact zar 0 hu hi rfl
  ·
   intro D hn hd hcl hu hi
   refine zaz rfl dc (zaj (m := 0) hu rfl (hd 0 dc)) rfl (zbh Tryd.underlying23) ?_
   exact zar 1 hu hi rfl
  ·
   intro D hn hd hcl hu hi
   refine zag rfl dc (zaj (m := 1) hu rfl (hd 1 dc)) ?_
   exact zar 2 hu hi rfl
  ·
   intro D hn hd hcl hu hi
   refine zag (zeE rfl (zaj (m := 2) hu rfl (hd 2 dc))) dc (zaS (by rfl) rfl) ?_
   exact zar 3 hu hi rfl
  ·
   intro D hn hd hcl hu hi
   refine zaz (zeE rfl (zaj (m := 2) hu rfl (hd 2 dc))) dc (zaj (m := 3) hu rfl (hd 3 dc)) rfl (zbh Tryd.underlying23) ?_
   exact zar 4 hu hi rfl
  ·
   intro D hn hd hcl hu hi
   refine zas (b := false) rfl dc (zaj (m := 2) hu rfl (hd 2 dc)) (zaj (m := 4) hu rfl (hd 4 dc)) ?_
   exact zar 5 hu hi rfl
  ·
   intro D hn hd hcl hu hi
   refine zag rfl dc (zaj (m := 5) hu rfl (hd 5 dc)) ?_
   exact zar 6 hu hi rfl
  ·
   intro D hn hd hcl hu hi
   refine zag (zeE rfl (zaj (m := 6) hu rfl (hd 6 dc))) dc (zaS (by rfl) rfl) ?_
   exact zar 7 hu hi rfl
  ·
   intro D hn hd hcl hu hi
   refine zaC (zeE rfl (zaj (m := 6) hu rfl (hd 6 dc))) dc (zaj (m := 7) hu rfl (hd 7 dc)) ?_
   exact zar 8 hu hi rfl
  ·
   intro D hn hd hcl hu hi
   refine zam zbG (zeE rfl (zaj (m := 6) hu rfl (hd 6 dc))) dc (zaj (m := 8) hu rfl (hd 8 dc)) (show _ = 0 from rfl) ?_
   exact zar 9 hu hi rfl
  ·
   intro D hn hd hcl hu hi
   refine zam zeU (zeE rfl (zaj (m := 6) hu rfl (hd 6 dc))) dc (zaj (m := 9) hu rfl (hd 9 dc)) (show _ = 0 from rfl) ?_
   exact zar 10 hu hi rfl
  ·
   intro D hn hd hcl hu hi
   refine zbg (i := 0) hrd rfl zhz (zeE rfl (zaj (m := 6) hu rfl (hd 6 dc))) dc (zaj (m := 10) hu rfl (hd 10 dc)) rfl ?_
   exact zar 11 hu hi rfl
  ·
   intro D hn hd hcl hu hi
   refine zag (zeE rfl (zaj (m := 6) hu rfl (hd 6 dc))) dc (zaS (by rfl) rfl) ?_
   exact zar 12 hu hi rfl
  ·
   intro D hn hd hcl hu hi
   refine zaC (zeE rfl (zaj (m := 6) hu rfl (hd 6 dc))) dc (zaj (m := 12) hu rfl (hd 12 dc)) ?_
   exact zar 13 hu hi rfl
  ·
   intro D hn hd hcl hu hi
   refine zam zbG (zeE rfl (zaj (m := 6) hu rfl (hd 6 dc))) dc (zaj (m := 13) hu rfl (hd 13 dc)) (show _ = 0 from rfl) ?_
   exact zar 14 hu hi rfl
  ·
   intro D hn hd hcl hu hi
   refine zam zeU (zeE rfl (zaj (m := 6) hu rfl (hd 6 dc))) dc (zaj (m := 14) hu rfl (hd 14 dc)) (show _ = 0 from rfl) ?_
   exact zar 15 hu hi rfl
  ·
   intro D hn hd hcl hu hi
   refine zbg (i := 3) hrd rfl zhz (zeE rfl (zaj (m := 6) hu rfl (hd 6 dc))) dc (zaj (m := 15) hu rfl (hd 15 dc)) rfl ?_
   exact zar 16 hu hi rfl
  ·
   intro D hn hd hcl hu hi
   refine zaz (zeE rfl (zaj (m := 6) hu rfl (hd 6 dc))) dc (zaj (m := 11) hu rfl (hd 11 dc)) (zaj (m := 16) hu rfl (hd 16 dc)) zdJ (ziT (show Value.bool (!decide (p1.told_title = q1.told_title)) = Value.bool true from congrArg Value.bool hb1) ?_)
   exact zar 17 hu hi rfl
  ·
   intro D hn hd hcl hu hi
   refine zas (b := false) rfl dc (zaj (m := 6) hu rfl (hd 6 dc)) (zaj (m := 17) hu rfl (hd 17 dc)) ?_
   exact zar 18 hu hi rfl
  ·
   intro D hn hd hcl hu hi
   refine zag rfl dc (zaj (m := 18) hu rfl (hd 18 dc)) ?_
   exact zar 19 hu hi rfl
  ·
   intro D hn hd hcl hu hi
   refine zae (zcu rfl (zaj (m := 19) hu rfl (hd 19 dc))) dc ?_
   exact zar 20 hu hi rfl
  ·
   intro D hn hd hcl hu hi
   refine zae (zcu rfl (zaj (m := 19) hu rfl (hd 19 dc))) dc ?_
   exact zar 21 hu hi rfl
  ·
   intro D hn hd hcl hu hi
   refine zae (zcu rfl (zaj (m := 19) hu rfl (hd 19 dc))) dc ?_
   exact zar 22 hu hi rfl
  ·
   intro D hn hd hcl hu hi
   refine zae (zcu rfl (zaj (m := 19) hu rfl (hd 19 dc))) dc ?_
   exact zar 23 hu hi rfl
  ·
   intro D hn hd hcl hu hi
   refine zae (zcu rfl (zaj (m := 19) hu rfl (hd 19 dc))) dc ?_
   exact zar 24 hu hi rfl
  ·
   intro D hn hd hcl hu hi
   refine zae (zcu rfl (zaj (m := 19) hu rfl (hd 19 dc))) dc ?_
   exact zar 25 hu hi rfl
  ·
   intro D hn hd hcl hu hi
   refine zae (zcu rfl (zaj (m := 19) hu rfl (hd 19 dc))) dc ?_
   exact zar 26 hu hi rfl
  ·
   intro D hn hd hcl hu hi
   refine zae (zcu rfl (zaj (m := 19) hu rfl (hd 19 dc))) dc ?_
   exact zar 27 hu hi rfl
  ·
   intro D hn hd hcl hu hi
   refine zae (zcu rfl (zaj (m := 19) hu rfl (hd 19 dc))) dc ?_
   exact zar 28 hu hi rfl
  ·
   intro D hn hd hcl hu hi
   refine zae (zcu rfl (zaj (m := 19) hu rfl (hd 19 dc))) dc ?_
   exact zar 29 hu hi rfl
  ·
   intro D hn hd hcl hu hi
   refine zae (zcu rfl (zaj (m := 19) hu rfl (hd 19 dc))) dc ?_
   exact zar 30 hu hi rfl
  ·
   intro D hn hd hcl hu hi
   refine zae (zcu rfl (zaj (m := 19) hu rfl (hd 19 dc))) dc ?_
   exact zar 31 hu hi rfl
  refine zae rfl dc (zas (b := true) rfl dc rfl rfl (zan (zaf (zaY rfl (zap (zad (zai rfl dc rfl (zan (zaf (zaE (zav ?_)))))))))))
  cases h
  exact zaM (rs := [.tmp 4]) () (.inl rfl) Tryd.results19 (.cons (.tmp rfl) .nil) rfl Splits.nil
 ·
  have h := za7 hb1 h
  refine zcm 32 [(0, 8, zP bp1), (1, 9, .bool false), (2, 10, .bool false), (3, 11, zP bq1), (4, 12, .bool false), (5, 13, .bool false), (6, 14, .bool false), (7, 15, zP bp1), (8, 16, zP bp1), (9, 17, zP bp1), (10, 18, zP bp1), (11, 19, .string p1.told_title), (12, 20, zP bq1), (13, 21, zP bq1), (14, 22, zP bq1), (15, 23, zP bq1), (16, 24, .string q1.told_title), (17, 25, .bool false), (18, 26, .bool false), (19, 27, .bool false), (20, 28, zP bp1), (21, 29, zP bp1), (22, 30, zP bp1), (23, 31, .pointer (some ⟨bp1, 1, none⟩)), (24, 32, p1_h0.v), (25, 33, zI (p1.told_lines.length : Int)), (26, 34, zP bq1), (27, 35, zP bq1), (28, 36, zP bq1), (29, 37, .pointer (some ⟨bq1, 1, none⟩)), (30, 38, q1_h0.v), (31, 39, zI (q1.told_lines.length : Int))] mixed kr kr dc (by rfl) kr kr (zao ?_ (zao ?_ (zao ?_ (zao ?_ (zao ?_ (zao ?_ (zao ?_ (zao ?_ (zao ?_ (zao ?_ (zao ?_ (zao ?_ (zao ?_ (zao ?_ (zao ?_ (zao ?_ (zao ?_ (zao ?_ (zao ?_ (zao ?_ (zao ?_ (zao ?_ (zao ?_ (zao ?_ (zao ?_ (zao ?_ (zao ?_ (zao ?_ (zao ?_ (zao ?_ (zao ?_ (zao ?_ DrawPre.nil)))))))))))))))))))))))))))))))) ?_
  ·
   intro D hn hd hcl hu hi
   refine zag rfl dc (zaS (by rfl) rfl) ?_
   exact zar 0 hu hi rfl
  ·
   intro D hn hd hcl hu hi
   refine zaz rfl dc (zaj (m := 0) hu rfl (hd 0 dc)) rfl (zbh Tryd.underlying23) ?_
   exact zar 1 hu hi rfl
  ·
   intro D hn hd hcl hu hi
   refine zag rfl dc (zaj (m := 1) hu rfl (hd 1 dc)) ?_
   exact zar 2 hu hi rfl
  ·
   intro D hn hd hcl hu hi
   refine zag (zeE rfl (zaj (m := 2) hu rfl (hd 2 dc))) dc (zaS (by rfl) rfl) ?_
   exact zar 3 hu hi rfl
  ·
   intro D hn hd hcl hu hi
   refine zaz (zeE rfl (zaj (m := 2) hu rfl (hd 2 dc))) dc (zaj (m := 3) hu rfl (hd 3 dc)) rfl (zbh Tryd.underlying23) ?_
   exact zar 4 hu hi rfl
  ·
   intro D hn hd hcl hu hi
   refine zas (b := false) rfl dc (zaj (m := 2) hu rfl (hd 2 dc)) (zaj (m := 4) hu rfl (hd 4 dc)) ?_
   exact zar 5 hu hi rfl
  ·
   intro D hn hd hcl hu hi
   refine zag rfl dc (zaj (m := 5) hu rfl (hd 5 dc)) ?_
   exact zar 6 hu hi rfl
  ·
   intro D hn hd hcl hu hi
   refine zag (zeE rfl (zaj (m := 6) hu rfl (hd 6 dc))) dc (zaS (by rfl) rfl) ?_
   exact zar 7 hu hi rfl
  ·
   intro D hn hd hcl hu hi
   refine zaC (zeE rfl (zaj (m := 6) hu rfl (hd 6 dc))) dc (zaj (m := 7) hu rfl (hd 7 dc)) ?_
   exact zar 8 hu hi rfl
  ·
   intro D hn hd hcl hu hi
   refine zam zbG (zeE rfl (zaj (m := 6) hu rfl (hd 6 dc))) dc (zaj (m := 8) hu rfl (hd 8 dc)) (show _ = 0 from rfl) ?_
   exact zar 9 hu hi rfl
  ·
   intro D hn hd hcl hu hi
   refine zam zeU (zeE rfl (zaj (m := 6) hu rfl (hd 6 dc))) dc (zaj (m := 9) hu rfl (hd 9 dc)) (show _ = 0 from rfl) ?_
   exact zar 10 hu hi rfl
  ·
   intro D hn hd hcl hu hi
   refine zbg (i := 0) hrd rfl zhz (zeE rfl (zaj (m := 6) hu rfl (hd 6 dc))) dc (zaj (m := 10) hu rfl (hd 10 dc)) rfl ?_
   exact zar 11 hu hi rfl
  ·
   intro D hn hd hcl hu hi
   refine zag (zeE rfl (zaj (m := 6) hu rfl (hd 6 dc))) dc (zaS (by rfl) rfl) ?_
   exact zar 12 hu hi rfl
  ·
   intro D hn hd hcl hu hi
   refine zaC (zeE rfl (zaj (m := 6) hu rfl (hd 6 dc))) dc (zaj (m := 12) hu rfl (hd 12 dc)) ?_
   exact zar 13 hu hi rfl
  ·
   intro D hn hd hcl hu hi
   refine zam zbG (zeE rfl (zaj (m := 6) hu rfl (hd 6 dc))) dc (zaj (m := 13) hu rfl (hd 13 dc)) (show _ = 0 from rfl) ?_
   exact zar 14 hu hi rfl
  ·
   intro D hn hd hcl hu hi
   refine zam zeU (zeE rfl (zaj (m := 6) hu rfl (hd 6 dc))) dc (zaj (m := 14) hu rfl (hd 14 dc)) (show _ = 0 from rfl) ?_
   exact zar 15 hu hi rfl
  ·
   intro D hn hd hcl hu hi
   refine zbg (i := 3) hrd rfl zhz (zeE rfl (zaj (m := 6) hu rfl (hd 6 dc))) dc (zaj (m := 15) hu rfl (hd 15 dc)) rfl ?_
   exact zar 16 hu hi rfl
  ·
   intro D hn hd hcl hu hi
   refine zaz (zeE rfl (zaj (m := 6) hu rfl (hd 6 dc))) dc (zaj (m := 11) hu rfl (hd 11 dc)) (zaj (m := 16) hu rfl (hd 16 dc)) zdJ (ziT (show Value.bool (!decide (p1.told_title = q1.told_title)) = Value.bool false from congrArg Value.bool hb1) ?_)
   exact zar 17 hu hi rfl
  ·
   intro D hn hd hcl hu hi
   refine zas (b := false) rfl dc (zaj (m := 6) hu rfl (hd 6 dc)) (zaj (m := 17) hu rfl (hd 17 dc)) ?_
   exact zar 18 hu hi rfl
  ·
   intro D hn hd hcl hu hi
   refine zag rfl dc (zaj (m := 18) hu rfl (hd 18 dc)) ?_
   exact zar 19 hu hi rfl
  ·
   intro D hn hd hcl hu hi
   refine zag (zeE rfl (zaj (m := 19) hu rfl (hd 19 dc))) dc (zaS (by rfl) rfl) ?_
   exact zar 20 hu hi rfl
  ·
   intro D hn hd hcl hu hi
   refine zaC (zeE rfl (zaj (m := 19) hu rfl (hd 19 dc))) dc (zaj (m := 20) hu rfl (hd 20 dc)) ?_
   exact zar 21 hu hi rfl
  ·
   intro D hn hd hcl hu hi
   refine zam zbG (zeE rfl (zaj (m := 19) hu rfl (hd 19 dc))) dc (zaj (m := 21) hu rfl (hd 21 dc)) (show _ = 0 from rfl) ?_
   exact zar 22 hu hi rfl
  ·
   intro D hn hd hcl hu hi
   refine zam zcY (zeE rfl (zaj (m := 19) hu rfl (hd 19 dc))) dc (zaj (m := 22) hu rfl (hd 22 dc)) (show _ = 1 from rfl) ?_
   exact zar 23 hu hi rfl
  ·
   intro D hn hd hcl hu hi
   refine zbg (i := 0) hrd rfl zfn (zeE rfl (zaj (m := 19) hu rfl (hd 19 dc))) dc (zaj (m := 23) hu rfl (hd 23 dc)) rfl ?_
   exact zar 24 hu hi rfl
  ·
   intro D hn hd hcl hu hi
   refine zck (hrd.vw (i := 1) rfl) (zeE rfl (zaj (m := 19) hu rfl (hd 19 dc))) dc (zaj (m := 24) hu rfl (hd 24 dc)) Tryd.underlying57 ?_
   exact zar 25 hu hi rfl
  ·
   intro D hn hd hcl hu hi
   refine zag (zeE rfl (zaj (m := 19) hu rfl (hd 19 dc))) dc (zaS (by rfl) rfl) ?_
   exact zar 26 hu hi rfl
  ·
   intro D hn hd hcl hu hi
   refine zaC (zeE rfl (zaj (m := 19) hu rfl (hd 19 dc))) dc (zaj (m := 26) hu rfl (hd 26 dc)) ?_
   exact zar 27 hu hi rfl
  ·
   intro D hn hd hcl hu hi
   refine zam zbG (zeE rfl (zaj (m := 19) hu rfl (hd 19 dc))) dc (zaj (m := 27) hu rfl (hd 27 dc)) (show _ = 0 from rfl) ?_
   exact zar 28 hu hi rfl
  ·
   intro D hn hd hcl hu hi
   refine zam zcY (zeE rfl (zaj (m := 19) hu rfl (hd 19 dc))) dc (zaj (m := 28) hu rfl (hd 28 dc)) (show _ = 1 from rfl) ?_
   exact zar 29 hu hi rfl
  ·
   intro D hn hd hcl hu hi
   refine zbg (i := 3) hrd rfl zfn (zeE rfl (zaj (m := 19) hu rfl (hd 19 dc))) dc (zaj (m := 29) hu rfl (hd 29 dc)) rfl ?_
   exact zar 30 hu hi rfl
  ·
   intro D hn hd hcl hu hi
   refine zck (hrd.vw (i := 4) rfl) (zeE rfl (zaj (m := 19) hu rfl (hd 19 dc))) dc (zaj (m := 30) hu rfl (hd 30 dc)) Tryd.underlying57 ?_
   exact zar 31 hu hi rfl
  refine zaz rfl dc rfl rfl zbk (zas (b := false) rfl dc rfl rfl (zan (zaf ?_)))
  refine zaF rfl (fun hb2 => ?_) (fun hb2 => ?_)
  ·
   have h := za6 hb2 h
   refine zap (zad (zai rfl dc rfl (zan (zaf (zaE (zav ?_))))))
   cases h
   exact zaM (rs := [.tmp 4]) () (.inl rfl) Tryd.results19 (.cons (.tmp rfl) .nil) rfl Splits.nil
  ·
   have h := za7 hb2 h
   refine zaI (zaf ?_)
   obtain ⟨j1, hj1, h⟩ := zcH h
   refine zbN (β := Unit) 0 rfl (fun b => j1 = some r) (fun b => []) (fun b => []) (fun b => []) (fun cut => ?_) ?_
   ·
    refine cut (zap (zad (zag rfl dc rfl (zaC rfl dc rfl (zam zbG rfl dc rfl (show _ = 0 from rfl) (zam zcY rfl dc rfl (show _ = 1 from rfl) (zbg (i := 0) hrd rfl zfn rfl dc rfl rfl (zck (hrd.vw (i := 1) rfl) rfl dc rfl Tryd.underlying57 (zag rfl dc rfl (zan (zaf (zaT ?_))))))))))))
    refine zct (β := Nat × Int) (fun b => zbK (fun _ => none) (zcK p1 q1 j1) b.1 b.2 = some r) (fun b => []) (fun b => [(1, zP bq1), (46, p1_h0.v), (47, zI (p1.told_lines.length : Int)), (48, zI b.2)]) (fun b => []) (fun b => b.1) (zdX, 0) h rfl (zah rfl (zah rfl (zah rfl (zah rfl (zaQ))))) Splits.nil ?_
    rintro ⟨n1, x3⟩ h
    cases n1 with
    | zero => exact zeH h
    | succ n1 =>
     obtain ⟨ag1, hag1⟩ : ∃ ag, ag = zbK (fun _ => none) (zcK p1 q1 j1) n1 := ⟨_, rfl⟩
     have h : zcK p1 q1 j1 ag1 x3 = some r := by rw [hag1]; exact h
     unfold zcK at h
     show TC _ _ _ _ _ ([]) _ _ [(1, zP bq1), (46, p1_h0.v), (47, zI (p1.told_lines.length : Int)), (48, zI x3)] []
     refine zap (zad (zaz rfl dc rfl rfl zcb (zan (zaf (zap ?_)))))
     refine zaF rfl (fun hb3 => ?_) (fun hb3 => ?_)
     ·
      have h := za6 hb3 h
      refine zaI (zaf (zap (zaT (zap (zad (zag rfl dc rfl ?_))))))
      obtain ⟨q2, hq1, h⟩ := zbT h
      refine zb0 (hrd.vw (i := 1) rfl) hq1 Tryd.underlying57 zfm rfl dc rfl rfl rfl (zc2 (m := 0 + (x3 : Int).toNat) (j := 0) (i := 1) (q := q2) (cs := [.string q2.Text, zI q2.Indent, zI q2.Stanza, zI q2.In, zI q2.Span_From, zI q2.Span_To]) hrd rfl zg9 zcg rfl dc rfl (Vw.get (hrd.vw (i := 1) rfl) hq1) rfl rfl rfl ?_)
      refine zbe zhr rfl dc (fun b1 => ?_)
      refine zai rfl dc rfl (za8 (k := 0) (vs := [.string q2.Text, zI q2.Indent, zI q2.Stanza, zI q2.In, zI q2.Span_From, zI q2.Span_To]) (l' := [.string q2.Text, zI q2.Indent, zI q2.Stanza, zI q2.In, zI q2.Span_From, zI q2.Span_To]) zfm rfl rfl rfl rfl rfl (show _ ≤ _ by simp) rfl rfl ?_)
      show TO _ _ _ _ _ _ _ _ _ _ [cells b1 [.string q2.Text, zI q2.Indent, zI q2.Stanza, zI q2.In, zI q2.Span_From, zI q2.Span_To] 36]
      refine zan (zaf (zap (zad (zag rfl dc rfl (zaC rfl dc rfl (zam zbG rfl dc rfl (show _ = 0 from rfl) (zam zcY rfl dc rfl (show _ = 1 from rfl) (zbg (i := 3) hrd rfl zfn rfl dc rfl rfl (zag rfl dc rfl ?_)))))))))
      obtain ⟨q3, hq2, h⟩ := zbT h
      refine zb0 (hrd.vw (i := 4) rfl) hq2 Tryd.underlying57 zfm rfl dc rfl rfl rfl (zc2 (m := 0 + (x3 : Int).toNat) (j := 0) (i := 4) (q := q3) (cs := [.string q3.Text, zI q3.Indent, zI q3.Stanza, zI q3.In, zI q3.Span_From, zI q3.Span_To]) hrd rfl zg9 zcg rfl dc rfl (Vw.get (hrd.vw (i := 4) rfl) hq2) rfl rfl rfl ?_)
      refine zbe zhr rfl dc (fun b2 => ?_)
      refine za8 (k := 1) (vs := [.string q3.Text, zI q3.Indent, zI q3.Stanza, zI q3.In, zI q3.Span_From, zI q3.Span_To]) (l' := [.string q3.Text, zI q3.Indent, zI q3.Stanza, zI q3.In, zI q3.Span_From, zI q3.Span_To]) zfm rfl rfl rfl rfl rfl (show _ ≤ _ by simp) rfl rfl ?_
      show TO _ _ _ _ _ _ _ _ _ _ [cells b1 [.string q2.Text, zI q2.Indent, zI q2.Stanza, zI q2.In, zI q2.Span_From, zI q2.Span_To] 36, cells b2 [.string q3.Text, zI q3.Indent, zI q3.Stanza, zI q3.In, zI q3.Span_From, zI q3.Span_To] 36]
      refine zan (zaf (zap (zad (zam zhP rfl dc rfl (show _ = 0 from rfl) (zaP (k := 0) zhz rfl dc rfl rfl rfl (zam zhP rfl dc rfl (show _ = 0 from rfl) (zaP (k := 1) zhz rfl dc rfl rfl rfl (zaz rfl dc rfl rfl zdJ (zag rfl dc rfl ?_)))))))))
      refine zaV (s := 66) rfl (fun hb4 => ?_) (fun hb4 => ?_)
      ·
       have h := za6 hb4 h
       refine zae rfl dc (zae rfl dc (zae rfl dc (zae rfl dc (zae rfl dc (zas (b := true) rfl dc rfl rfl (zag rfl dc rfl (zae rfl dc (zae rfl dc (zae rfl dc (zae rfl dc (zae rfl dc (zas (b := true) rfl dc rfl rfl (zan ?_)))))))))))))
       refine zaf (zaY rfl (zap (zad (zai rfl dc rfl (zan (zaf (zaE (zay (zav (zav (zay (zav ?_))))))))))))
       cases h
       exact zaM (rs := [.tmp 4]) () (.inl rfl) Tryd.results19 (.cons (.tmp rfl) .nil) rfl Splits.nil
      ·
       have h := za7 hb4 h
       refine zam zjS rfl dc rfl (show _ = 1 from rfl) (zaP (k := 0) zcx rfl dc rfl rfl rfl (zam zjS rfl dc rfl (show _ = 1 from rfl) (zaP (k := 1) zcx rfl dc rfl rfl rfl (zaz rfl dc rfl rfl zbk (zas (b := false) rfl dc rfl rfl (zag rfl dc rfl ?_))))))
       refine zaV (s := 73) rfl (fun hb5 => ?_) (fun hb5 => ?_)
       ·
        have h := za6 hb5 h
        refine zae rfl dc (zae rfl dc (zae rfl dc (zae rfl dc (zae rfl dc (zas (b := true) rfl dc rfl rfl (zan (zaf (zaY rfl (zap (zad (zai rfl dc rfl (zan (zaf ?_)))))))))))))
        refine zaE (zay (zav (zav (zay (zav ?_)))))
        cases h
        exact zaM (rs := [.tmp 4]) () (.inl rfl) Tryd.results19 (.cons (.tmp rfl) .nil) rfl Splits.nil
       ·
        have h := za7 hb5 h
        refine zam zhO rfl dc rfl (show _ = 2 from rfl) (zaP (k := 0) zcx rfl dc rfl rfl rfl (zam zhO rfl dc rfl (show _ = 2 from rfl) (zaP (k := 1) zcx rfl dc rfl rfl rfl (zaz rfl dc rfl rfl zbk (zas (b := false) rfl dc rfl rfl (zan (zaf ?_)))))))
        refine zaF rfl (fun hb6 => ?_) (fun hb6 => ?_)
        ·
         have h := za6 hb6 h
         refine zap (zad (zai rfl dc rfl (zan (zaf (zaE (zay (zav (zav (zay (zav ?_))))))))))
         cases h
         exact zaM (rs := [.tmp 4]) () (.inl rfl) Tryd.results19 (.cons (.tmp rfl) .nil) rfl Splits.nil
        ·
         have h := za7 hb6 h
         refine zaI (zaw (zaf (zad ?_)))
         obtain ⟨hg1, h⟩ := zcX h
         refine zaz rfl dc rfl rfl (zbs (r := x3 + 1) (IntWalk.i64_in _ hg1)) (zag rfl dc rfl (zan ?_))
         subst hag1
         exact zbq (n1, x3 + 1) h (Nat.lt_succ_self _) rfl (zah rfl (zah rfl (zah rfl (zah rfl (zaQ))))) Splits.nil
     ·
      have h := za7 hb3 h
      refine zbA (zaR (zaR (za2 ?_)))
      exact za3 () h rfl (zaQ) Splits.nil
   ·
    rintro _ h
    rw [hj1] at h
    show TC _ _ _ _ _ ([]) _ _ [] []
    refine zap (zad (zai rfl dc rfl (zan (zaf (zaE ?_)))))
    cases h
    exact zaM (rs := [.tmp 4]) () (.inl rfl) Tryd.results19 (.cons (.tmp rfl) .nil) rfl Splits.nil
end Go.Proofs.YtgfkogafkhbgnaaDoor
namespace Go.Proofs.YtgfkogafkhbgnaaDoor
open Go.RowKit Go.Lib Go.Shelf
attribute [local go_sem] Oper.semAt_some zk9 zh9 zia
set_option linter.unusedVariables false

theorem zgn {a b : Bool} (h : a = b) : Ending.returned (.bool a) = .returned (.bool b) := by rw [h]
theorem zjH {k : IntKind} {a b : Int} (h : a = b) : Ending.returned (.int k a) = .returned (.int k b) := by rw [h]

end Go.Proofs.YtgfkogafkhbgnaaDoor
namespace Go.Proofs.YtgfkogafkhbgnaaDoor
open Go.RowKit Go.Lib

/-- The slice value v owns the bytes b. -/
def Br (w : World) (base : Nat) (e : TypeId) (v : Value) (b : ByteArray) : Prop := w.ownsRow base e 1 v b.size (strCells b)
theorem Br.nil (w : World) (base : Nat) (e : TypeId) : Br w base e (.slice none 0 0) ⟨#[]⟩ := World.ownsRow_nil w base e 1
theorem Br.below {w w' : World} {base : Nat} {e : TypeId} {v : Value} {b : ByteArray} (h : Br w base e v b) (hb : Below w.heap.size w w') : Br w' base e v b := by
  refine ⟨h.1, ?_⟩
  rcases h.2 with hn | ⟨g, cap, cur, rfl, h2, h3, rest⟩
  · exact .inl hn
  · exact .inr ⟨g, cap, cur, rfl, h2, zle h3 hb, rest⟩
theorem Br.lt {w : World} {base : Nat} {e : TypeId} {v : Value} {b : ByteArray} (h : Br w base e v b) : ∀ k, v.ownBlock = some k → base ≤ k ∧ k < w.heap.size := World.ownsRow.lt h
theorem Br.conv {P : Program} {w : World} {base : Nat} {el : TypeId} {v : Value} {b : ByteArray} (h : Br w base el v b) (src dst e : TypeId) (hs : P.underlying src = some (.slice e)) (he : P.underlying e = some (.int .u8)) (hd : P.underlying dst = some .string) :
    (convert src dst v).run P w = .ok (.string b) w := by
  rcases h.2 with ⟨rfl, h2⟩ | ⟨g, cap, cur, rfl, _, _, _⟩
  · have hb : b = ⟨#[]⟩ := by
      apply ByteArray.ext; exact Array.eq_empty_of_size_eq_zero h2
    rw [hb]; exact run_convert_nil_bytes w src dst e 0 hs he hd
  · have hl : b.data.toList.length = b.size := by rw [Array.length_toList]; rfl
    have := run_convert_bytes_back (P := P) w src dst e ⟨g, 0, none⟩ cap b.data.toList hs he hd (fun j hj => by
      refine World.ownsRow.cells h rfl j _ ?_
      unfold strCells; rw [List.getElem?_map, List.getElem?_eq_getElem hj]; rfl)
    rw [hl] at this
    rw [this]

end Go.Proofs.YtgfkogafkhbgnaaDoor
namespace Go.Proofs.YtgfkogafkhbgnaaDoor
open Go.RowKit Go.Lib Go.Shelf
attribute [local go_sem] Oper.semAt_some
set_option linter.unusedVariables false
set_option linter.unusedSimpArgs false

theorem zoG : (Tryd.prog.info? 5).map (fun i => (i.zero, i.size, i.bytes)) = some (some (.int .u8 0), 1, 1) := by kernel_rfl
theorem zoI : ∃ j, Tryd.prog.info? 106 = some j ∧ j.size ≠ 0 := by
  have h : (Tryd.prog.info? 106).map (fun j => decide (j.size ≠ 0)) = some true := by kernel_rfl
  cases hj : Tryd.prog.info? 106 with
  | none => rw [hj] at h; simp at h
  | some j => rw [hj] at h; exact ⟨j, rfl, by simpa using h⟩

theorem zlO (b : Nat) (v : Value) (w : World) (h : w.heap[b]? = some (.cells #[.pointer none, v] 106 (0, 0))) :
    Calls Tryd.prog 79 #[.pointer (some ⟨b, 0, none⟩)] w fun e w' => e = .returned (.tuple #[]) ∧ w' = w.setCell ⟨b, 0, none⟩ (.pointer (some ⟨b, 0, none⟩)) := by
  have c0 : w.cell? ⟨b, 0, none⟩ = some (.pointer none) := zdV h rfl
  have f0 := zjj h 0
  have hsh : w.shape? b = some (106, 2) := by simp [World.shape?, h]
  obtain ⟨j, hj, hjs⟩ := zoI
  clear h
  go_enter Tryd.func79, Tryd.ntmps79
  go_wp2
  rw [Lib.run_to_unsafe w ⟨b, 0, none⟩ (t := 106) (by kernel_rfl) (by kernel_rfl) hj hjs hsh (Nat.zero_lt_succ 1)]
  simp only [Result.andThen]
  rw [Oper.upon_value]
  go_wp2
  rw [run_callFunc_extern Tryd.func97 (by kernel_rfl) (by kernel_rfl) (by kernel_rfl) (e := Extern.AbiNoEscape.same) (by kernel_rfl)]
  rw [Lib.run_noEscape]
  simp only [Result.andThen]
  rw [Oper.upon_value]
  go_wp2
  rw [Lib.run_from_unsafe w ⟨b, 0, none⟩ (u := 106) (by kernel_rfl) (by kernel_rfl) hj hsh (by kernel_rfl)]
  simp only [Result.andThen]
  rw [Oper.upon_value]
  go_wp2
  go_end0
  exact ⟨rfl, rfl⟩
theorem zkY (b : Nat) (v : Value) (w : World) (h : w.heap[b]? = some (.cells #[.pointer (some ⟨b, 0, none⟩), v] 106 (0, 0))) :
    Calls Tryd.prog 79 #[.pointer (some ⟨b, 0, none⟩)] w fun e w' => e = .returned (.tuple #[]) ∧ w' = w := by
  have c0 : w.cell? ⟨b, 0, none⟩ = some (.pointer (some ⟨b, 0, none⟩)) := zdV h rfl
  obtain ⟨j, hj, hjs⟩ := zoI
  clear h
  go_enter Tryd.func79, Tryd.ntmps79
  go_wp2
  rw [Lib.run_neq_ptr_same w _ (te := 106) (by kernel_rfl) hj]
  go_wp2
  go_end0
  exact ⟨rfl, rfl⟩

/-- A builder in block b that holds the bytes bs; C: its blocks. -/
def Bld (b : Nat) (bs : ByteArray) (C : Nat → Prop) (w : World) : Prop :=
  ∃ p v D, w.heap[b]? = some (.cells #[p, v] 106 (0, 0)) ∧ (p = .pointer none ∨ p = .pointer (some ⟨b, 0, none⟩)) ∧ Byt 5 v bs D w ∧ ¬ D b ∧ C = (fun k => k = b ∨ D k)
theorem Bld.local {b : Nat} {bs : ByteArray} {C : Nat → Prop} {w w' : World} (h : Bld b bs C w) (hk : ∀ k, C k → w'.heap[k]? = w.heap[k]?) : Bld b bs C w' := by
  obtain ⟨p, v, D, h1, h2, h3, h4, rfl⟩ := h
  exact ⟨p, v, D, (hk b (.inl rfl)).trans h1, h2, h3.local (fun k h => hk k (.inr h)), h4, rfl⟩
theorem Bld.lt {b : Nat} {bs : ByteArray} {C : Nat → Prop} {w : World} (h : Bld b bs C w) : ∀ k, C k → k < w.heap.size := by
  obtain ⟨p, v, D, h1, h2, h3, h4, rfl⟩ := h
  rintro k (rfl | hk)
  · exact zby h1
  · exact h3.lt k hk
theorem Bld.ext {b : Nat} {bs : ByteArray} {C D D' : Nat → Prop} {w w' : World} (h : Bld b bs C w) (hx : Ext D D' w w') (hd : ∀ k, C k → ¬ D k) : Bld b bs C w' :=
  h.local (fun k hk => hx.1.keep k (h.lt k hk) (hd k hk))
theorem zhs (b : Nat) (bs s : ByteArray) (C : Nat → Prop) (w : World) (h : Bld b bs C w) (hn : bs.size + s.size ≤ 140737488355328) :
    Calls Tryd.prog 55 #[.pointer (some ⟨b, 0, none⟩), .string s] w fun e w' => (∃ u, e = .returned u) ∧ ∃ C', Bld b (bs ++ s) C' w' ∧ Ext C C' w w' := by
  obtain ⟨p, v, D, hbk, hp, hbr, hne, rfl⟩ := h
  obtain ⟨ip, hpi, hpz, hps, hpb⟩ := info_parts zoG
  obtain ⟨w1, hck, hb1, hbr1, hx1⟩ : ∃ w1, (Calls Tryd.prog 79 #[.pointer (some ⟨b, 0, none⟩)] w fun e w' => e = .returned (.tuple #[]) ∧ w' = w1) ∧
      w1.heap[b]? = some (.cells #[.pointer (some ⟨b, 0, none⟩), v] 106 (0, 0)) ∧ Byt 5 v bs D w1 ∧ Ext (fun k => k = b ∨ D k) (fun k => k = b ∨ D k) w w1 := by
    rcases hp with rfl | rfl
    · have hx : Ext (fun k => k = b) (fun k => k = b) w (w.setCell ⟨b, 0, none⟩ (.pointer (some ⟨b, 0, none⟩))) := Ext.setCell (C' := fun k => k = b) (Ext.refl _ _) (p := ⟨b, 0, none⟩) rfl _
      refine ⟨_, zlO b v w hbk, ?_, hbr.ext hx (by rintro k hk rfl; exact hne hk), Ext.setCell (C' := fun k => k = b ∨ D k) (Ext.refl _ _) (p := ⟨b, 0, none⟩) (.inl rfl) _⟩
      simp [World.setCell, Array.getElem?_modify, hbk]
    · exact ⟨w, zkY b v w hbk, hbk, hbr, Ext.refl _ _⟩
  have c1 : w1.cell? ⟨b, 1, none⟩ = some v := zdV hb1 rfl
  have hlt : b < w1.heap.size := zby hb1
  have Hbk := Lib.hid hbk; have Hbr := Lib.hid hbr; have Hx1 := Lib.hid hx1
  clear hbk hbr hx1
  go_enter Tryd.func55, Tryd.ntmps55
  go_wp2_with (first | (go_at_call 79; refine hck.mono ?_; rintro e w' ⟨rfl, rfl⟩) | (refine zgF _ rfl _ _ _ _ rfl 5 _ (by kernel_rfl) (by kernel_rfl) hpi hpz hps hpb _ _ _ rfl hbr1 _ rfl hn ?_))
  rintro v' w2 D' hr2 hx2
  have hb2 : w2.heap[b]? = some (.cells #[.pointer (some ⟨b, 0, none⟩), v] 106 (0, 0)) := (hx2.1.keep b hlt hne).trans hb1
  have f1 := zjj hb2 1
  have d1 : w2.cell? ⟨b, 1, none⟩ = some v := zdV hb2 rfl
  have hne' : ¬ D' b := hx2.not hlt hne
  obtain ⟨ao, n', cap', rfl⟩ : ∃ ao n' cap', v' = .slice ao n' cap' := by
    rcases hr2.shape with ⟨rfl, _⟩ | ⟨g, cap, cur, rfl, _⟩ <;> exact ⟨_, _, _, rfl⟩
  have Hr2 := Lib.hid hr2; have Hx2 := Lib.hid hx2; have Hb2 := Lib.hid hb2
  clear hr2 hx2 hb2
  go_wp2
  go_ret2
  have hx3 : Ext (fun k => k = b ∨ D' k) (fun k => k = b ∨ D' k) w2 (w2.setCell ⟨b, 1, none⟩ (.slice ao n' cap')) := Ext.setCell (C' := fun k => k = b ∨ D' k) (Ext.refl _ _) (p := ⟨b, 1, none⟩) (.inl rfl) _
  have hx3' : Ext (fun k => k = b) (fun k => k = b) w2 (w2.setCell ⟨b, 1, none⟩ (.slice ao n' cap')) := Ext.setCell (C' := fun k => k = b) (Ext.refl _ _) (p := ⟨b, 1, none⟩) rfl _
  refine ⟨⟨_, rfl⟩, fun k => k = b ∨ D' k, ⟨_, _, D', ?_, .inr rfl, Hr2.out.ext hx3' (by rintro k hk rfl; exact hne' hk), hne', rfl⟩, ?_⟩
  · simp [World.setCell, Array.getElem?_modify, Hb2.out]
  · refine (Hx1.out.trans ?_).trans hx3
    exact ⟨Hx2.out.1.weaken (fun k _ h => .inr h), fun k hk => by
      rcases hk with rfl | hk
      · exact .inl (.inl rfl)
      · exact (Hx2.out.2 k hk).imp .inr id⟩

/-- The string of a builder. -/
theorem zkR {C C' : Nat → Prop} {a w : World} (h : Ext C C' a w) {g : Nat} (hg : C' g) (m : Nat) : Ext C C' a (w.freeze ⟨g, 0, none⟩ m) := by
  unfold World.freeze
  split
  · exact h
  · have hs : ∀ f : Obj → Obj, ({ w with heap := w.heap.modify g f } : World).heap.size = w.heap.size := fun f => by simp
    refine ⟨⟨h.1.os, h.1.tape, h.1.output, by simpa using h.1.size, fun k hk hn => ?_⟩, fun k hk => by simpa using h.2 k hk⟩
    rw [Array.getElem?_modify]
    rw [if_neg]
    · exact h.1.keep k hk hn
    · intro e
      have e' : g = k := e
      subst e'
      rcases h.2 _ hg with h' | h'
      · exact hn h'
      · omega

theorem zj3 (b : Nat) (bs : ByteArray) (C : Nat → Prop) (w : World) (h : Bld b bs C w) :
    Calls Tryd.prog 57 #[.pointer (some ⟨b, 0, none⟩)] w fun e w' => e = .returned (.string bs) ∧ Ext C C w w' := by
  obtain ⟨p, v, D, hbk, hp, hbr, hne, rfl⟩ := h
  rcases hbr.shape with ⟨rfl, rfl, rfl⟩ | ⟨g, cap, cur, rfl, hgl, hbc, hcm, rfl, hg⟩
  · have c1 : w.drew.cell? ⟨b, 1, none⟩ = some (.slice none 0 0) := zdV (w := w.drew) hbk rfl
    have hSD : (Builtin.unsafeSliceData_ #[104] 139 #[.slice none 0 0]).run Tryd.prog w.drew = .ok (.pointer none) w.drew := rfl
    have hUS : ∀ W q, (Builtin.unsafeString_ #[139, 3] 9 #[.pointer q, .int .i64 0]).run Tryd.prog W = .ok (.string .empty) W := fun W q => Lib.run_unsafeString_none W _ _ _ q
    clear hbk hbr
    go_enter Tryd.func57, Tryd.ntmps57
    go_wp2
    go_region
    all_goals (go_wp2; go_ret; exact ⟨rfl, (Ext.refl _ _).drew⟩)
  · by_cases h0 : bs.size = 0
    · have hbs : bs = ⟨#[]⟩ := by apply ByteArray.ext; exact Array.eq_empty_of_size_eq_zero h0
      subst hbs
      have h00 : (⟨#[]⟩ : ByteArray).size = 0 := rfl
      rw [h00] at hbk hbr
      have hUS : ∀ W q, (Builtin.unsafeString_ #[139, 3] 9 #[.pointer q, .int .i64 0]).run Tryd.prog W = .ok (.string .empty) W := fun W q => Lib.run_unsafeString_none W _ _ _ q
      have c1 : w.drew.cell? ⟨b, 1, none⟩ = some (.slice (some ⟨g, 0, none⟩) 0 cap) := zdV (w := w.drew) hbk rfl
      by_cases hc0 : cap = 0
      · subst hc0
        have hSD : (Builtin.unsafeSliceData_ #[104] 139 #[.slice (some ⟨g, 0, none⟩) 0 0]).run Tryd.prog w.drew = .ok (.pointer (some ⟨w.drew.heap.size, 0, none⟩)) (w.drew.alloc (.view ⟨g, 0, none⟩ 5)) :=
          Lib.run_unsafeSliceData_zero w.drew _ _ 5 (by kernel_rfl) ⟨g, 0, none⟩ 0 (5, cur.size) (by have hg' : w.drew.heap[g]? = some (.cells cur 5 (0, 0)) := hg; simp [World.shape?, hg'])
        have hlt := zby hbk
        have c2 : (w.drew.alloc (.view ⟨g, 0, none⟩ 5)).cell? ⟨b, 1, none⟩ = some (.slice (some ⟨g, 0, none⟩) 0 0) := zdV (w := w.drew.alloc _) ((Below.heap_alloc w.drew _ b hlt).trans hbk) rfl
        have c3 : (w.alloc (.view ⟨g, 0, none⟩ 5)).drew.cell? ⟨b, 1, none⟩ = some (.slice (some ⟨g, 0, none⟩) 0 0) := c2
        have c0 : w.cell? ⟨b, 1, none⟩ = some (.slice (some ⟨g, 0, none⟩) 0 0) := c1
        clear hbk hbr hg
        go_enter Tryd.func57, Tryd.ntmps57
        go_wp2
        go_region
        all_goals (go_wp2; go_ret; exact ⟨rfl, (Ext.refl _ _).drew.alloc _⟩)
      · have hSD : (Builtin.unsafeSliceData_ #[104] 139 #[.slice (some ⟨g, 0, none⟩) 0 cap]).run Tryd.prog w.drew = .ok (.pointer (some ⟨g, 0, none⟩)) w.drew := Lib.run_unsafeSliceData_row _ _ _ _ _ _ hc0
        clear hbk hbr hg hc0
        go_enter Tryd.func57, Tryd.ntmps57
        go_wp2
        go_region
        all_goals (go_wp2; go_ret; exact ⟨rfl, (Ext.refl _ _).drew⟩)
    · obtain ⟨l, hl⟩ : ∃ l, l = bs.data.toList := ⟨_, rfl⟩
      have hll : l.length = bs.size := by rw [hl, Array.length_toList]; rfl
      have hbs : bs = ⟨l.toArray⟩ := by rw [hl]
      have hl0 : l ≠ [] := by intro e; rw [e] at hll; exact h0 hll.symm
      rw [← hll] at hbk hbc hbr
      have c1 : w.drew.cell? ⟨b, 1, none⟩ = some (.slice (some ⟨g, 0, none⟩) l.length cap) := zdV (w := w.drew) hbk rfl
      have hSD : (Builtin.unsafeSliceData_ #[104] 139 #[.slice (some ⟨g, 0, none⟩) l.length cap]).run Tryd.prog w.drew = .ok (.pointer (some ⟨g, 0, none⟩)) w.drew :=
        Lib.run_unsafeSliceData_row _ _ _ _ _ _ (by omega)
      have hcs : cur.size = cap * 1 := by
        rcases hbr.1.2 with ⟨h1, _⟩ | ⟨g', cap', cur', h1, _, h3, _, _, h6, _⟩
        · cases h1
        · have e1 : g = g' := by injection h1 with q1 q2 q3; injection q1 with q1; injection q1
          have e2 : cap = cap' := by injection h1
          subst e1; subst e2
          rw [hg] at h3; injection h3 with h3; injection h3 with h3
          rw [h3]; exact h6
      have hUS : (Builtin.unsafeString_ #[139, 3] 9 #[.pointer (some ⟨g, 0, none⟩), .int .i64 l.length]).run Tryd.prog w.drew = .ok (.string ⟨l.toArray⟩) (w.drew.freeze ⟨g, 0, none⟩ l.length) := by
        refine Lib.run_unsafeString_row w.drew 139 3 9 5 (by kernel_rfl) (by kernel_rfl) g cur.size (by have hg' : w.drew.heap[g]? = some (.cells cur 5 (0, 0)) := hg; simp [World.shape?, hg']) l hl0 (by omega) (by unfold maxLen at hcm; omega) ?_
        intro j x hx
        refine World.ownsRow.cells hbr.1 (g := g) rfl j (.int .u8 x.toNat) ?_
        unfold strCells
        rw [List.getElem?_map, ← hl, hx]; rfl
      rw [hbs]
      have hx : Ext (fun k => k = b ∨ k = g) (fun k => k = b ∨ k = g) w (w.drew.freeze ⟨g, 0, none⟩ l.length) := zkR ((Ext.refl _ _).drew) (.inr rfl) _
      have Hx := Lib.hid hx
      clear hbk hbr hg hx hbs hll hcs
      clear hl
      go_enter Tryd.func57, Tryd.ntmps57
      go_wp2
      go_region
      all_goals (go_wp2; go_ret; exact ⟨rfl, Hx.out⟩)

end Go.Proofs.YtgfkogafkhbgnaaDoor
namespace Go.Proofs.YtgfkogafkhbgnaaDoor
open Go.RowKit Go.Lib Go.Shelf
attribute [local go_sem] Oper.semAt_some
set_option linter.unusedVariables false
set_option linter.unusedSimpArgs false
theorem Bld.drew {b : Nat} {bs : ByteArray} {C : Nat → Prop} {w : World} (h : Bld b bs C w) : Bld b bs C w.drew := h.local (fun _ _ => rfl)
/-! ### As contracts -/
def zhR (b : Nat) (bs : ByteArray) : Asn := ⟨fun C w => Bld b bs C w, fun h => h.lt, fun h _ hk => h.local hk⟩
theorem zis (b : Nat) (bs s : ByteArray) (hn : bs.size + s.size ≤ 140737488355328) : Fn Tryd.prog 55 [.pointer (some ⟨b, 0, none⟩), .string s] [zhR b bs] (fun u : Value => u) (fun _ => [zhR b (bs ++ s)]) := by
  intro w C hA
  refine (zhs b bs s C w (sepL.one1.1 hA) hn).mono ?_
  rintro e w' ⟨⟨u, rfl⟩, C', h1, h2⟩
  exact ⟨u, rfl, C', sepL.one1.2 h1, h2⟩
theorem znF (b : Nat) (bs : ByteArray) : Fn Tryd.prog 57 [.pointer (some ⟨b, 0, none⟩)] [zhR b bs] (fun _ : Unit => .string bs) (fun _ => []) := by
  intro w C hA
  refine (zj3 b bs C w (sepL.one1.1 hA)).mono ?_
  rintro e w' ⟨rfl, h2⟩
  exact ⟨(), rfl, fun _ => False, fun _ h => h, h2.1, fun k hk => hk.elim⟩
theorem zk2 {b : Nat} : Ent (cells b [.pointer none, .slice none 0 0] 106) (zhR b ⟨#[]⟩) := by
  intro C w h
  have hC : C = fun k => k = b := funext fun k => propext (h.1 k)
  subst hC
  exact ⟨_, _, _, h.2, .inl rfl, Byt.nil, by simp, by funext k; simp⟩
end Go.Proofs.YtgfkogafkhbgnaaDoor
namespace Go.Proofs.YtgfkogafkhbgnaaDoor
open Go.RowKit Go.Lib Go.Shelf
set_option linter.unusedVariables false
set_option linter.unusedSimpArgs false
theorem zmw (b : Nat) (bs : ByteArray) (C : Nat → Prop) (w : World) (h : Bld b bs C w) :
    Calls Tryd.prog 56 #[.pointer (some ⟨b, 0, none⟩)] w fun e w' => e = .returned (.int .i64 (bs.size : Int)) ∧ w = w' := by
  obtain ⟨p, v, D, hbk, hp, hbr, hne, rfl⟩ := h
  rcases hbr.shape with ⟨rfl, rfl, rfl⟩ | ⟨g, cap, cur, rfl, hgl, hbc, hcm, rfl, hg⟩
  · have c1 : w.cell? ⟨b, 1, none⟩ = some (.slice none 0 0) := zdV hbk rfl
    clear hbk hbr
    go_enter Tryd.func56, Tryd.ntmps56
    go_wp2
    go_ret
    exact ⟨rfl, rfl⟩
  · have c1 : w.cell? ⟨b, 1, none⟩ = some (.slice (some ⟨g, 0, none⟩) bs.size cap) := zdV hbk rfl
    clear hbk hbr
    go_enter Tryd.func56, Tryd.ntmps56
    go_wp2
    go_ret
    exact ⟨rfl, rfl⟩
theorem znG (b : Nat) (bs : ByteArray) : Fn Tryd.prog 56 [.pointer (some ⟨b, 0, none⟩)] [zhR b bs] (fun _ : Unit => .int .i64 (bs.size : Int)) (fun _ => [zhR b bs]) := by
  intro w C hA
  refine (zmw b bs C w (sepL.one1.1 hA)).mono ?_
  rintro e w' ⟨rfl, rfl⟩
  exact ⟨(), rfl, C, hA, Ext.refl _ _⟩
end Go.Proofs.YtgfkogafkhbgnaaDoor
namespace Go.Proofs.YtgfkogafkhbgnaaDoor
open Go.RowKit Go.Lib
set_option linter.unusedVariables false
set_option linter.unusedSimpArgs false
def zce (j3 : ByteArray → Option ByteArray) (x5 : List ByteArray) (ag2 : ByteArray → Int → Option ByteArray) (b12 : ByteArray) (x8 : Int) : Option ByteArray :=
za1 (decide ((x8 : Int) < (x5.length : Int))) (
zaO (zfH x5 x8) fun (q2 : ByteArray) =>
grd (q2.size + (⟨#[10]⟩ : ByteArray).size ≤ 9223372036854775807) <|
grd (b12.size + (q2 ++ (⟨#[10]⟩ : ByteArray)).size ≤ 140737488355328) <|
grd (I64 (x8 + 1)) <|
ag2 (b12 ++ (q2 ++ (⟨#[10]⟩ : ByteArray))) (x8 + 1)
) (
j3 b12
)
def zbE (stanzas1 : List (List ByteArray)) (j2 : ByteArray → Option ByteArray) (ag1 : ByteArray → Int → Option ByteArray) (b7 : ByteArray) (x4 : Int) : Option ByteArray :=
za1 (decide ((x4 : Int) < (stanzas1.length : Int))) (
zcj (fun (j3 : ByteArray → Option ByteArray) =>
zaO (zfH stanzas1 x4) fun (x5 : List ByteArray) =>
zcj (fun (j4 : ByteArray → Option ByteArray) =>
za1 (decide ((0 : Int) < (b7.size : Int))) (
grd (b7.size + (⟨#[10]⟩ : ByteArray).size ≤ 140737488355328) <|
j4 (b7 ++ (⟨#[10]⟩ : ByteArray))
) (
j4 b7
)
) (fun (b9 : ByteArray) =>
zbK (fun _ _ => none) (zce j3 x5) zdX b9 0
)
) (fun (b8 : ByteArray) =>
grd (I64 (x4 + 1)) <|
ag1 b8 (x4 + 1)
)
) (
j2 b7
)
def zc7 (title1 : ByteArray) (stanzas1 : List (List ByteArray)) : Option ByteArray :=
zcj (fun (j1 : ByteArray → Option ByteArray) =>
za1 (!decide (title1 = (⟨#[]⟩ : ByteArray))) (
grd ((⟨#[35, 32]⟩ : ByteArray).size + title1.size ≤ 9223372036854775807) <|
grd (((⟨#[35, 32]⟩ : ByteArray) ++ title1).size + (⟨#[10]⟩ : ByteArray).size ≤ 9223372036854775807) <|
grd ((⟨#[]⟩ : ByteArray).size + (((⟨#[35, 32]⟩ : ByteArray) ++ title1) ++ (⟨#[10]⟩ : ByteArray)).size ≤ 140737488355328) <|
j1 ((⟨#[]⟩ : ByteArray) ++ (((⟨#[35, 32]⟩ : ByteArray) ++ title1) ++ (⟨#[10]⟩ : ByteArray)))
) (
za1 (decide ((0 : Int) < (stanzas1.length : Int))) (
zaO (zfH stanzas1 0) fun (x1 : List ByteArray) =>
zaO (zfH x1 0) fun (q1 : ByteArray) =>
zaO (zdt q1) fun (r1 : Bool) =>
za1 (r1) (
grd ((⟨#[35, 32]⟩ : ByteArray).size + title1.size ≤ 9223372036854775807) <|
grd (((⟨#[35, 32]⟩ : ByteArray) ++ title1).size + (⟨#[10]⟩ : ByteArray).size ≤ 9223372036854775807) <|
grd ((⟨#[]⟩ : ByteArray).size + (((⟨#[35, 32]⟩ : ByteArray) ++ title1) ++ (⟨#[10]⟩ : ByteArray)).size ≤ 140737488355328) <|
j1 ((⟨#[]⟩ : ByteArray) ++ (((⟨#[35, 32]⟩ : ByteArray) ++ title1) ++ (⟨#[10]⟩ : ByteArray)))
) (
j1 (⟨#[]⟩ : ByteArray)
)
) (
j1 (⟨#[]⟩ : ByteArray)
)
)
) (fun (b2 : ByteArray) =>
zcj (fun (j2 : ByteArray → Option ByteArray) =>
zbK (fun _ _ => none) (zbE stanzas1 j2) zdX b2 0
) (fun (b4 : ByteArray) =>
some b4
)
)
theorem zfz {title1 : ByteArray} {vvstanzas1 : Value} {vstanzas1 : Hd} {Zstanzas1 : List ((List ByteArray) × Hd)} {kstanzas1 : Nat} {zstanzas1 : List ((List ByteArray) × Hd)} {stanzas1 : List (List ByteArray)} (hwstanzas1 : Vw vvstanzas1 Zstanzas1 1 kstanzas1 vstanzas1.v zstanzas1) (hzstanzas1 : zstanzas1.map Prod.fst = stanzas1) {r : ByteArray} (h : zc7 title1 stanzas1 = some r) : FnR Tryd.prog 60 [.string title1, vstanzas1.v] [zeG zat 1 vvstanzas1 kstanzas1 Zstanzas1, zf5 zbx Zstanzas1] [] (fun _ : Unit => (.string r)) (fun _ => []) := by
 unfold zc7 at h
 refine FnR.intro Tryd.func60 rfl Tryd.ntmps60 (by simp) ?_
 intro w0 K hrd
 obtain ⟨j1, hj1, h⟩ := zcH h
 refine zbN (β := ByteArray × Nat) 2 rfl (fun b => j1 b.1 = some r) (fun b => []) (fun b => [(1, vstanzas1.v), (5, zP b.2)]) (fun b => [zhR b.2 b.1]) (fun cut => ?_) ?_
 ·
  refine zap (zad (zai rfl dc rfl (zan (zaf (zap (zad ?_))))))
  refine zbe zn6 rfl dc (fun b3 => ?_)
  show TO _ _ _ _ _ _ _ _ _ _ [cells b3 [.pointer none, .slice none 0 0] 106]
  refine zm0 (k := 0) rfl zk2 ?_
  show TO _ _ _ _ _ _ _ _ _ _ [zhR b3 (⟨#[]⟩ : ByteArray)]
  refine zan (zaf (cut (zap (zad (zag rfl dc rfl (zaz rfl dc rfl rfl zdJ (zag rfl dc rfl ?_)))))))
  refine zaV (s := 12) rfl (fun hb1 => ?_) (fun hb1 => ?_)
  ·
   have h := za6 hb1 h
   refine zae rfl dc (zae rfl dc (zae rfl dc (zae rfl dc (zae rfl dc (zae rfl dc (zae rfl dc (zae rfl dc (zae rfl dc (zae rfl dc (zae rfl dc (zas (b := true) rfl dc rfl rfl (zan (zaf ?_)))))))))))))
   refine zaY rfl (zad (zag rfl dc rfl ?_))
   obtain ⟨hg1, h⟩ := zcX h
   refine zaz rfl dc rfl rfl (zfX hg1) ?_
   obtain ⟨hg2, h⟩ := zcX h
   refine zaz rfl dc rfl rfl (zfX hg2) ?_
   obtain ⟨hg3, h⟩ := zcX h
   refine zcr (vs := [zP b3, .string (((⟨#[35, 32]⟩ : ByteArray) ++ title1) ++ (⟨#[10]⟩ : ByteArray))]) rfl dc rfl rfl rfl zmn (zis b3 (⟨#[]⟩ : ByteArray) (((⟨#[35, 32]⟩ : ByteArray) ++ title1) ++ (⟨#[10]⟩ : ByteArray)) hg3) (zak [0] kr rfl) ?_
   rintro u1
   show TO _ _ _ _ _ _ _ _ _ _ [emp, zhR b3 ((⟨#[]⟩ : ByteArray) ++ (((⟨#[35, 32]⟩ : ByteArray) ++ title1) ++ (⟨#[10]⟩ : ByteArray)))]
   refine zan ?_
   exact za3 ((⟨#[]⟩ : ByteArray) ++ (((⟨#[35, 32]⟩ : ByteArray) ++ title1) ++ (⟨#[10]⟩ : ByteArray)), b3) h rfl (zah rfl (zah rfl (zaQ))) (zak [1] kr rfl)
  ·
   have h := za7 hb1 h
   refine zag rfl dc rfl (zgC hzstanzas1 hwstanzas1 rfl dc rfl Tryd.underlying54 (zaz rfl dc rfl rfl zcO (zag rfl dc rfl ?_)))
   refine zaV (s := 16) rfl (fun hb2 => ?_) (fun hb2 => ?_)
   ·
    have h := za6 hb2 h
    refine zag rfl dc rfl ?_
    obtain ⟨x1, hq1, h⟩ := zbT h
    obtain ⟨eh1, eq1⟩ := zij hzstanzas1 hq1
    have hrd : Rd _ _ [zeG zat 1 vvstanzas1 kstanzas1 Zstanzas1, zf5 zbx Zstanzas1, zlq zfL 1 eh1 x1] := hrd.openEl (i := 1) (z := (x1, eh1)) rfl (Vw.get hwstanzas1 eq1)
    obtain ⟨vv1, k1, L1, hV1, hrd⟩ := hrd.openSl (i := 2) rfl
    replace hrd : Rd _ _ [zeG zat 1 vvstanzas1 kstanzas1 Zstanzas1, zf5 zbx Zstanzas1, zlq zfL 1 eh1 x1, zeG zfL 1 vv1 k1 L1] := hrd
    refine zb0 hwstanzas1 eq1 Tryd.underlying54 ziY rfl dc rfl rfl rfl (zds (n := kstanzas1 + (0 : Int).toNat) (j := 0) (i := 0) (q := (x1, eh1)) hrd rfl (by omega) zkG rfl dc rfl (Vw.get hwstanzas1 eq1) rfl rfl ?_)
    obtain ⟨q1, hq2, h⟩ := zbT h
    refine zb0 hV1 hq2 Tryd.underlying48 znW rfl dc rfl rfl rfl (zds (n := k1 + (0 : Int).toNat) (j := 0) (i := 3) (q := q1) hrd rfl (by omega) zhz rfl dc rfl (Vw.get hV1 hq2) rfl rfl ?_)
    obtain ⟨r1, hq3, h⟩ := zbT h
    refine za9 (v := .bool r1) (vs := [.string q1]) rfl dc rfl rfl rfl zou (zf4 hq3) (zas (b := true) rfl dc rfl rfl (zas (b := false) rfl dc rfl rfl (zan (zaf ?_))))
    refine zaF rfl (fun hb3 => ?_) (fun hb3 => ?_)
    ·
     have h := za6 hb3 h
     refine zad (zag rfl dc rfl ?_)
     obtain ⟨hg4, h⟩ := zcX h
     refine zaz rfl dc rfl rfl (zfX hg4) ?_
     obtain ⟨hg5, h⟩ := zcX h
     refine zaz rfl dc rfl rfl (zfX hg5) ?_
     obtain ⟨hg6, h⟩ := zcX h
     refine zcr (vs := [zP b3, .string (((⟨#[35, 32]⟩ : ByteArray) ++ title1) ++ (⟨#[10]⟩ : ByteArray))]) rfl dc rfl rfl rfl zmn (zis b3 (⟨#[]⟩ : ByteArray) (((⟨#[35, 32]⟩ : ByteArray) ++ title1) ++ (⟨#[10]⟩ : ByteArray)) hg6) (zak [0] kr rfl) ?_
     rintro u2
     show TO _ _ _ _ _ _ _ _ _ _ [emp, zhR b3 ((⟨#[]⟩ : ByteArray) ++ (((⟨#[35, 32]⟩ : ByteArray) ++ title1) ++ (⟨#[10]⟩ : ByteArray)))]
     refine zan ?_
     exact za3 ((⟨#[]⟩ : ByteArray) ++ (((⟨#[35, 32]⟩ : ByteArray) ++ title1) ++ (⟨#[10]⟩ : ByteArray)), b3) h rfl (zah rfl (zah rfl (zaQ))) (zak [1] kr rfl)
    ·
     have h := za7 hb3 h
     refine zaI ?_
     exact za3 ((⟨#[]⟩ : ByteArray), b3) h rfl (zah rfl (zah rfl (zaQ))) (zak [0] kr rfl)
   ·
    have h := za7 hb2 h
    refine zae rfl dc (zae rfl dc (zae rfl dc (zae rfl dc (zae rfl dc (zae rfl dc (zas (b := false) rfl dc rfl rfl (zas (b := false) rfl dc rfl rfl (zan (zaf (za0 rfl (zaI ?_)))))))))))
    exact za3 ((⟨#[]⟩ : ByteArray), b3) h rfl (zah rfl (zah rfl (zaQ))) (zak [0] kr rfl)
 ·
  rintro ⟨b2, b1⟩ h
  rw [hj1] at h
  show TC _ _ _ _ _ ([]) _ _ [(1, vstanzas1.v), (5, zP b1)] [zhR b1 b2]
  obtain ⟨j2, hj2, h⟩ := zcH h
  refine zbN (β := ByteArray) 0 rfl (fun b => j2 b = some r) (fun b => []) (fun b => [(5, zP b1)]) (fun b => [zhR b1 b]) (fun cut => ?_) ?_
  ·
   refine cut (zap (zad (zag rfl dc rfl (zgC hzstanzas1 hwstanzas1 rfl dc rfl Tryd.underlying54 (zag rfl dc rfl (zan (zaf (zaT ?_))))))))
   refine zct (β := Nat × ByteArray × Int) (fun b => zbK (fun _ _ => none) (zbE stanzas1 j2) b.1 b.2.1 b.2.2 = some r) (fun b => []) (fun b => [(5, zP b1), (29, vstanzas1.v), (30, zI (stanzas1.length : Int)), (31, zI b.2.2)]) (fun b => [zhR b1 b.2.1]) (fun b => b.1) (zdX, b2, 0) h rfl (zah rfl (zah rfl (zah rfl (zah rfl (zaQ))))) (zak [0] kr rfl) ?_
   rintro ⟨n1, b7, x4⟩ h
   cases n1 with
   | zero => exact zeH h
   | succ n1 =>
    obtain ⟨ag1, hag1⟩ : ∃ ag, ag = zbK (fun _ _ => none) (zbE stanzas1 j2) n1 := ⟨_, rfl⟩
    have h : zbE stanzas1 j2 ag1 b7 x4 = some r := by rw [hag1]; exact h
    unfold zbE at h
    show TC _ _ _ _ _ ([]) _ _ [(5, zP b1), (29, vstanzas1.v), (30, zI (stanzas1.length : Int)), (31, zI x4)] [zhR b1 b7]
    refine zap (zad (zaz rfl dc rfl rfl zcb (zan (zaf (zap ?_)))))
    refine zaF rfl (fun hb4 => ?_) (fun hb4 => ?_)
    ·
     have h := za6 hb4 h
     refine zaI (zaf ?_)
     obtain ⟨j3, hj3, h⟩ := zcH h
     refine zbN (β := ByteArray) 0 rfl (fun b => j3 b = some r) (fun b => []) (fun b => [(5, zP b1), (29, vstanzas1.v), (30, zI (stanzas1.length : Int)), (31, zI x4)]) (fun b => [zhR b1 b]) (fun cut => ?_) ?_
     ·
      refine cut (zaT (zap (zad ?_)))
      obtain ⟨x5, hq4, h⟩ := zbT h
      obtain ⟨eh2, eq2⟩ := zij hzstanzas1 hq4
      have hrd : Rd _ _ [zeG zat 1 vvstanzas1 kstanzas1 Zstanzas1, zf5 zbx Zstanzas1, zlq zfL 1 eh2 x5] := hrd.openEl (i := 1) (z := (x5, eh2)) rfl (Vw.get hwstanzas1 eq2)
      obtain ⟨vv2, k2, L2, hV2, hrd⟩ := hrd.openSl (i := 2) rfl
      replace hrd : Rd _ _ [zeG zat 1 vvstanzas1 kstanzas1 Zstanzas1, zf5 zbx Zstanzas1, zlq zfL 1 eh2 x5, zeG zfL 1 vv2 k2 L2] := hrd
      refine zb0 hwstanzas1 eq2 Tryd.underlying54 ziY rfl dc rfl rfl rfl (zds (n := kstanzas1 + (x4 : Int).toNat) (j := 0) (i := 0) (q := (x5, eh2)) hrd rfl (by omega) zkG rfl dc rfl (Vw.get hwstanzas1 eq2) rfl rfl (zai rfl dc rfl (zan (zaf ?_))))
      obtain ⟨j4, hj4, h⟩ := zcH h
      refine zbN (β := ByteArray) 0 rfl (fun b => j4 b = some r) (fun b => []) (fun b => [(5, zP b1), (7, eh2.v), (29, vstanzas1.v), (30, zI (stanzas1.length : Int)), (31, zI x4)]) (fun b => [zhR b1 b]) (fun cut => ?_) ?_
      ·
       refine cut (zap (zad (zmB (v := zI (b7.size : Int)) (vs := [zP b1]) rfl dc rfl rfl rfl zph (znG b1 b7) [0] kr rfl (zaz rfl dc rfl rfl zcO (zan (zaf ?_))))))
       refine zaF rfl (fun hb5 => ?_) (fun hb5 => ?_)
       ·
        have h := za6 hb5 h
        refine zad ?_
        obtain ⟨hg7, h⟩ := zcX h
        refine zcr (vs := [zP b1, .string (⟨#[10]⟩ : ByteArray)]) rfl dc rfl rfl rfl zmn (zis b1 b7 (⟨#[10]⟩ : ByteArray) hg7) (zak [0] kr rfl) ?_
        rintro u3
        show TO _ _ _ _ _ _ _ _ _ _ [emp, zhR b1 (b7 ++ (⟨#[10]⟩ : ByteArray))]
        refine zan ?_
        exact za3 (b7 ++ (⟨#[10]⟩ : ByteArray)) h rfl (zah rfl (zah rfl (zah rfl (zah rfl (zah rfl (zaQ)))))) (zak [1] kr rfl)
       ·
        have h := za7 hb5 h
        refine zaI ?_
        exact za3 b7 h rfl (zah rfl (zah rfl (zah rfl (zah rfl (zah rfl (zaQ)))))) (zak [0] kr rfl)
      ·
       rintro b9 h
       rw [hj4] at h
       show TC _ _ _ _ _ ([]) _ _ [(5, zP b1), (7, eh2.v), (29, vstanzas1.v), (30, zI (stanzas1.length : Int)), (31, zI x4)] [zhR b1 b9]
       refine zap (zad (zag rfl dc rfl (zck hV2 rfl dc rfl Tryd.underlying48 (zag rfl dc rfl (zan (zaf (zaT ?_)))))))
       refine zct (β := Nat × ByteArray × Int) (fun b => zbK (fun _ _ => none) (zce j3 x5) b.1 b.2.1 b.2.2 = some r) (fun b => []) (fun b => [(5, zP b1), (29, vstanzas1.v), (30, zI (stanzas1.length : Int)), (31, zI x4), (38, eh2.v), (39, zI (x5.length : Int)), (40, zI b.2.2)]) (fun b => [zhR b1 b.2.1]) (fun b => b.1) (zdX, b9, 0) h rfl (zah rfl (zah rfl (zah rfl (zah rfl (zah rfl (zah rfl (zah rfl (zaQ)))))))) (zak [0] kr rfl) ?_
       rintro ⟨n2, b12, x8⟩ h
       cases n2 with
       | zero => exact zeH h
       | succ n2 =>
        obtain ⟨ag2, hag2⟩ : ∃ ag, ag = zbK (fun _ _ => none) (zce j3 x5) n2 := ⟨_, rfl⟩
        have h : zce j3 x5 ag2 b12 x8 = some r := by rw [hag2]; exact h
        unfold zce at h
        show TC _ _ _ _ _ ([]) _ _ [(5, zP b1), (29, vstanzas1.v), (30, zI (stanzas1.length : Int)), (31, zI x4), (38, eh2.v), (39, zI (x5.length : Int)), (40, zI x8)] [zhR b1 b12]
        refine zap (zad (zaz rfl dc rfl rfl zcb (zan (zaf (zap ?_)))))
        refine zaF rfl (fun hb6 => ?_) (fun hb6 => ?_)
        ·
         have h := za6 hb6 h
         refine zaI (zaf (zap (zaT (zap (zad ?_)))))
         obtain ⟨q2, hq5, h⟩ := zbT h
         refine zb0 hV2 hq5 Tryd.underlying48 znW rfl dc rfl rfl rfl (zds (n := k2 + (x8 : Int).toNat) (j := 0) (i := 3) (q := q2) hrd rfl (by omega) zhz rfl dc rfl (Vw.get hV2 hq5) rfl rfl (zai rfl dc rfl (zan (zaf (zad (zag rfl dc rfl ?_))))))
         obtain ⟨hg8, h⟩ := zcX h
         refine zaz rfl dc rfl rfl (zfX hg8) ?_
         obtain ⟨hg9, h⟩ := zcX h
         refine zcr (vs := [zP b1, .string (q2 ++ (⟨#[10]⟩ : ByteArray))]) rfl dc rfl rfl rfl zmn (zis b1 b12 (q2 ++ (⟨#[10]⟩ : ByteArray)) hg9) (zak [0] kr rfl) ?_
         rintro u4
         show TO _ _ _ _ _ _ _ _ _ _ [emp, zhR b1 (b12 ++ (q2 ++ (⟨#[10]⟩ : ByteArray)))]
         refine zan (zaw (zaf (zad ?_)))
         obtain ⟨hg10, h⟩ := zcX h
         refine zaz rfl dc rfl rfl (zbs (r := x8 + 1) (IntWalk.i64_in _ hg10)) (zag rfl dc rfl (zan ?_))
         subst hag2
         exact zbq (n2, b12 ++ (q2 ++ (⟨#[10]⟩ : ByteArray)), x8 + 1) h (Nat.lt_succ_self _) rfl (zah rfl (zah rfl (zah rfl (zah rfl (zah rfl (zah rfl (zah rfl (zaQ)))))))) (zak [1] kr rfl)
        ·
         have h := za7 hb6 h
         refine zbA (zaR (zaR (za2 (zaw ?_))))
         exact za3 b12 h rfl (zah rfl (zah rfl (zah rfl (zah rfl (zaQ))))) (zak [0] kr rfl)
     ·
      rintro b8 h
      rw [hj3] at h
      show TC _ _ _ _ _ ([]) _ _ [(5, zP b1), (29, vstanzas1.v), (30, zI (stanzas1.length : Int)), (31, zI x4)] [zhR b1 b8]
      refine zad ?_
      obtain ⟨hg11, h⟩ := zcX h
      refine zaz rfl dc rfl rfl (zbs (r := x4 + 1) (IntWalk.i64_in _ hg11)) (zag rfl dc rfl (zan ?_))
      subst hag1
      exact zbq (n1, b8, x4 + 1) h (Nat.lt_succ_self _) rfl (zah rfl (zah rfl (zah rfl (zah rfl (zaQ))))) (zak [0] kr rfl)
    ·
     have h := za7 hb4 h
     refine zbA (zaR (zaR (za2 ?_)))
     exact za3 b7 h rfl (zah rfl (zaQ)) (zak [0] kr rfl)
  ·
   rintro b4 h
   rw [hj2] at h
   show TC _ _ _ _ _ ([]) _ _ [(5, zP b1)] [zhR b1 b4]
   refine zap (zad (zcr (vs := [zP b1]) rfl dc rfl rfl rfl zpg (znF b1 b4) (zak [0] kr rfl) ?_))
   rintro _
   show TO _ _ _ _ _ _ _ _ _ _ [emp]
   refine zai rfl dc rfl (zan (zaf (zaE ?_)))
   cases h
   exact zaM (rs := [.tmp 4]) () (.inl rfl) Tryd.results60 (.cons (.tmp rfl) .nil) rfl Splits.nil
def zbV (from1 : Int) (to1 : Int) (x1 : Int × Gapi_Verse) (ag1 : (List (List ByteArray)) → Int → Option (List (List ByteArray))) (out4 : List (List ByteArray)) (stanza3 : Int) : Option (List (List ByteArray)) :=
za1 (decide ((x1.1 : Int) < from1)) (
ag1 out4 stanza3
) (
za1 (decide ((to1 : Int) ≤ x1.1)) (
ag1 out4 stanza3
) (
zcj (fun (j2 : (List (List ByteArray)) → Int → Option (List (List ByteArray))) =>
za1 ((x1.2.Stanza : Int) != stanza3) (
grd (out4.length + 1 ≤ 2147483648) <|
j2 (out4 ++ [([] : List ByteArray)]) x1.2.Stanza
) (
j2 out4 stanza3
)
) (fun (out5 : List (List ByteArray)) (stanza4 : Int) =>
grd (I64 ((out5.length : Int) - 1)) <|
zaO (zfH out5 ((out5.length : Int) - 1)) fun (x2 : List ByteArray) =>
grd (0 ≤ x1.2.Indent ∧ x1.2.Indent ≤ 140737488355328) <|
grd ((zca x1.2.Indent).size + x1.2.Text.size ≤ 9223372036854775807) <|
grd (x2.length + 1 ≤ 2147483648) <|
ag1 (out5.set ((out5.length : Int) - 1 : Int).toNat (x2 ++ [(zca x1.2.Indent) ++ x1.2.Text])) stanza4
)
)
)
def zb9 (p1 : Gpoem_Poem) (from1 : Int) (to1 : Int) : Option (List (List ByteArray)) :=
zcj (fun (j1 : (List (List ByteArray)) → Option (List (List ByteArray))) =>
zaO (zdI p1) fun (r1 : Unit) =>
zaO (zcf p1) fun (its1 : (List (Int × Gapi_Verse))) =>
zcj (fun (d1 : (List (List ByteArray)) → Int → Option (List (List ByteArray))) =>
zdf d1 (zbV from1 to1) its1 ([] : List (List ByteArray)) (-1)
) (fun (out4 : List (List ByteArray)) (stanza3 : Int) =>
j1 out4
)
) (fun (out1 : List (List ByteArray)) =>
some out1
)
theorem zd2 {bp1 : Nat} {p1 : Gpoem_Poem} {p1_h0 p1_h1 : Hd} {from1 : Int} {to1 : Int} {r : (List (List ByteArray))} (h : zb9 p1 from1 to1 = some r) : FnR Tryd.prog 61 [zP bp1, zI from1, zI to1] [cells bp1 [.string p1.told_title, p1_h0.v, p1_h1.v, .string p1.source] 93, vec zal 36 6 p1_h0.v p1.told_lines, vec zaq 34 2 p1_h1.v p1.told_stanzas] [] (fun v0 : Value => v0) (fun v0 => [zb2 zat zau 48 1 v0 r]) := by
 unfold zb9 at h
 refine FnR.intro Tryd.func61 rfl Tryd.ntmps61 (by simp) ?_
 intro w0 K hrd
 refine zgD ?_
 show TC _ _ _ _ _ _ _ _ _ [zbU ((([] : List Nat) : List Nat).map zbJ)]
 obtain ⟨j1, hj1, h⟩ := zcH h
 refine zbN (β := (List (List ByteArray)) × Nat × Hd × (List Nat)) 3 rfl (fun b => j1 b.1 = some r) (fun b => zdq b.2.2.2) (fun b => [(7, zP b.2.1)]) (fun b => [cells b.2.1 [b.2.2.1.v] 54, zb2 zat zau 48 1 b.2.2.1.v b.1, zbU ((b.2.2.2 : List Nat).map zbJ)]) (fun cut => ?_) ?_
 ·
  refine zap (zad ?_)
  refine zdF rfl dc rfl (fun b2 => ?_)
  refine zdF rfl dc rfl (fun b3 => ?_)
  show TO _ _ _ _ _ _ _ _ _ _ [zbU ((([] : List Nat) : List Nat).map zbJ), cells b2 [zI from1] 3, cells b3 [zI to1] 3]
  refine zai rfl dc rfl (zan (zaf (zap (zad ?_))))
  refine zbe zoY rfl dc (fun b4 => ?_)
  refine zan (zaf (zap (zad ?_)))
  refine zbe znU rfl dc (fun b5 => ?_)
  show TO _ _ _ _ _ _ _ _ _ _ [zbU ((([] : List Nat) : List Nat).map zbJ), cells b2 [zI from1] 3, cells b3 [zI to1] 3, cells b4 [.slice none 0 0] 54, cells b5 [zI 0] 3]
  refine zaN (k := 4) (l' := [zI (-1)]) zdW rfl rfl rfl rfl rfl (fun _ _ => rfl) rfl ?_
  refine zan (zaf (cut (zap (zad (zag rfl dc rfl ?_)))))
  obtain ⟨r1, hq1, h⟩ := zbT h
  refine zcl (vs := [zP bp1]) hrd rfl dc rfl rfl rfl zmr (ze3 (bp1 := bp1) (p1 := p1) (p1_h0 := p1_h0) (p1_h1 := p1_h1) hq1) Splits.nil (.ro 0 rfl (.ro 1 rfl (.ro 2 rfl .nil))) ?_
  rintro b6
  show TO _ _ _ _ _ _ _ _ _ _ [zbU ((([] : List Nat) : List Nat).map zbJ), cells b2 [zI from1] 3, cells b3 [zI to1] 3, cells b4 [.slice none 0 0] 54, cells b5 [zI (-1)] 3, cells b6 [zP bp1] 23]
  refine zbf (L' := [zbU ((([] : List Nat) : List Nat).map zbJ), cells b2 [zI from1] 3, cells b3 [zI to1] 3, cells b4 [.slice none 0 0] 54, cells b5 [zI (-1)] 3, cells b6 [zP bp1] 23]) (zak [0, 1, 2, 3, 4, 5] kr rfl) (zan (zaf (zaT ?_)))
  obtain ⟨its1, hq2, h⟩ := zbT h
  refine znO (enc := zat) (nest := zau) (e := 48) (size := 1) ?_
  show TC _ _ _ _ _ _ _ _ _ [zbU ((([] : List Nat) : List Nat).map zbJ), cells b2 [zI from1] 3, cells b3 [zI to1] 3, cells b4 [.slice none 0 0] 54, cells b5 [zI (-1)] 3, cells b6 [zP bp1] 23, zb2 zat zau 48 1 (.slice none 0 0) ([] : List (List ByteArray))]
  obtain ⟨d1, hd1, h⟩ := zcH h
  refine zfS (α := Int × Gapi_Verse) (β := (List (List ByteArray)) × Int × Hd) (γ := Unit) (δ := Nat) (ps := [14, 15]) hrd Ro.nil rfl zmo (zei hq2) (fun pre b => ∀ post, its1 = pre ++ post → zdf d1 (zbV from1 to1) post b.1 b.2.1 = some r) (fun pre b => [cells b2 [zI from1] 3, cells b3 [zI to1] 3, cells b4 [b.2.2.v] 54, zb2 zat zau 48 1 b.2.2.v b.1, cells b5 [zI b.2.1] 3]) (fun c pre g => False) (fun c pre g => []) (fun pre x b j => [(4, zP b2), (5, zP b3), (6, .slice none 0 0), (7, zP b4), (8, zP b5), (13, .func (.func 52) #[] #[zP b6]), (9, zI x.1), (10, zP j)]) (fun pre x b j => [cells b2 [zI from1] 3, cells b3 [zI to1] 3, cells b4 [b.2.2.v] 54, zb2 zat zau 48 1 b.2.2.v b.1, cells b5 [zI b.2.1] 3, cells j [.string x.2.Text, zI x.2.Indent, zI x.2.Stanza, zI x.2.In, zI x.2.Span_From, zI x.2.Span_To] 36]) (([] : List (List ByteArray)), (-1), Hd.nil) (fun post e => by rw [List.nil_append] at e; subst e; exact h) (zak [1, 2, 3, 6, 4] kr rfl) (.own (zak [5] (by kernel_rfl) rfl) (fun _ _ h => sepL.one1.1 h) (.ro 0 rfl (.ro 1 rfl (.ro 2 rfl .nil)))) (fun _ => rfl) dc ?_ ?_ ?_ ?_
  ·
   rintro lp rc pre x1 post ⟨out4, stanza3, hd4⟩ w1 K1 hxs1 hext hro hinv
   have hrd := hrd.ext hext
   refine zap (zad (zai rfl dc rfl (zan (zaf (zad ?_)))))
   refine zbe zhr rfl dc (fun b7 => ?_)
   refine za8 (k := 5) (vs := [.string x1.2.Text, zI x1.2.Indent, zI x1.2.Stanza, zI x1.2.In, zI x1.2.Span_From, zI x1.2.Span_To]) (l' := [.string x1.2.Text, zI x1.2.Indent, zI x1.2.Stanza, zI x1.2.In, zI x1.2.Span_From, zI x1.2.Span_To]) zfm rfl rfl rfl rfl rfl (show _ ≤ _ by simp) rfl rfl ?_
   show TO _ _ _ _ _ _ _ _ _ _ [cells b2 [zI from1] 3, cells b3 [zI to1] 3, cells b4 [hd4.v] 54, zb2 zat zau 48 1 hd4.v out4, cells b5 [zI stanza3] 3, cells b7 [.string x1.2.Text, zI x1.2.Indent, zI x1.2.Stanza, zI x1.2.In, zI x1.2.Span_From, zI x1.2.Span_To] 36]
   refine zan ?_
   exact fun a w ha hw => ⟨b7, (zah rfl (zah rfl (zah rfl (zah rfl (zah rfl (zah rfl (zah rfl (zah rfl (zaQ))))))))) _ _ _ ha, hw.weaken (zak [0, 1, 2, 3, 4, 5] kr rfl)⟩
  ·
   rintro lp rc pre x1 post1 ⟨out4, stanza3, hd4⟩ jb1 w1 K1 hxs1 hext hro hinv
   have hrd := hrd.ext hext
   have h := hinv (x1 :: post1) hxs1
   obtain ⟨ag1, hag1⟩ : ∃ ag, ag = zdf d1 (zbV from1 to1) post1 := ⟨_, rfl⟩
   have h : zbV from1 to1 x1 ag1 out4 stanza3 = some r := by rw [hag1]; exact h
   unfold zbV at h
   show TC _ _ _ _ _ _ _ _ [(4, zP b2), (5, zP b3), (6, .slice none 0 0), (7, zP b4), (8, zP b5), (13, .func (.func 52) #[] #[zP b6]), (9, zI x1.1), (10, zP jb1)] [cells b2 [zI from1] 3, cells b3 [zI to1] 3, cells b4 [hd4.v] 54, zb2 zat zau 48 1 hd4.v out4, cells b5 [zI stanza3] 3, cells jb1 [.string x1.2.Text, zI x1.2.Indent, zI x1.2.Stanza, zI x1.2.In, zI x1.2.Span_From, zI x1.2.Span_To] 36]
   refine zaT (zap (zap (zad (zag rfl dc rfl (zaP (k := 0) zcx rfl dc rfl rfl rfl (zaz rfl dc rfl rfl zcb (zag rfl dc rfl ?_)))))))
   refine zaV (s := 19) rfl (fun hb1 => ?_) (fun hb1 => ?_)
   ·
    have h := za6 hb1 h
    refine zae rfl dc (zae rfl dc (zae rfl dc (zas (b := true) rfl dc rfl rfl (zan (zaf (zaY rfl (zbA (zaR (za2 ?_)))))))))
    exact zcD (out4, stanza3, hd4) (fun post2 e2 => by have e9 := zeu hxs1 e2; subst e9; subst hag1; exact h) (zak [0, 1, 2, 3, 4] kr rfl)
   ·
    have h := za7 hb1 h
    refine zag rfl dc rfl (zaP (k := 1) zcx rfl dc rfl rfl rfl (zaz rfl dc rfl rfl zfg (zas (b := false) rfl dc rfl rfl (zan (zaf ?_)))))
    refine zaF rfl (fun hb2 => ?_) (fun hb2 => ?_)
    ·
     have h := za6 hb2 h
     refine zbA (zaR (za2 ?_))
     exact zcD (out4, stanza3, hd4) (fun post2 e2 => by have e9 := zeu hxs1 e2; subst e9; subst hag1; exact h) (zak [0, 1, 2, 3, 4] kr rfl)
    ·
     have h := za7 hb2 h
     refine zaI (zaf ?_)
     obtain ⟨j2, hj2, h⟩ := zcH h
     refine zbN (β := (List (List ByteArray)) × Int × Hd) 0 rfl (fun b => j2 b.1 b.2.1 = some r) (fun b => []) (fun b => [(4, zP b2), (5, zP b3), (6, .slice none 0 0), (7, zP b4), (8, zP b5), (10, zP jb1), (13, .func (.func 52) #[] #[zP b6])]) (fun b => [cells b2 [zI from1] 3, cells b3 [zI to1] 3, cells b4 [b.2.2.v] 54, zb2 zat zau 48 1 b.2.2.v b.1, cells b5 [zI b.2.1] 3, cells jb1 [.string x1.2.Text, zI x1.2.Indent, zI x1.2.Stanza, zI x1.2.In, zI x1.2.Span_From, zI x1.2.Span_To] 36]) (fun cut => ?_) ?_
     ·
      refine cut (zap (zad (zam zhO rfl dc rfl (show _ = 2 from rfl) (zaP (k := 5) zcx rfl dc rfl rfl rfl (zaP (k := 4) zcx rfl dc rfl rfl rfl (zaz rfl dc rfl rfl zbk (zan (zaf ?_))))))))
      refine zaF rfl (fun hb3 => ?_) (fun hb3 => ?_)
      ·
       have h := za6 hb3 h
       refine zap (zad (zaP (k := 2) zll rfl dc rfl rfl rfl ?_))
       refine zbC (cs := [.slice none 0 0]) (te := 48) (ps := [(0, .const (.slice none 0 0))]) rfl dc rfl (fun _ => by kernel_rfl) (fun b8 => ?_)
       refine zlT (enc := zfL) (e := 9) (size := 1) ?_
       show TO _ _ _ _ _ _ _ _ _ _ [cells b2 [zI from1] 3, cells b3 [zI to1] 3, cells b4 [hd4.v] 54, zb2 zat zau 48 1 hd4.v out4, cells b5 [zI stanza3] 3, cells jb1 [.string x1.2.Text, zI x1.2.Indent, zI x1.2.Stanza, zI x1.2.In, zI x1.2.Span_From, zI x1.2.Span_To] 36, cells b8 [.slice none 0 0] 48, vec zfL 9 1 (.slice none 0 0) ([] : List ByteArray)]
       refine zkZ (k := 3) rfl zme (fun zs1 hz1 => ?_)
       show TO _ _ _ _ _ _ _ _ _ _ [cells b2 [zI from1] 3, cells b3 [zI to1] 3, cells b4 [hd4.v] 54, vec zat 48 1 hd4.v zs1, cells b5 [zI stanza3] 3, cells jb1 [.string x1.2.Text, zI x1.2.Indent, zI x1.2.Stanza, zI x1.2.In, zI x1.2.Span_From, zI x1.2.Span_To] 36, cells b8 [.slice none 0 0] 48, vec zfL 9 1 (.slice none 0 0) ([] : List ByteArray), own zau zs1]
       obtain ⟨hg1, h⟩ := zcX h
       refine zcS (k := 3) (k2 := 6) (ys := [(([] : List ByteArray), Hd.nil)]) Tryd.underlying54 zpv zbl zgT rfl dc rfl rfl rfl rfl rfl rfl (by rw [zpE hz1]; exact hg1) (fun v1 => ?_)
       show TO _ _ _ _ _ _ _ _ _ _ [cells b2 [zI from1] 3, cells b3 [zI to1] 3, cells b4 [hd4.v] 54, vec zat 48 1 v1 (zs1 ++ [(([] : List ByteArray), Hd.nil)]), cells b5 [zI stanza3] 3, cells jb1 [.string x1.2.Text, zI x1.2.Indent, zI x1.2.Stanza, zI x1.2.In, zI x1.2.Span_From, zI x1.2.Span_To] 36, cells b8 [.slice none 0 0] 48, vec zfL 9 1 (.slice none 0 0) ([] : List ByteArray), own zau zs1]
       refine zef (k := 3) rfl (fun hd6 he1 => ?_)
       subst he1
       refine zeQ (k := 8) rfl (zak [7] kr rfl) rfl (zoj (nest := zau) (zs := zs1) (z := (([] : List ByteArray), Hd.nil))) ?_
       show TO _ _ _ _ _ _ _ _ _ _ [cells b2 [zI from1] 3, cells b3 [zI to1] 3, cells b4 [hd4.v] 54, vec zat 48 1 hd6.v (zs1 ++ [(([] : List ByteArray), Hd.nil)]), cells b5 [zI stanza3] 3, cells jb1 [.string x1.2.Text, zI x1.2.Indent, zI x1.2.Stanza, zI x1.2.In, zI x1.2.Span_From, zI x1.2.Span_To] 36, cells b8 [.slice none 0 0] 48, emp, own zau (zs1 ++ [(([] : List ByteArray), Hd.nil)])]
       refine zeQ (k := 3) rfl (zak [8] kr rfl) rfl (zkv (enc := zat) (nest := zau) (zpN hz1)) ?_
       show TO _ _ _ _ _ _ _ _ _ _ [cells b2 [zI from1] 3, cells b3 [zI to1] 3, cells b4 [hd4.v] 54, zb2 zat zau 48 1 hd6.v (out4 ++ [([] : List ByteArray)]), cells b5 [zI stanza3] 3, cells jb1 [.string x1.2.Text, zI x1.2.Indent, zI x1.2.Stanza, zI x1.2.In, zI x1.2.Span_From, zI x1.2.Span_To] 36, cells b8 [.slice none 0 0] 48, emp, emp]
       refine zbf (L' := [cells b2 [zI from1] 3, cells b3 [zI to1] 3, cells b4 [hd4.v] 54, zb2 zat zau 48 1 hd6.v (out4 ++ [([] : List ByteArray)]), cells b5 [zI stanza3] 3, cells jb1 [.string x1.2.Text, zI x1.2.Indent, zI x1.2.Stanza, zI x1.2.In, zI x1.2.Span_From, zI x1.2.Span_To] 36, cells b8 [.slice none 0 0] 48]) (zak [0, 1, 2, 3, 4, 5, 6] kr rfl) ?_
       refine zaN (k := 2) (l' := [hd6.v]) zo1 rfl rfl rfl rfl rfl (fun _ _ => rfl) rfl ?_
       show TO _ _ _ _ _ _ _ _ _ _ [cells b2 [zI from1] 3, cells b3 [zI to1] 3, cells b4 [hd6.v] 54, zb2 zat zau 48 1 hd6.v (out4 ++ [([] : List ByteArray)]), cells b5 [zI stanza3] 3, cells jb1 [.string x1.2.Text, zI x1.2.Indent, zI x1.2.Stanza, zI x1.2.In, zI x1.2.Span_From, zI x1.2.Span_To] 36, cells b8 [.slice none 0 0] 48]
       refine zan (zaf (zad (zam zhO rfl dc rfl (show _ = 2 from rfl) (zaP (k := 5) zcx rfl dc rfl rfl rfl ?_))))
       refine zaN (k := 4) (l' := [zI x1.2.Stanza]) zdW rfl rfl rfl rfl rfl (fun _ _ => rfl) rfl ?_
       refine zan ?_
       exact za3 (out4 ++ [([] : List ByteArray)], x1.2.Stanza, hd6) h rfl (zah rfl (zah rfl (zah rfl (zah rfl (zah rfl (zah rfl (zah rfl (zaQ)))))))) (zak [0, 1, 2, 3, 4, 5] kr rfl)
      ·
       have h := za7 hb3 h
       refine zaI ?_
       exact za3 (out4, stanza3, hd4) h rfl (zah rfl (zah rfl (zah rfl (zah rfl (zah rfl (zah rfl (zah rfl (zaQ)))))))) (zak [0, 1, 2, 3, 4, 5] kr rfl)
     ·
      rintro ⟨out5, stanza4, hd5⟩ h
      rw [hj2] at h
      show TC _ _ _ _ _ ([]) _ _ [(4, zP b2), (5, zP b3), (6, .slice none 0 0), (7, zP b4), (8, zP b5), (10, zP jb1), (13, .func (.func 52) #[] #[zP b6])] [cells b2 [zI from1] 3, cells b3 [zI to1] 3, cells b4 [hd5.v] 54, zb2 zat zau 48 1 hd5.v out5, cells b5 [zI stanza4] 3, cells jb1 [.string x1.2.Text, zI x1.2.Indent, zI x1.2.Stanza, zI x1.2.In, zI x1.2.Span_From, zI x1.2.Span_To] 36]
      refine zap (zad (zaP (k := 2) zll rfl dc rfl rfl rfl (zk0 (k := 3) rfl dc rfl rfl Tryd.underlying54 ?_)))
      obtain ⟨hg2, h⟩ := zcX h
      refine zaz rfl dc rfl rfl (zcE (r := (out5.length : Int) - 1) (IntWalk.i64_in _ hg2)) (zai rfl dc rfl (zan (zaf ?_)))
      refine zfZ (k := 3) rfl zme (fun zs2 hz2 => ?_)
      show TC _ _ _ _ _ _ _ _ _ [cells b2 [zI from1] 3, cells b3 [zI to1] 3, cells b4 [hd5.v] 54, vec zat 48 1 hd5.v zs2, cells b5 [zI stanza4] 3, cells jb1 [.string x1.2.Text, zI x1.2.Indent, zI x1.2.Stanza, zI x1.2.In, zI x1.2.Span_From, zI x1.2.Span_To] 36, own zau zs2]
      obtain ⟨x2, hq3, h⟩ := zbT h
      obtain ⟨eh1, eq1⟩ := zij hz2 hq3
      obtain ⟨hg3, h⟩ := zcX h
      obtain ⟨hg4, h⟩ := zcX h
      obtain ⟨hg5, h⟩ := zcX h
      refine zfZ (k := 6) rfl (zoi (zdv eq1)) (fun _ _ => ?_)
      show TC _ _ _ _ _ _ _ _ _ [cells b2 [zI from1] 3, cells b3 [zI to1] 3, cells b4 [hd5.v] 54, vec zat 48 1 hd5.v zs2, cells b5 [zI stanza4] 3, cells jb1 [.string x1.2.Text, zI x1.2.Indent, zI x1.2.Stanza, zI x1.2.In, zI x1.2.Span_From, zI x1.2.Span_To] 36, own zau (zs2.eraseIdx (((out5.length : Int) - 1 : Int).toNat)), vec zfL 9 1 eh1.v x2]
      refine zhU 1 ?_
      show TC _ _ _ _ _ _ _ _ _ [cells b2 [zI from1] 3, cells b3 [zI to1] 3, cells b4 [hd5.v] 54, vec zat 48 1 hd5.v zs2, cells b5 [zI stanza4] 3, cells jb1 [.string x1.2.Text, zI x1.2.Indent, zI x1.2.Stanza, zI x1.2.In, zI x1.2.Span_From, zI x1.2.Span_To] 36, own zau (zs2.eraseIdx (((out5.length : Int) - 1 : Int).toNat)), vec zfL 9 1 eh1.v x2, emp]
      refine let vals1 : (Nat × Hd) → List (Nat × Nat × Value) := fun b => [(0, 36, hd5.v), (1, 37, zI ((out5.length : Int) - 1)), (2, 38, hd5.v), (3, 39, zI ((out5.length : Int) - 1)), (4, 40, .pointer (some ⟨zfT hd5.v, ((out5.length : Int) - 1 : Int).toNat * 1, none⟩)), (5, 41, eh1.v), (6, 42, .pointer (some ⟨jb1, 1, none⟩)), (7, 43, zI x1.2.Indent), (8, 44, .string (zca x1.2.Indent)), (9, 45, zP jb1), (10, 46, .string x1.2.Text), (11, 47, .string ((zca x1.2.Indent) ++ x1.2.Text)), (12, 48, .slice (some ⟨b.1, 0, none⟩) 1 1), (13, 49, b.2.v)]; let LL1 : (Nat → Prop) → (Nat × Hd) → List Asn := fun D b => [cells b2 [zI from1] 3, cells b3 [zI to1] 3, cells b4 [hd5.v] 54, vec zat 48 1 hd5.v zs2, cells b5 [zI stanza4] 3, cells jb1 [.string x1.2.Text, zI x1.2.Indent, zI x1.2.Stanza, zI x1.2.In, zI x1.2.Span_From, zI x1.2.Span_To] 36, own zau (zs2.eraseIdx (((out5.length : Int) - 1 : Int).toNat)), eD D (vec zfL 9 1 eh1.v x2) [(13, vec zfL 9 1 b.2.v (x2 ++ [(zca x1.2.Indent) ++ x1.2.Text]))], eD D emp [(12, cells b.1 [.string ((zca x1.2.Indent) ++ x1.2.Text)] 9)]]; ?_
      refine zfj (β := Nat × Hd) 14 ((0 : Nat), Hd.nil) vals1 LL1 mixed kr kr dc (fun _ => rfl) (zaa rfl (zaa rfl (zaa rfl (zaa rfl (zaa rfl (zaa rfl (zaa rfl (zaa zdN (zaa zdN rfl))))))))) (zaK ?_ (zaK ?_ (zaK ?_ (zaK ?_ (zaK ?_ (zaK ?_ (zaK ?_ (zaK ?_ (zaK ?_ (zaK ?_ (zaK ?_ (zaK ?_ (zaK ?_ (zaK ?_ DrawG.nil)))))))))))))) ?_
      ·
       intro D b hn hd hcl
       obtain ⟨b9, hd7⟩ := b
       refine zaX rfl (zaP (k := 2) zll rfl dc (zaS (by rfl) rfl) rfl rfl ?_)
       exact zaZ (b9, hd7) 0 (by rfl) (by rfl) rfl (congrArg (dl D) rfl) (zaa rfl (zaa rfl (zaa rfl (zaa rfl (zaa rfl (zaa rfl (zaa rfl (zaa ((zaJ (by rfl)).trans rfl) (zaa ((zaJ (by rfl)).trans rfl) rfl)))))))))
      ·
       intro D b hn hd hcl
       obtain ⟨b9, hd7⟩ := b
       refine zaX rfl (zag rfl dc (zaS (by rfl) rfl) ?_)
       exact zaZ (b9, hd7) 1 (by rfl) (by rfl) rfl (congrArg (dl D) rfl) (zaa rfl (zaa rfl (zaa rfl (zaa rfl (zaa rfl (zaa rfl (zaa rfl (zaa ((zaJ (by rfl)).trans rfl) (zaa ((zaJ (by rfl)).trans rfl) rfl)))))))))
      ·
       intro D b hn hd hcl
       obtain ⟨b9, hd7⟩ := b
       refine zaX (zaa rfl (zaa rfl (zaa rfl (zaa rfl (zaa rfl (zaa rfl (zaa rfl (zaa (zaB (fun hD => hn (hcl 4 _ rfl (hcl 5 _ rfl (hcl 13 _ rfl hD 5 dc) 4 dc) 2 dc)) zaG) rfl)))))))) ?_
       refine zaP (k := 2) zll rfl dc (zaS (by rfl) rfl) rfl rfl ?_
       exact zaZ (b9, hd7) 2 (by rfl) (by rfl) rfl (congrArg (dl D) rfl) (zaa rfl (zaa rfl (zaa rfl (zaa rfl (zaa rfl (zaa rfl (zaa rfl (zaa ((zaJ (by rfl)).trans (zaB (fun hD => hn (hcl 4 _ rfl (hcl 5 _ rfl (hcl 13 _ rfl hD 5 dc) 4 dc) 2 dc)) zaG)) (zaa ((zaJ (by rfl)).trans rfl) rfl)))))))))
      ·
       intro D b hn hd hcl
       obtain ⟨b9, hd7⟩ := b
       refine zaX (zaa rfl (zaa rfl (zaa rfl (zaa rfl (zaa rfl (zaa rfl (zaa rfl (zaa (zaB (fun hD => hn (hcl 4 _ rfl (hcl 5 _ rfl (hcl 13 _ rfl hD 5 dc) 4 dc) 3 dc)) zaG) rfl)))))))) ?_
       refine zag rfl dc (zaS (by rfl) rfl) ?_
       exact zaZ (b9, hd7) 3 (by rfl) (by rfl) rfl (congrArg (dl D) rfl) (zaa rfl (zaa rfl (zaa rfl (zaa rfl (zaa rfl (zaa rfl (zaa rfl (zaa ((zaJ (by rfl)).trans (zaB (fun hD => hn (hcl 4 _ rfl (hcl 5 _ rfl (hcl 13 _ rfl hD 5 dc) 4 dc) 3 dc)) zaG)) (zaa ((zaJ (by rfl)).trans rfl) rfl)))))))))
      ·
       intro D b hn hd hcl
       obtain ⟨b9, hd7⟩ := b
       refine zaX (zaa rfl (zaa rfl (zaa rfl (zaa rfl (zaa rfl (zaa rfl (zaa rfl (zaa (zaB (fun hD => hn (hcl 5 _ rfl (hcl 13 _ rfl hD 5 dc) 4 dc)) zaG) rfl)))))))) ?_
       refine zdS (k := 3) eq1 Tryd.underlying54 ziY rfl dc (zaj (m := 2) rfl rfl (hd 2 dc)) (zaj (m := 3) rfl rfl (hd 3 dc)) rfl rfl ?_
       exact zaZ (b9, hd7) 4 (by rfl) (by rfl) rfl (congrArg (dl D) rfl) (zaa rfl (zaa rfl (zaa rfl (zaa rfl (zaa rfl (zaa rfl (zaa rfl (zaa ((zaJ (by rfl)).trans (zaB (fun hD => hn (hcl 5 _ rfl (hcl 13 _ rfl hD 5 dc) 4 dc)) zaG)) (zaa ((zaJ (by rfl)).trans rfl) rfl)))))))))
      ·
       intro D b hn hd hcl
       obtain ⟨b9, hd7⟩ := b
       refine zaX (zaa rfl (zaa rfl (zaa rfl (zaa rfl (zaa rfl (zaa rfl (zaa rfl (zaa (zaB (fun hD => hn (hcl 13 _ rfl hD 5 dc)) zaG) rfl)))))))) ?_
       refine zgZ (i := ((out5.length : Int) - 1 : Int).toNat) (j := 0) (k := 3) (q := (x2, eh1)) zkG zbl rfl dc (zaj (m := 4) rfl rfl (hd 4 dc)) rfl (zdv eq1) rfl dc rfl ?_
       exact zaZ (b9, hd7) 5 (by rfl) (by rfl) rfl (congrArg (dl D) rfl) (zaa rfl (zaa rfl (zaa rfl (zaa rfl (zaa rfl (zaa rfl (zaa rfl (zaa ((zaJ (by rfl)).trans (zaB (fun hD => hn (hcl 13 _ rfl hD 5 dc)) zaG)) (zaa ((zaJ (by rfl)).trans rfl) rfl)))))))))
      ·
       intro D b hn hd hcl
       obtain ⟨b9, hd7⟩ := b
       refine zaX (zaa rfl (zaa rfl (zaa rfl (zaa rfl (zaa rfl (zaa rfl (zaa rfl (zaa (zaB (fun hD => hn (hcl 7 _ rfl (hcl 8 _ rfl (hcl 13 _ rfl hD 8 dc) 7 dc) 6 dc)) zaG) (zaa (zaB (fun hD => hn (hcl 7 _ rfl (hcl 8 _ rfl (hcl 11 _ rfl (hcl 12 _ rfl hD 11 dc) 8 dc) 7 dc) 6 dc)) zaG) rfl))))))))) ?_
       refine zam zjS rfl dc (zaS (by rfl) rfl) (show _ = 1 from rfl) ?_
       exact zaZ (b9, hd7) 6 (by rfl) (by rfl) rfl (congrArg (dl D) rfl) (zaa rfl (zaa rfl (zaa rfl (zaa rfl (zaa rfl (zaa rfl (zaa rfl (zaa ((zaJ (by rfl)).trans (zaB (fun hD => hn (hcl 7 _ rfl (hcl 8 _ rfl (hcl 13 _ rfl hD 8 dc) 7 dc) 6 dc)) zaG)) (zaa ((zaJ (by rfl)).trans (zaB (fun hD => hn (hcl 7 _ rfl (hcl 8 _ rfl (hcl 11 _ rfl (hcl 12 _ rfl hD 11 dc) 8 dc) 7 dc) 6 dc)) zaG)) rfl)))))))))
      ·
       intro D b hn hd hcl
       obtain ⟨b9, hd7⟩ := b
       refine zaX (zaa rfl (zaa rfl (zaa rfl (zaa rfl (zaa rfl (zaa rfl (zaa rfl (zaa (zaB (fun hD => hn (hcl 8 _ rfl (hcl 13 _ rfl hD 8 dc) 7 dc)) zaG) (zaa (zaB (fun hD => hn (hcl 8 _ rfl (hcl 11 _ rfl (hcl 12 _ rfl hD 11 dc) 8 dc) 7 dc)) zaG) rfl))))))))) ?_
       refine zaP (k := 5) zcx rfl dc (zaj (m := 6) rfl rfl (hd 6 dc)) rfl rfl ?_
       exact zaZ (b9, hd7) 7 (by rfl) (by rfl) rfl (congrArg (dl D) rfl) (zaa rfl (zaa rfl (zaa rfl (zaa rfl (zaa rfl (zaa rfl (zaa rfl (zaa ((zaJ (by rfl)).trans (zaB (fun hD => hn (hcl 8 _ rfl (hcl 13 _ rfl hD 8 dc) 7 dc)) zaG)) (zaa ((zaJ (by rfl)).trans (zaB (fun hD => hn (hcl 8 _ rfl (hcl 11 _ rfl (hcl 12 _ rfl hD 11 dc) 8 dc) 7 dc)) zaG)) rfl)))))))))
      ·
       intro D b hn hd hcl
       obtain ⟨b9, hd7⟩ := b
       refine zaX (zaa rfl (zaa rfl (zaa rfl (zaa rfl (zaa rfl (zaa rfl (zaa rfl (zaa (zaB (fun hD => hn (hcl 13 _ rfl hD 8 dc)) zaG) (zaa (zaB (fun hD => hn (hcl 11 _ rfl (hcl 12 _ rfl hD 11 dc) 8 dc)) zaG) rfl))))))))) ?_
       refine za9 (v := .string (zca x1.2.Indent)) (vs := [.string (⟨#[32]⟩ : ByteArray), zI x1.2.Indent]) rfl dc rfl (evL.cons rfl (evL.cons (zaj (m := 7) rfl rfl (hd 7 dc)) evL.nil)) rfl zpt (zl6 x1.2.Indent hg3) ?_
       exact zaZ (b9, hd7) 8 (by rfl) (by rfl) rfl (congrArg (dl D) rfl) (zaa rfl (zaa rfl (zaa rfl (zaa rfl (zaa rfl (zaa rfl (zaa rfl (zaa ((zaJ (by rfl)).trans (zaB (fun hD => hn (hcl 13 _ rfl hD 8 dc)) zaG)) (zaa ((zaJ (by rfl)).trans (zaB (fun hD => hn (hcl 11 _ rfl (hcl 12 _ rfl hD 11 dc) 8 dc)) zaG)) rfl)))))))))
      ·
       intro D b hn hd hcl
       obtain ⟨b9, hd7⟩ := b
       refine zaX (zaa rfl (zaa rfl (zaa rfl (zaa rfl (zaa rfl (zaa rfl (zaa rfl (zaa (zaB (fun hD => hn (hcl 10 _ rfl (hcl 11 _ rfl (hcl 12 _ rfl (hcl 13 _ rfl hD 12 dc) 11 dc) 10 dc) 9 dc)) zaG) (zaa (zaB (fun hD => hn (hcl 10 _ rfl (hcl 11 _ rfl (hcl 12 _ rfl hD 11 dc) 10 dc) 9 dc)) zaG) rfl))))))))) ?_
       refine zam zhP rfl dc (zaS (by rfl) rfl) (show _ = 0 from rfl) ?_
       exact zaZ (b9, hd7) 9 (by rfl) (by rfl) rfl (congrArg (dl D) rfl) (zaa rfl (zaa rfl (zaa rfl (zaa rfl (zaa rfl (zaa rfl (zaa rfl (zaa ((zaJ (by rfl)).trans (zaB (fun hD => hn (hcl 10 _ rfl (hcl 11 _ rfl (hcl 12 _ rfl (hcl 13 _ rfl hD 12 dc) 11 dc) 10 dc) 9 dc)) zaG)) (zaa ((zaJ (by rfl)).trans (zaB (fun hD => hn (hcl 10 _ rfl (hcl 11 _ rfl (hcl 12 _ rfl hD 11 dc) 10 dc) 9 dc)) zaG)) rfl)))))))))
      ·
       intro D b hn hd hcl
       obtain ⟨b9, hd7⟩ := b
       refine zaX (zaa rfl (zaa rfl (zaa rfl (zaa rfl (zaa rfl (zaa rfl (zaa rfl (zaa (zaB (fun hD => hn (hcl 11 _ rfl (hcl 12 _ rfl (hcl 13 _ rfl hD 12 dc) 11 dc) 10 dc)) zaG) (zaa (zaB (fun hD => hn (hcl 11 _ rfl (hcl 12 _ rfl hD 11 dc) 10 dc)) zaG) rfl))))))))) ?_
       refine zaP (k := 5) zhz rfl dc (zaj (m := 9) rfl rfl (hd 9 dc)) rfl rfl ?_
       exact zaZ (b9, hd7) 10 (by rfl) (by rfl) rfl (congrArg (dl D) rfl) (zaa rfl (zaa rfl (zaa rfl (zaa rfl (zaa rfl (zaa rfl (zaa rfl (zaa ((zaJ (by rfl)).trans (zaB (fun hD => hn (hcl 11 _ rfl (hcl 12 _ rfl (hcl 13 _ rfl hD 12 dc) 11 dc) 10 dc)) zaG)) (zaa ((zaJ (by rfl)).trans (zaB (fun hD => hn (hcl 11 _ rfl (hcl 12 _ rfl hD 11 dc) 10 dc)) zaG)) rfl)))))))))
      ·
       intro D b hn hd hcl
       obtain ⟨b9, hd7⟩ := b
       refine zaX (zaa rfl (zaa rfl (zaa rfl (zaa rfl (zaa rfl (zaa rfl (zaa rfl (zaa (zaB (fun hD => hn (hcl 12 _ rfl (hcl 13 _ rfl hD 12 dc) 11 dc)) zaG) (zaa (zaB (fun hD => hn (hcl 12 _ rfl hD 11 dc)) zaG) rfl))))))))) ?_
       refine zaz rfl dc (zaj (m := 8) rfl rfl (hd 8 dc)) (zaj (m := 10) rfl rfl (hd 10 dc)) (zfX hg4) ?_
       exact zaZ (b9, hd7) 11 (by rfl) (by rfl) rfl (congrArg (dl D) rfl) (zaa rfl (zaa rfl (zaa rfl (zaa rfl (zaa rfl (zaa rfl (zaa rfl (zaa ((zaJ (by rfl)).trans (zaB (fun hD => hn (hcl 12 _ rfl (hcl 13 _ rfl hD 12 dc) 11 dc)) zaG)) (zaa ((zaJ (by rfl)).trans (zaB (fun hD => hn (hcl 12 _ rfl hD 11 dc)) zaG)) rfl)))))))))
      ·
       intro D b hn hd hcl
       obtain ⟨_, hd7⟩ := b
       refine zaX (zaa rfl (zaa rfl (zaa rfl (zaa rfl (zaa rfl (zaa rfl (zaa rfl (zaa (zaB (fun hD => hn (hcl 13 _ rfl hD 12 dc)) zaG) (zaa (zaB hn zaG) rfl))))))))) ?_
       refine zbC (cs := [.string ((zca x1.2.Indent) ++ x1.2.Text)]) (te := 9) (ps := [(0, .tmp 47)]) rfl dc (evP.cons (zaj (m := 11) rfl rfl (hd 11 dc)) evP.nil) (fun _ => by kernel_rfl) (fun b9 => ?_)
       refine zeP 8 rfl rfl ?_
       show TO _ _ _ _ _ _ _ _ _ _ [cells b2 [zI from1] 3, cells b3 [zI to1] 3, cells b4 [hd5.v] 54, vec zat 48 1 hd5.v zs2, cells b5 [zI stanza4] 3, cells jb1 [.string x1.2.Text, zI x1.2.Indent, zI x1.2.Stanza, zI x1.2.In, zI x1.2.Span_From, zI x1.2.Span_To] 36, own zau (zs2.eraseIdx (((out5.length : Int) - 1 : Int).toNat)), vec zfL 9 1 eh1.v x2, cells b9 [.string ((zca x1.2.Indent) ++ x1.2.Text)] 9]
       exact zaZ (b9, hd7) 12 (by rfl) (by rfl) rfl (zax (fun _ => rfl) (zax (fun _ => rfl) (zax (fun _ => rfl) (zax (fun _ => rfl) (zax (fun _ => rfl) (zax (fun _ => rfl) (zax (fun _ => rfl) (zax (fun _ => rfl) (zax (fun _ => rfl) (zax (fun _ => rfl) (zax (fun _ => rfl) (zax (fun _ => rfl) (zax (fun hD => absurd hD hn) (zax (fun _ => rfl) rfl)))))))))))))) (zaa rfl (zaa rfl (zaa rfl (zaa rfl (zaa rfl (zaa rfl (zaa rfl (zaa ((zaJ (by rfl)).trans (zaB (fun hD => hn (hcl 13 _ rfl hD 12 dc)) zaG)) (zaa (zbz (Or.inr rfl) rfl) rfl)))))))))
      ·
       intro D b hn hd hcl
       obtain ⟨b9, _⟩ := b
       refine zaX (zaa rfl (zaa rfl (zaa rfl (zaa rfl (zaa rfl (zaa rfl (zaa rfl (zaa (zaB hn zaG) (zaa (zbz (hd 12 dc) rfl) rfl))))))))) ?_
       refine zcS (k := 7) (k2 := 8) (ys := [(zca x1.2.Indent) ++ x1.2.Text]) Tryd.underlying48 zpQ zfV zmm rfl dc (zaj (m := 5) rfl rfl (hd 5 dc)) (zaj (m := 12) rfl rfl (hd 12 dc)) rfl rfl rfl rfl hg5 (fun v2 => ?_)
       refine zef (k := 7) rfl (fun hd7 he2 => ?_)
       subst he2
       exact zaZ (b9, hd7) 13 (by rfl) (by rfl) rfl (zax (fun _ => rfl) (zax (fun _ => rfl) (zax (fun _ => rfl) (zax (fun _ => rfl) (zax (fun _ => rfl) (zax (fun _ => rfl) (zax (fun _ => rfl) (zax (fun _ => rfl) (zax (fun _ => rfl) (zax (fun _ => rfl) (zax (fun _ => rfl) (zax (fun _ => rfl) (zax (fun _ => rfl) (zax (fun hD => absurd hD hn) rfl)))))))))))))) (zaa rfl (zaa rfl (zaa rfl (zaa rfl (zaa rfl (zaa rfl (zaa rfl (zaa (zbz (Or.inr rfl) rfl) (zaa ((zaJ (by rfl)).trans (zbz (hd 12 dc) rfl)) rfl)))))))))
      intro D b hall
      obtain ⟨b9, hd7⟩ := b
      refine zaX (zaa rfl (zaa rfl (zaa rfl (zaa rfl (zaa rfl (zaa rfl (zaa rfl (zaa (zbz (hall 13 dc) rfl) (zaa (zbz (hall 12 dc) rfl) rfl))))))))) (zdS (k := 3) eq1 Tryd.underlying54 ziY rfl dc rfl rfl rfl rfl ?_)
      refine zge (i := ((out5.length : Int) - 1 : Int).toNat) (j := 0) (k := 3) (q := (x2, eh1)) (q' := (x2 ++ [(zca x1.2.Indent) ++ x1.2.Text], hd7)) ziY zbl rfl rfl rfl rfl (zdv eq1) rfl dc rfl (fun _ _ => rfl) ?_
      show TO _ _ _ _ _ _ _ _ _ _ [cells b2 [zI from1] 3, cells b3 [zI to1] 3, cells b4 [hd5.v] 54, vec zat 48 1 hd5.v (zs2.set (((out5.length : Int) - 1 : Int).toNat) (x2 ++ [(zca x1.2.Indent) ++ x1.2.Text], hd7)), cells b5 [zI stanza4] 3, cells jb1 [.string x1.2.Text, zI x1.2.Indent, zI x1.2.Stanza, zI x1.2.In, zI x1.2.Span_From, zI x1.2.Span_To] 36, own zau (zs2.eraseIdx (((out5.length : Int) - 1 : Int).toNat)), vec zfL 9 1 hd7.v (x2 ++ [(zca x1.2.Indent) ++ x1.2.Text]), cells b9 [.string ((zca x1.2.Indent) ++ x1.2.Text)] 9]
      refine zeQ (k := 6) rfl (zak [7] kr rfl) rfl (zoh (nest := zau) (zs := zs2) (z := (x2 ++ [(zca x1.2.Indent) ++ x1.2.Text], hd7)) (zlh (zdv eq1)) zi2) ?_
      show TO _ _ _ _ _ _ _ _ _ _ [cells b2 [zI from1] 3, cells b3 [zI to1] 3, cells b4 [hd5.v] 54, vec zat 48 1 hd5.v (zs2.set (((out5.length : Int) - 1 : Int).toNat) (x2 ++ [(zca x1.2.Indent) ++ x1.2.Text], hd7)), cells b5 [zI stanza4] 3, cells jb1 [.string x1.2.Text, zI x1.2.Indent, zI x1.2.Stanza, zI x1.2.In, zI x1.2.Span_From, zI x1.2.Span_To] 36, own zau (zs2.set (((out5.length : Int) - 1 : Int).toNat) (x2 ++ [(zca x1.2.Indent) ++ x1.2.Text], hd7)), emp, cells b9 [.string ((zca x1.2.Indent) ++ x1.2.Text)] 9]
      refine zan (zaw (zmz (k := 3) rfl (zak [6] kr rfl) rfl (zkv (enc := zat) (nest := zau) (zpD hz2)) ?_))
      show TX _ _ _ _ _ _ _ [cells b2 [zI from1] 3, cells b3 [zI to1] 3, cells b4 [hd5.v] 54, zb2 zat zau 48 1 hd5.v (out5.set ((out5.length : Int) - 1 : Int).toNat (x2 ++ [(zca x1.2.Indent) ++ x1.2.Text])), cells b5 [zI stanza4] 3, cells jb1 [.string x1.2.Text, zI x1.2.Indent, zI x1.2.Stanza, zI x1.2.In, zI x1.2.Span_From, zI x1.2.Span_To] 36, emp, emp, cells b9 [.string ((zca x1.2.Indent) ++ x1.2.Text)] 9]
      exact zcD (out5.set ((out5.length : Int) - 1 : Int).toNat (x2 ++ [(zca x1.2.Indent) ++ x1.2.Text]), stanza4, hd5) (fun post2 e2 => by have e9 := zeu hxs1 e2; subst e9; subst hag1; exact h) (zak [0, 1, 2, 3, 4] kr rfl)
  ·
   rintro dm1 ⟨out4, stanza3, hd4⟩ hinv
   have h : d1 out4 stanza3 = some r := hinv [] (List.append_nil _).symm
   rw [hd1] at h
   show TX _ _ _ _ _ _ _ [zbU ((([] : List Nat) : List Nat).map zbJ), emp, emp, emp, emp, cells b6 [zP bp1] 23, emp, cells b2 [zI from1] 3, cells b3 [zI to1] 3, cells b4 [hd4.v] 54, zb2 zat zau 48 1 hd4.v out4, cells b5 [zI stanza3] 3, zbJ dm1]
   refine zeB (k := 12) (j := 0) rfl rfl dc ?_
   show TX _ _ _ _ _ _ _ [zbU ((dm1 :: ([] : List Nat) : List Nat).map zbJ), emp, emp, emp, emp, cells b6 [zP bp1] 23, emp, cells b2 [zI from1] 3, cells b3 [zI to1] 3, cells b4 [hd4.v] 54, zb2 zat zau 48 1 hd4.v out4, cells b5 [zI stanza3] 3, emp]
   refine zaw ?_
   exact za3 (out4, b4, hd4, dm1 :: ([] : List Nat)) h rfl (zah rfl (zaQ)) (zak [9, 10, 0] kr rfl)
  ·
   rintro dm1 c pre x1 post g hxs hX
   exact (show False from hX).elim
 ·
  rintro ⟨out1, b1, hd1, ds1⟩ h
  rw [hj1] at h
  show TC _ _ _ _ _ (zdq ds1) _ _ [(7, zP b1)] [cells b1 [hd1.v] 54, zb2 zat zau 48 1 hd1.v out1, zbU ((ds1 : List Nat).map zbJ)]
  refine zap (zad (zaP (k := 0) zll rfl dc rfl rfl rfl (zai rfl dc rfl (zan (zaf (zaE ?_))))))
  cases h
  exact zbm (rs := [.tmp 6]) ds1 hd1.v (.inl rfl) (zaU (k := 2) rfl) Tryd.results61 (.cons (.tmp rfl) .nil) rfl (zak [1] kr rfl)
def zd8 (stanzas1 : List (List ByteArray)) (j1 : Int → Option ((Option Gpoem_Poem) × Int)) (ag1 : Int → Int → Option ((Option Gpoem_Poem) × Int)) (n4 : Int) (x3 : Int) : Option ((Option Gpoem_Poem) × Int) :=
za1 (decide ((x3 : Int) < (stanzas1.length : Int))) (
zaO (zfH stanzas1 x3) fun (x4 : List ByteArray) =>
grd (I64 (n4 + (x4.length : Int))) <|
grd (I64 (x3 + 1)) <|
ag1 (n4 + (x4.length : Int)) (x3 + 1)
) (
j1 n4
)
def zew (title1 : ByteArray) (stanzas1 : List (List ByteArray)) : Option ((Option Gpoem_Poem) × Int) :=
zcj (fun (j1 : Int → Option ((Option Gpoem_Poem) × Int)) =>
zbK (fun _ _ => none) (zd8 stanzas1 j1) zdX 0 0
) (fun (n1 : Int) =>
zaO (zc7 title1 stanzas1) fun (r1 : ByteArray) =>
za1 (decide ((512 : Int) < n1)) (
some (none, 3)
) (
za1 (decide ((65536 : Int) < (r1.size : Int))) (
some (none, 3)
) (
zaO (zd1 r1) fun (r2 : ((Option Gpoem_Poem) × Gapi_Spot)) =>
some (r2.1, 0)
)
)
)
theorem zfA {title1 : ByteArray} {vvstanzas1 : Value} {vstanzas1 : Hd} {Zstanzas1 : List ((List ByteArray) × Hd)} {kstanzas1 : Nat} {zstanzas1 : List ((List ByteArray) × Hd)} {stanzas1 : List (List ByteArray)} (hwstanzas1 : Vw vvstanzas1 Zstanzas1 1 kstanzas1 vstanzas1.v zstanzas1) (hzstanzas1 : zstanzas1.map Prod.fst = stanzas1) {r : ((Option Gpoem_Poem) × Int)} (h : zew title1 stanzas1 = some r) : FnR Tryd.prog 62 [.string title1, vstanzas1.v] [zeG zat 1 vvstanzas1 kstanzas1 Zstanzas1, zf5 zbx Zstanzas1] [] (fun v0 : Value => .tuple #[v0, zI r.2]) (fun v0 => [za5 zac zab 93 v0 r.1]) := by
 unfold zew at h
 refine FnR.intro Tryd.func62 rfl Tryd.ntmps62 (by simp) ?_
 intro w0 K hrd
 obtain ⟨j1, hj1, h⟩ := zcH h
 refine zbN (β := Int) 2 rfl (fun b => j1 b = some r) (fun b => []) (fun b => [(0, .string title1), (1, vstanzas1.v), (6, zI b)]) (fun b => []) (fun cut => ?_) ?_
 ·
  refine zap (zad (zai rfl dc rfl (zai rfl dc rfl (zan (zaf (zap (zad (zai rfl dc rfl (zan (zaf (cut (zap (zad ?_)))))))))))))
  refine zag rfl dc rfl (zgC hzstanzas1 hwstanzas1 rfl dc rfl Tryd.underlying54 (zag rfl dc rfl (zan (zaf (zaT ?_)))))
  refine zct (β := Nat × Int × Int) (fun b => zbK (fun _ _ => none) (zd8 stanzas1 j1) b.1 b.2.1 b.2.2 = some r) (fun b => []) (fun b => [(0, .string title1), (1, vstanzas1.v), (6, zI b.2.1), (12, vstanzas1.v), (13, zI (stanzas1.length : Int)), (14, zI b.2.2)]) (fun b => []) (fun b => b.1) (zdX, 0, 0) h rfl (zah rfl (zah rfl (zah rfl (zah rfl (zah rfl (zah rfl (zaQ))))))) Splits.nil ?_
  rintro ⟨n5, n4, x3⟩ h
  cases n5 with
  | zero => exact zeH h
  | succ n5 =>
   obtain ⟨ag1, hag1⟩ : ∃ ag, ag = zbK (fun _ _ => none) (zd8 stanzas1 j1) n5 := ⟨_, rfl⟩
   have h : zd8 stanzas1 j1 ag1 n4 x3 = some r := by rw [hag1]; exact h
   unfold zd8 at h
   show TC _ _ _ _ _ ([]) _ _ [(0, .string title1), (1, vstanzas1.v), (6, zI n4), (12, vstanzas1.v), (13, zI (stanzas1.length : Int)), (14, zI x3)] []
   refine zap (zad (zaz rfl dc rfl rfl zcb (zan (zaf (zap ?_)))))
   refine zaF rfl (fun hb1 => ?_) (fun hb1 => ?_)
   ·
    have h := za6 hb1 h
    refine zaI (zaf (zap (zaT (zap (zad ?_)))))
    obtain ⟨x4, hq1, h⟩ := zbT h
    obtain ⟨eh1, eq1⟩ := zij hzstanzas1 hq1
    have hrd : Rd _ _ [zeG zat 1 vvstanzas1 kstanzas1 Zstanzas1, zf5 zbx Zstanzas1, zlq zfL 1 eh1 x4] := hrd.openEl (i := 1) (z := (x4, eh1)) rfl (Vw.get hwstanzas1 eq1)
    obtain ⟨vv1, k1, L1, hV1, hrd⟩ := hrd.openSl (i := 2) rfl
    replace hrd : Rd _ _ [zeG zat 1 vvstanzas1 kstanzas1 Zstanzas1, zf5 zbx Zstanzas1, zlq zfL 1 eh1 x4, zeG zfL 1 vv1 k1 L1] := hrd
    refine zb0 hwstanzas1 eq1 Tryd.underlying54 ziY rfl dc rfl rfl rfl (zds (n := kstanzas1 + (x3 : Int).toNat) (j := 0) (i := 0) (q := (x4, eh1)) hrd rfl (by omega) zkG rfl dc rfl (Vw.get hwstanzas1 eq1) rfl rfl (zai rfl dc rfl (zan (zaf (zad (zag rfl dc rfl (zag rfl dc rfl (zck hV1 rfl dc rfl Tryd.underlying48 ?_))))))))
    obtain ⟨hg1, h⟩ := zcX h
    refine zaz rfl dc rfl rfl (zbs (r := n4 + (x4.length : Int)) (IntWalk.i64_in _ hg1)) (zai rfl dc rfl (zan (zaw (zaf (zad ?_)))))
    obtain ⟨hg2, h⟩ := zcX h
    refine zaz rfl dc rfl rfl (zbs (r := x3 + 1) (IntWalk.i64_in _ hg2)) (zag rfl dc rfl (zan ?_))
    subst hag1
    exact zbq (n5, n4 + (x4.length : Int), x3 + 1) h (Nat.lt_succ_self _) rfl (zah rfl (zah rfl (zah rfl (zah rfl (zah rfl (zah rfl (zaQ))))))) Splits.nil
   ·
    have h := za7 hb1 h
    refine zbA (zaR (zaR (za2 ?_)))
    exact za3 n4 h rfl (zah rfl (zah rfl (zah rfl (zaQ)))) Splits.nil
 ·
  rintro n1 h
  rw [hj1] at h
  show TC _ _ _ _ _ ([]) _ _ [(0, .string title1), (1, vstanzas1.v), (6, zI n1)] []
  refine zap (zad (zag rfl dc rfl (zag rfl dc rfl ?_)))
  obtain ⟨r1, hq2, h⟩ := zbT h
  refine zbB (v := .string r1) (vs := [.string title1, vstanzas1.v]) hrd rfl dc rfl rfl rfl zos (zfz (vstanzas1 := vstanzas1) hwstanzas1 hzstanzas1 hq2) (.ro 0 rfl (.ro 1 rfl .nil)) (zai rfl dc rfl (zan (zaf (zap (zap (zad (zag rfl dc rfl (zaz rfl dc rfl rfl zcO (zag rfl dc rfl ?_)))))))))
  refine zaV (s := 28) rfl (fun hb2 => ?_) (fun hb2 => ?_)
  ·
   have h := za6 hb2 h
   refine zae rfl dc (zae rfl dc (zae rfl dc (zas (b := true) rfl dc rfl rfl (zan (zaf (zaY rfl (zap (zad (zai rfl dc rfl (zai rfl dc rfl (zan (zaf (zaE ?_)))))))))))))
   refine zav (zbL zac zab 93 ?_)
   show TX _ _ _ _ _ _ _ [za5 zac zab 93 (.pointer none) none]
   cases h
   exact zaM (rs := [.tmp 4, .tmp 5]) (.pointer none) (.inl rfl) Tryd.results62 (.cons (.tmp rfl) (.cons (.tmp rfl) .nil)) rfl (zak [0] kr rfl)
  ·
   have h := za7 hb2 h
   refine zag rfl dc rfl (zbt rfl dc rfl Tryd.underlying9 (zaz rfl dc rfl rfl zcO (zas (b := false) rfl dc rfl rfl (zan (zaf ?_)))))
   refine zaF rfl (fun hb3 => ?_) (fun hb3 => ?_)
   ·
    have h := za6 hb3 h
    refine zap (zad (zai rfl dc rfl (zai rfl dc rfl (zan (zaf (zaE (zav (zbL zac zab 93 ?_))))))))
    show TX _ _ _ _ _ _ _ [za5 zac zab 93 (.pointer none) none]
    cases h
    exact zaM (rs := [.tmp 4, .tmp 5]) (.pointer none) (.inl rfl) Tryd.results62 (.cons (.tmp rfl) (.cons (.tmp rfl) .nil)) rfl (zak [0] kr rfl)
   ·
    have h := za7 hb3 h
    refine zaI (zaf (zap (zad (zag rfl dc rfl ?_))))
    obtain ⟨r2, hq3, h⟩ := zbT h
    refine zcr (vs := [.string r1]) rfl dc rfl rfl rfl zms (zeI hq3) Splits.nil ?_
    rintro v1
    show TO _ _ _ _ _ _ _ _ _ _ [za5 zac zab 93 v1 r2.1]
    refine zbf (L' := [za5 zac zab 93 v1 r2.1]) (zak [0] kr rfl) (zag rfl dc rfl (zaL rfl dc rfl rfl (zaL rfl dc rfl rfl ?_)))
    refine zbe zk6 rfl dc (fun b1 => ?_)
    refine zai rfl dc rfl (za8 (k := 1) (vs := [zI r2.2.Err, zI r2.2.At]) (l' := [zI r2.2.Err, zI r2.2.At]) ziy rfl rfl rfl rfl rfl (show _ ≤ _ by simp) rfl rfl ?_)
    show TO _ _ _ _ _ _ _ _ _ _ [za5 zac zab 93 v1 r2.1, cells b1 [zI r2.2.Err, zI r2.2.At] 26]
    refine zan (zaf (zap (zad (zag rfl dc rfl (zai rfl dc rfl (zai rfl dc rfl (zan (zaf (zaE ?_)))))))))
    cases h
    exact zaM (rs := [.tmp 4, .tmp 5]) v1 (.inl rfl) Tryd.results62 (.cons (.tmp rfl) (.cons (.tmp rfl) .nil)) rfl (zak [0] kr rfl)
def zec (j2 : Option ((Option Gpoem_Poem) × Int)) (x4 : List ByteArray) (ag2 : Int → Option ((Option Gpoem_Poem) × Int)) (x7 : Int) : Option ((Option Gpoem_Poem) × Int) :=
za1 (decide ((x7 : Int) < (x4.length : Int))) (
zaO (zfH x4 x7) fun (q1 : ByteArray) =>
za1 (!(zmR q1 1024)) (
some (none, 170)
) (
zaO (zd9 q1) fun (r1 : Bool) =>
za1 (r1) (
some (none, 170)
) (
grd (I64 (x7 + 1)) <|
ag2 (x7 + 1)
)
)
) (
j2
)
def zed (stanzas1 : List (List ByteArray)) (j1 : Option ((Option Gpoem_Poem) × Int)) (ag1 : Int → Option ((Option Gpoem_Poem) × Int)) (x3 : Int) : Option ((Option Gpoem_Poem) × Int) :=
za1 (decide ((x3 : Int) < (stanzas1.length : Int))) (
zcj (fun (j2 : Option ((Option Gpoem_Poem) × Int)) =>
zaO (zfH stanzas1 x3) fun (x4 : List ByteArray) =>
za1 (((x4.length : Int) : Int) == 0) (
some (none, 170)
) (
zbK (fun _ => none) (zec j2 x4) zdX 0
)
) (
grd (I64 (x3 + 1)) <|
ag1 (x3 + 1)
)
) (
j1
)
def zey (title1 : ByteArray) (stanzas1 : List (List ByteArray)) : Option ((Option Gpoem_Poem) × Int) :=
za1 (!(zmR title1 1022)) (
some (none, 170)
) (
zcj (fun (j1 : Option ((Option Gpoem_Poem) × Int)) =>
zbK (fun _ => none) (zed stanzas1 j1) zdX 0
) (
zaO (zew title1 stanzas1) fun (r2 : ((Option Gpoem_Poem) × Int)) =>
some (r2.1, r2.2)
)
)
theorem zfF {title1 : ByteArray} {vvstanzas1 : Value} {vstanzas1 : Hd} {Zstanzas1 : List ((List ByteArray) × Hd)} {kstanzas1 : Nat} {zstanzas1 : List ((List ByteArray) × Hd)} {stanzas1 : List (List ByteArray)} (hwstanzas1 : Vw vvstanzas1 Zstanzas1 1 kstanzas1 vstanzas1.v zstanzas1) (hzstanzas1 : zstanzas1.map Prod.fst = stanzas1) {r : ((Option Gpoem_Poem) × Int)} (h : zey title1 stanzas1 = some r) : FnR Tryd.prog 40 [.string title1, vstanzas1.v] [zeG zat 1 vvstanzas1 kstanzas1 Zstanzas1, zf5 zbx Zstanzas1] [] (fun v0 : Value => .tuple #[v0, zI r.2]) (fun v0 => [za5 zac zab 93 v0 r.1]) := by
 unfold zey at h
 refine FnR.intro Tryd.func40 rfl Tryd.ntmps40 (by simp) ?_
 intro w0 K hrd
 refine zap (zad (zai rfl dc rfl (zai rfl dc rfl (zan (zaf (zap (zap (zad (zag rfl dc rfl (za9 (v := .bool (zmR title1 1022)) (vs := [.string title1, zI 1022]) rfl dc rfl rfl rfl znu (znb title1 1022 dc) (zdZ rfl dc rfl zcG (zan (zaf ?_)))))))))))))
 refine zaF rfl (fun hb1 => ?_) (fun hb1 => ?_)
 ·
  have h := za6 hb1 h
  refine zap (zad (zai rfl dc rfl (zai rfl dc rfl (zan (zaf (zaE (zav (zbL zac zab 93 ?_))))))))
  show TX _ _ _ _ _ _ _ [za5 zac zab 93 (.pointer none) none]
  cases h
  exact zaM (rs := [.tmp 4, .tmp 5]) (.pointer none) (.inl rfl) Tryd.results40 (.cons (.tmp rfl) (.cons (.tmp rfl) .nil)) rfl (zak [0] kr rfl)
 ·
  have h := za7 hb1 h
  refine zaI (zaf ?_)
  obtain ⟨j1, hj1, h⟩ := zcH h
  refine zbN (β := Unit) 0 rfl (fun b => j1 = some r) (fun b => []) (fun b => [(0, .string title1), (1, vstanzas1.v)]) (fun b => []) (fun cut => ?_) ?_
  ·
   refine cut (zap (zad (zag rfl dc rfl (zgC hzstanzas1 hwstanzas1 rfl dc rfl Tryd.underlying54 (zag rfl dc rfl (zan (zaf (zaT ?_))))))))
   refine zct (β := Nat × Int) (fun b => zbK (fun _ => none) (zed stanzas1 j1) b.1 b.2 = some r) (fun b => []) (fun b => [(0, .string title1), (1, vstanzas1.v), (13, vstanzas1.v), (14, zI (stanzas1.length : Int)), (15, zI b.2)]) (fun b => []) (fun b => b.1) (zdX, 0) h rfl (zah rfl (zah rfl (zah rfl (zah rfl (zah rfl (zaQ)))))) Splits.nil ?_
   rintro ⟨n1, x3⟩ h
   cases n1 with
   | zero => exact zeH h
   | succ n1 =>
    obtain ⟨ag1, hag1⟩ : ∃ ag, ag = zbK (fun _ => none) (zed stanzas1 j1) n1 := ⟨_, rfl⟩
    have h : zed stanzas1 j1 ag1 x3 = some r := by rw [hag1]; exact h
    unfold zed at h
    show TC _ _ _ _ _ ([]) _ _ [(0, .string title1), (1, vstanzas1.v), (13, vstanzas1.v), (14, zI (stanzas1.length : Int)), (15, zI x3)] []
    refine zap (zad (zaz rfl dc rfl rfl zcb (zan (zaf (zap ?_)))))
    refine zaF rfl (fun hb2 => ?_) (fun hb2 => ?_)
    ·
     have h := za6 hb2 h
     refine zaI (zaf ?_)
     obtain ⟨j2, hj2, h⟩ := zcH h
     refine zbN (β := Unit) 0 rfl (fun b => j2 = some r) (fun b => []) (fun b => [(0, .string title1), (1, vstanzas1.v), (13, vstanzas1.v), (14, zI (stanzas1.length : Int)), (15, zI x3)]) (fun b => []) (fun cut => ?_) ?_
     ·
      refine cut (zaT (zap (zad ?_)))
      obtain ⟨x4, hq1, h⟩ := zbT h
      obtain ⟨eh1, eq1⟩ := zij hzstanzas1 hq1
      have hrd : Rd _ _ [zeG zat 1 vvstanzas1 kstanzas1 Zstanzas1, zf5 zbx Zstanzas1, zlq zfL 1 eh1 x4] := hrd.openEl (i := 1) (z := (x4, eh1)) rfl (Vw.get hwstanzas1 eq1)
      obtain ⟨vv1, k1, L1, hV1, hrd⟩ := hrd.openSl (i := 2) rfl
      replace hrd : Rd _ _ [zeG zat 1 vvstanzas1 kstanzas1 Zstanzas1, zf5 zbx Zstanzas1, zlq zfL 1 eh1 x4, zeG zfL 1 vv1 k1 L1] := hrd
      refine zb0 hwstanzas1 eq1 Tryd.underlying54 ziY rfl dc rfl rfl rfl (zds (n := kstanzas1 + (x3 : Int).toNat) (j := 0) (i := 0) (q := (x4, eh1)) hrd rfl (by omega) zkG rfl dc rfl (Vw.get hwstanzas1 eq1) rfl rfl (zai rfl dc rfl (zan (zaf (zap (zap (zad (zag rfl dc rfl (zck hV1 rfl dc rfl Tryd.underlying48 (zaz rfl dc rfl rfl zaW (zan (zaf ?_))))))))))))
      refine zaF rfl (fun hb3 => ?_) (fun hb3 => ?_)
      ·
       have h := za6 hb3 h
       refine zap (zad (zai rfl dc rfl (zai rfl dc rfl (zan (zaf (zaE (zav (zay (zav (zav (zay (zav (zbL zac zab 93 ?_)))))))))))))
       show TX _ _ _ _ _ _ _ [za5 zac zab 93 (.pointer none) none]
       cases h
       exact zaM (rs := [.tmp 4, .tmp 5]) (.pointer none) (.inl rfl) Tryd.results40 (.cons (.tmp rfl) (.cons (.tmp rfl) .nil)) rfl (zak [0] kr rfl)
      ·
       have h := za7 hb3 h
       refine zaI (zaf (zap (zad (zag rfl dc rfl (zck hV1 rfl dc rfl Tryd.underlying48 (zag rfl dc rfl (zan (zaf (zaT ?_)))))))))
       refine zct (β := Nat × Int) (fun b => zbK (fun _ => none) (zec j2 x4) b.1 b.2 = some r) (fun b => []) (fun b => [(0, .string title1), (1, vstanzas1.v), (13, vstanzas1.v), (14, zI (stanzas1.length : Int)), (15, zI x3), (22, eh1.v), (23, zI (x4.length : Int)), (24, zI b.2)]) (fun b => []) (fun b => b.1) (zdX, 0) h rfl (zah rfl (zah rfl (zah rfl (zah rfl (zah rfl (zah rfl (zah rfl (zah rfl (zaQ))))))))) Splits.nil ?_
       rintro ⟨n2, x7⟩ h
       cases n2 with
       | zero => exact zeH h
       | succ n2 =>
        obtain ⟨ag2, hag2⟩ : ∃ ag, ag = zbK (fun _ => none) (zec j2 x4) n2 := ⟨_, rfl⟩
        have h : zec j2 x4 ag2 x7 = some r := by rw [hag2]; exact h
        unfold zec at h
        show TC _ _ _ _ _ ([]) _ _ [(0, .string title1), (1, vstanzas1.v), (13, vstanzas1.v), (14, zI (stanzas1.length : Int)), (15, zI x3), (22, eh1.v), (23, zI (x4.length : Int)), (24, zI x7)] []
        refine zap (zad (zaz rfl dc rfl rfl zcb (zan (zaf (zap ?_)))))
        refine zaF rfl (fun hb4 => ?_) (fun hb4 => ?_)
        ·
         have h := za6 hb4 h
         refine zaI (zaf (zap (zaT (zap (zad ?_)))))
         obtain ⟨q1, hq2, h⟩ := zbT h
         refine zb0 hV1 hq2 Tryd.underlying48 znW rfl dc rfl rfl rfl (zds (n := k1 + (x7 : Int).toNat) (j := 0) (i := 3) (q := q1) hrd rfl (by omega) zhz rfl dc rfl (Vw.get hV1 hq2) rfl rfl (zai rfl dc rfl (zan (zaf (zap (zad (zag rfl dc rfl (za9 (v := .bool (zmR q1 1024)) (vs := [.string q1, zI 1024]) rfl dc rfl rfl rfl znu (znb q1 1024 dc) (zdZ rfl dc rfl zcG (zag rfl dc rfl ?_))))))))))
         refine zaV (s := 31) rfl (fun hb5 => ?_) (fun hb5 => ?_)
         ·
          have h := za6 hb5 h
          refine zae rfl dc (zae rfl dc (zas (b := true) rfl dc rfl rfl (zan (zaf (zaY rfl (zap (zad (zai rfl dc rfl (zai rfl dc rfl (zan (zaf (zaE (zay ?_)))))))))))))
          refine zav (zav (zay (zay (zav (zav (zay (zav (zbL zac zab 93 ?_))))))))
          show TX _ _ _ _ _ _ _ [za5 zac zab 93 (.pointer none) none]
          cases h
          exact zaM (rs := [.tmp 4, .tmp 5]) (.pointer none) (.inl rfl) Tryd.results40 (.cons (.tmp rfl) (.cons (.tmp rfl) .nil)) rfl (zak [0] kr rfl)
         ·
          have h := za7 hb5 h
          refine zag rfl dc rfl ?_
          obtain ⟨r1, hq3, h⟩ := zbT h
          refine za9 (v := .bool r1) (vs := [.string q1]) rfl dc rfl rfl rfl znx (ze9 hq3) (zas (b := false) rfl dc rfl rfl (zan (zaf ?_)))
          refine zaF rfl (fun hb6 => ?_) (fun hb6 => ?_)
          ·
           have h := za6 hb6 h
           refine zap (zad (zai rfl dc rfl (zai rfl dc rfl (zan (zaf (zaE (zay (zav (zav (zay (zay (zav (zav ?_)))))))))))))
           refine zay (zav (zbL zac zab 93 ?_))
           show TX _ _ _ _ _ _ _ [za5 zac zab 93 (.pointer none) none]
           cases h
           exact zaM (rs := [.tmp 4, .tmp 5]) (.pointer none) (.inl rfl) Tryd.results40 (.cons (.tmp rfl) (.cons (.tmp rfl) .nil)) rfl (zak [0] kr rfl)
          ·
           have h := za7 hb6 h
           refine zaI (zaw (zaf (zad ?_)))
           obtain ⟨hg1, h⟩ := zcX h
           refine zaz rfl dc rfl rfl (zbs (r := x7 + 1) (IntWalk.i64_in _ hg1)) (zag rfl dc rfl (zan ?_))
           subst hag2
           exact zbq (n2, x7 + 1) h (Nat.lt_succ_self _) rfl (zah rfl (zah rfl (zah rfl (zah rfl (zah rfl (zah rfl (zah rfl (zah rfl (zaQ))))))))) Splits.nil
        ·
         have h := za7 hb4 h
         refine zbA (zaR (zaR (za2 (zaw ?_))))
         exact za3 () h rfl (zah rfl (zah rfl (zah rfl (zah rfl (zah rfl (zaQ)))))) Splits.nil
     ·
      rintro _ h
      rw [hj2] at h
      show TC _ _ _ _ _ ([]) _ _ [(0, .string title1), (1, vstanzas1.v), (13, vstanzas1.v), (14, zI (stanzas1.length : Int)), (15, zI x3)] []
      refine zad ?_
      obtain ⟨hg2, h⟩ := zcX h
      refine zaz rfl dc rfl rfl (zbs (r := x3 + 1) (IntWalk.i64_in _ hg2)) (zag rfl dc rfl (zan ?_))
      subst hag1
      exact zbq (n1, x3 + 1) h (Nat.lt_succ_self _) rfl (zah rfl (zah rfl (zah rfl (zah rfl (zah rfl (zaQ)))))) Splits.nil
    ·
     have h := za7 hb2 h
     refine zbA (zaR (zaR (za2 ?_)))
     exact za3 () h rfl (zah rfl (zah rfl (zaQ))) Splits.nil
  ·
   rintro _ h
   rw [hj1] at h
   show TC _ _ _ _ _ ([]) _ _ [(0, .string title1), (1, vstanzas1.v)] []
   refine zap (zad (zag rfl dc rfl (zag rfl dc rfl ?_)))
   obtain ⟨r2, hq4, h⟩ := zbT h
   refine zcl (vs := [.string title1, vstanzas1.v]) hrd rfl dc rfl rfl rfl znv (zfA (vstanzas1 := vstanzas1) hwstanzas1 hzstanzas1 hq4) Splits.nil (.ro 0 rfl (.ro 1 rfl .nil)) ?_
   rintro v1
   show TO _ _ _ _ _ _ _ _ _ _ [za5 zac zab 93 v1 r2.1]
   refine zbf (L' := [za5 zac zab 93 v1 r2.1]) (zak [0] kr rfl) (zaL rfl dc rfl rfl (zaL rfl dc rfl rfl (zai rfl dc rfl (zai rfl dc rfl (zan (zaf (zaE ?_)))))))
   cases h
   exact zaM (rs := [.tmp 4, .tmp 5]) v1 (.inl rfl) Tryd.results40 (.cons (.tmp rfl) (.cons (.tmp rfl) .nil)) rfl (zak [0] kr rfl)
def zbH (p1 : Gpoem_Poem) : Option ByteArray :=
zaO (zb9 p1 0 (p1.told_lines.length : Int)) fun (r1 : (List (List ByteArray))) =>
zaO (zc7 p1.told_title r1) fun (r2 : ByteArray) =>
some r2
theorem zcy {bp1 : Nat} {p1 : Gpoem_Poem} {p1_h0 p1_h1 : Hd} {r : ByteArray} (h : zbH p1 = some r) : FnR Tryd.prog 18 [zP bp1] [cells bp1 [.string p1.told_title, p1_h0.v, p1_h1.v, .string p1.source] 93, vec zal 36 6 p1_h0.v p1.told_lines, vec zaq 34 2 p1_h1.v p1.told_stanzas] [] (fun _ : Unit => (.string r)) (fun _ => []) := by
 unfold zbH at h
 refine FnR.intro Tryd.func18 rfl Tryd.ntmps18 (by simp) ?_
 intro w0 K hrd
 refine zap (zad (zai rfl dc rfl (zan (zaf (zap (zap (zad (zag rfl dc rfl (zaz rfl dc rfl rfl (zbh Tryd.underlying23) (zan (zaf (za0 rfl (zaI ?_)))))))))))))
 refine zaf (zap ?_)
 obtain ⟨r1, hq1, h⟩ := zbT h
 obtain ⟨r2, hq2, h⟩ := zbT h
 refine zen (β := Hd) 13 12 _ [(0, 5, zP bp1), (1, 6, zP bp1), (2, 7, zP bp1), (3, 8, zP bp1), (4, 9, .string p1.told_title), (5, 10, zP bp1), (6, 11, zP bp1), (7, 12, zP bp1), (8, 13, zP bp1), (9, 14, .pointer (some ⟨bp1, 1, none⟩)), (10, 15, p1_h0.v), (11, 16, zI (p1.told_lines.length : Int))] (fun hd1 => [(17, hd1.v)]) (fun hd1 => [zb2 zat zau 48 1 hd1.v r1]) mixed kr kr rfl dc dc (by rfl) kr kr (DrawPreX.cons ?_ (DrawPreX.cons ?_ (DrawPreX.cons ?_ (DrawPreX.cons ?_ (DrawPreX.cons ?_ (DrawPreX.cons ?_ (DrawPreX.cons ?_ (DrawPreX.cons ?_ (DrawPreX.cons ?_ (DrawPreX.cons ?_ (DrawPreX.cons ?_ (DrawPreX.cons ?_ (zbo DrawPreX.nil))))))))))))) (fun hd1 => (DrawPreX.cons ?_ (DrawPreX.cons ?_ (DrawPreX.cons ?_ (DrawPreX.cons ?_ (DrawPreX.cons ?_ (DrawPreX.cons ?_ (DrawPreX.cons ?_ (DrawPreX.cons ?_ (DrawPreX.cons ?_ (DrawPreX.cons ?_ (DrawPreX.cons ?_ (DrawPreX.cons ?_ (zbo DrawPreX.nil)))))))))))))) ?_ ?_
 ·
  intro D hn hd hcl hu hi
  refine zag rfl dc (zaS (by rfl) rfl) ?_
  exact zar 0 hu hi rfl
 ·
  intro D hn hd hcl hu hi
  refine zaC rfl dc (zaj (m := 0) hu rfl (hd 0 dc)) ?_
  exact zar 1 hu hi rfl
 ·
  intro D hn hd hcl hu hi
  refine zam zbG rfl dc (zaj (m := 1) hu rfl (hd 1 dc)) (show _ = 0 from rfl) ?_
  exact zar 2 hu hi rfl
 ·
  intro D hn hd hcl hu hi
  refine zam zeU rfl dc (zaj (m := 2) hu rfl (hd 2 dc)) (show _ = 0 from rfl) ?_
  exact zar 3 hu hi rfl
 ·
  intro D hn hd hcl hu hi
  refine zbg (i := 0) hrd rfl zhz rfl dc (zaj (m := 3) hu rfl (hd 3 dc)) rfl ?_
  exact zar 4 hu hi rfl
 ·
  intro D hn hd hcl hu hi
  refine zag rfl dc (zaS (by rfl) rfl) ?_
  exact zar 5 hu hi rfl
 ·
  intro D hn hd hcl hu hi
  refine zag rfl dc (zaS (by rfl) rfl) ?_
  exact zar 6 hu hi rfl
 ·
  intro D hn hd hcl hu hi
  refine zaC rfl dc (zaj (m := 6) hu rfl (hd 6 dc)) ?_
  exact zar 7 hu hi rfl
 ·
  intro D hn hd hcl hu hi
  refine zam zbG rfl dc (zaj (m := 7) hu rfl (hd 7 dc)) (show _ = 0 from rfl) ?_
  exact zar 8 hu hi rfl
 ·
  intro D hn hd hcl hu hi
  refine zam zcY rfl dc (zaj (m := 8) hu rfl (hd 8 dc)) (show _ = 1 from rfl) ?_
  exact zar 9 hu hi rfl
 ·
  intro D hn hd hcl hu hi
  refine zbg (i := 0) hrd rfl zfn rfl dc (zaj (m := 9) hu rfl (hd 9 dc)) rfl ?_
  exact zar 10 hu hi rfl
 ·
  intro D hn hd hcl hu hi
  refine zck (hrd.vw (i := 1) rfl) rfl dc (zaj (m := 10) hu rfl (hd 10 dc)) Tryd.underlying57 ?_
  exact zar 11 hu hi rfl
 ·
  intro D hn hd hcl hu hi
  refine zag rfl dc (zaS (by rfl) rfl) ?_
  exact zar 0 hu hi rfl
 ·
  intro D hn hd hcl hu hi
  refine zaC rfl dc (zaj (m := 0) hu rfl (hd 0 dc)) ?_
  exact zar 1 hu hi rfl
 ·
  intro D hn hd hcl hu hi
  refine zam zbG rfl dc (zaj (m := 1) hu rfl (hd 1 dc)) (show _ = 0 from rfl) ?_
  exact zar 2 hu hi rfl
 ·
  intro D hn hd hcl hu hi
  refine zam zeU rfl dc (zaj (m := 2) hu rfl (hd 2 dc)) (show _ = 0 from rfl) ?_
  exact zar 3 hu hi rfl
 ·
  intro D hn hd hcl hu hi
  refine zbg (i := 0) hrd rfl zhz rfl dc (zaj (m := 3) hu rfl (hd 3 dc)) rfl ?_
  exact zar 4 hu hi rfl
 ·
  intro D hn hd hcl hu hi
  refine zag rfl dc (zaS (by rfl) rfl) ?_
  exact zar 5 hu hi rfl
 ·
  intro D hn hd hcl hu hi
  refine zag rfl dc (zaS (by rfl) rfl) ?_
  exact zar 6 hu hi rfl
 ·
  intro D hn hd hcl hu hi
  refine zaC rfl dc (zaj (m := 6) hu rfl (hd 6 dc)) ?_
  exact zar 7 hu hi rfl
 ·
  intro D hn hd hcl hu hi
  refine zam zbG rfl dc (zaj (m := 7) hu rfl (hd 7 dc)) (show _ = 0 from rfl) ?_
  exact zar 8 hu hi rfl
 ·
  intro D hn hd hcl hu hi
  refine zam zcY rfl dc (zaj (m := 8) hu rfl (hd 8 dc)) (show _ = 1 from rfl) ?_
  exact zar 9 hu hi rfl
 ·
  intro D hn hd hcl hu hi
  refine zbg (i := 0) hrd rfl zfn rfl dc (zaj (m := 9) hu rfl (hd 9 dc)) rfl ?_
  exact zar 10 hu hi rfl
 ·
  intro D hn hd hcl hu hi
  refine zck (hrd.vw (i := 1) rfl) rfl dc (zaj (m := 10) hu rfl (hd 10 dc)) Tryd.underlying57 ?_
  exact zar 11 hu hi rfl
 ·
  intro D hn hd hcl
  refine zcl (vs := [zP bp1, zI 0, zI (p1.told_lines.length : Int)]) hrd rfl dc rfl (evL.cons (zaj (m := 5) kr rfl (hd 5 dc)) (evL.cons rfl (evL.cons (zaj (m := 11) kr rfl (hd 11 dc)) evL.nil))) rfl znw (zd2 (bp1 := bp1) (p1 := p1) (p1_h0 := p1_h0) (p1_h1 := p1_h1) hq1) Splits.nil (.ro 0 rfl (.ro 1 rfl (.ro 2 rfl .nil))) ?_
  rintro v1
  show TO _ _ _ _ _ _ _ _ _ _ [zb2 zat zau 48 1 v1 r1]
  refine zbf (L' := [zb2 zat zau 48 1 v1 r1]) (zak [0] kr rfl) ?_
  refine zgY (k := 0) rfl (fun hd1 he1 => ?_)
  subst he1
  exact fun a w ha hw => ⟨hd1, znR (by rfl) _ _ _ ha, hw⟩
 intro hd1
 show TO _ _ _ _ _ _ _ _ _ _ [zb2 zat zau 48 1 hd1.v r1]
 refine zbB (v := .string r2) (vs := [.string p1.told_title, hd1.v]) hrd rfl dc rfl rfl rfl zos (ze6 (nest := zau) (e := 48) (v := hd1.v) (xs := r1) (RD1 := []) (RD2 := []) zbl zc8 (fun zs_c0 hz_c0 hV_c0 => (zfz (vstanzas1 := hd1) hV_c0 hz_c0 hq2))) (.own (zak [0] (by kernel_rfl) rfl) (fun _ _ h => sepL.one1.1 h) .nil) ?_
 refine zai rfl dc rfl (zan (zaf (zaE ?_)))
 cases h
 exact zaM (rs := [.tmp 2]) () (.inl rfl) Tryd.results18 (.cons (.tmp rfl) .nil) rfl Splits.nil
def zcp (p1 : Gpoem_Poem) (k1 : Int) (line1 : ByteArray) : Option ((Option Gpoem_Poem) × Int) :=
za1 (decide ((k1 : Int) < 0)) (
some (none, 5)
) (
za1 (decide (((p1.told_lines.length : Int) : Int) ≤ k1)) (
some (none, 5)
) (
za1 (!(zmR line1 1024)) (
some (none, 170)
) (
zaO (zd9 line1) fun (r1 : Bool) =>
za1 (r1) (
some (none, 170)
) (
zaO (zb9 p1 0 (p1.told_lines.length : Int)) fun (r2 : (List (List ByteArray))) =>
zaO (zfH p1.told_lines k1) fun (q1 : Gapi_Verse) =>
zaO (zfH r2 q1.Stanza) fun (x1 : List ByteArray) =>
zaO (zfH x1 q1.In) fun (q2 : ByteArray) =>
zaO (zew p1.told_title (r2.set ((q1.Stanza : Int).toNat) (x1.set (q1.In : Int).toNat line1))) fun (r3 : ((Option Gpoem_Poem) × Int)) =>
some (r3.1, r3.2)
)
)
)
)
theorem zc5 {bp1 : Nat} {p1 : Gpoem_Poem} {p1_h0 p1_h1 : Hd} {k1 : Int} {line1 : ByteArray} {r : ((Option Gpoem_Poem) × Int)} (h : zcp p1 k1 line1 = some r) : FnR Tryd.prog 29 [zP bp1, zI k1, .string line1] [cells bp1 [.string p1.told_title, p1_h0.v, p1_h1.v, .string p1.source] 93, vec zal 36 6 p1_h0.v p1.told_lines, vec zaq 34 2 p1_h1.v p1.told_stanzas] [] (fun v0 : Value => .tuple #[v0, zI r.2]) (fun v0 => [za5 zac zab 93 v0 r.1]) := by
 unfold zcp at h
 refine FnR.intro Tryd.func29 rfl Tryd.ntmps29 (by simp) ?_
 intro w0 K hrd
 refine zap (zad (zai rfl dc rfl (zai rfl dc rfl (zan (zaf (zap (zaT (zap (zad (zag rfl dc rfl (zaz rfl dc rfl rfl (zbh Tryd.underlying23) (zai rfl dc rfl (zan ?_)))))))))))))
 refine zaf (za0 rfl (zap (zad (zag rfl dc rfl (zaz rfl dc rfl rfl zcb (zag rfl dc rfl ?_))))))
 refine zaV (s := 16) rfl (fun hb1 => ?_) (fun hb1 => ?_)
 ·
  have h := za6 hb1 h
  refine zae rfl dc (zae rfl dc (zae rfl dc (zae rfl dc (zae rfl dc (zae rfl dc (zae rfl dc (zae rfl dc (zas (b := true) rfl dc rfl rfl (zai rfl dc rfl (zan (zaf (zaY rfl (zap ?_)))))))))))))
  refine zad (zai rfl dc rfl (zai rfl dc rfl (zan (zaf (zaE (zay (zav (zbL zac zab 93 ?_))))))))
  show TX _ _ _ _ _ _ _ [za5 zac zab 93 (.pointer none) none]
  cases h
  exact zaM (rs := [.tmp 6, .tmp 7]) (.pointer none) (.inl rfl) Tryd.results29 (.cons (.tmp rfl) (.cons (.tmp rfl) .nil)) rfl (zak [0] kr rfl)
 ·
  have h := za7 hb1 h
  refine zag rfl dc rfl (zag rfl dc rfl (zaC rfl dc rfl (zam zbG rfl dc rfl (show _ = 0 from rfl) (zam zcY rfl dc rfl (show _ = 1 from rfl) (zbg (i := 0) hrd rfl zfn rfl dc rfl rfl (zck (hrd.vw (i := 1) rfl) rfl dc rfl Tryd.underlying57 (zaz rfl dc rfl rfl zfg (zas (b := false) rfl dc rfl rfl (zai rfl dc rfl (zan (zaf ?_)))))))))))
  refine zaF rfl (fun hb2 => ?_) (fun hb2 => ?_)
  ·
   have h := za6 hb2 h
   refine zap (zad (zai rfl dc rfl (zai rfl dc rfl (zan (zaf (zaE (zay (zav (zbL zac zab 93 ?_)))))))))
   show TX _ _ _ _ _ _ _ [za5 zac zab 93 (.pointer none) none]
   cases h
   exact zaM (rs := [.tmp 6, .tmp 7]) (.pointer none) (.inl rfl) Tryd.results29 (.cons (.tmp rfl) (.cons (.tmp rfl) .nil)) rfl (zak [0] kr rfl)
  ·
   have h := za7 hb2 h
   refine zap (zad (zag rfl dc rfl (za9 (v := .bool (zmR line1 1024)) (vs := [.string line1, zI 1024]) rfl dc rfl rfl rfl znu (znb line1 1024 dc) (zdZ rfl dc rfl zcG (zag rfl dc rfl ?_)))))
   refine zaV (s := 30) rfl (fun hb3 => ?_) (fun hb3 => ?_)
   ·
    have h := za6 hb3 h
    refine zae rfl dc (zae rfl dc (zas (b := true) rfl dc rfl rfl (zai rfl dc rfl (zan (zaf (zaY rfl (zap (zad (zai rfl dc rfl (zai rfl dc rfl (zan (zaf (zaE ?_)))))))))))))
    refine zay (zav (zbL zac zab 93 ?_))
    show TX _ _ _ _ _ _ _ [za5 zac zab 93 (.pointer none) none]
    cases h
    exact zaM (rs := [.tmp 6, .tmp 7]) (.pointer none) (.inl rfl) Tryd.results29 (.cons (.tmp rfl) (.cons (.tmp rfl) .nil)) rfl (zak [0] kr rfl)
   ·
    have h := za7 hb3 h
    refine zag rfl dc rfl ?_
    obtain ⟨r1, hq1, h⟩ := zbT h
    refine za9 (v := .bool r1) (vs := [.string line1]) rfl dc rfl rfl rfl znx (ze9 hq1) (zas (b := false) rfl dc rfl rfl (zai rfl dc rfl (zan (zaf ?_))))
    refine zaF rfl (fun hb4 => ?_) (fun hb4 => ?_)
    ·
     have h := za6 hb4 h
     refine zap (zad (zai rfl dc rfl (zai rfl dc rfl (zan (zaf (zaE (zay (zav (zbL zac zab 93 ?_)))))))))
     show TX _ _ _ _ _ _ _ [za5 zac zab 93 (.pointer none) none]
     cases h
     exact zaM (rs := [.tmp 6, .tmp 7]) (.pointer none) (.inl rfl) Tryd.results29 (.cons (.tmp rfl) (.cons (.tmp rfl) .nil)) rfl (zak [0] kr rfl)
    ·
     have h := za7 hb4 h
     refine zaI (zaw (zaf (zap (zad (zag rfl dc rfl (zag rfl dc rfl (zaC rfl dc rfl (zam zbG rfl dc rfl (show _ = 0 from rfl) (zam zcY rfl dc rfl (show _ = 1 from rfl) (zbg (i := 0) hrd rfl zfn rfl dc rfl rfl (zck (hrd.vw (i := 1) rfl) rfl dc rfl Tryd.underlying57 ?_)))))))))))
     obtain ⟨r2, hq2, h⟩ := zbT h
     refine zcl (vs := [zP bp1, zI 0, zI (p1.told_lines.length : Int)]) hrd rfl dc rfl rfl rfl znw (zd2 (bp1 := bp1) (p1 := p1) (p1_h0 := p1_h0) (p1_h1 := p1_h1) hq2) Splits.nil (.ro 0 rfl (.ro 1 rfl (.ro 2 rfl .nil))) ?_
     rintro v1
     show TO _ _ _ _ _ _ _ _ _ _ [zb2 zat zau 48 1 v1 r2]
     refine zbf (L' := [zb2 zat zau 48 1 v1 r2]) (zak [0] kr rfl) ?_
     refine zgY (k := 0) rfl (fun hd1 he1 => ?_)
     subst he1
     refine zai rfl dc rfl (zan (zaf (zap (zad (zag rfl dc rfl (zaC rfl dc rfl (zam zbG rfl dc rfl (show _ = 0 from rfl) (zam zcY rfl dc rfl (show _ = 1 from rfl) (zbg (i := 0) hrd rfl zfn rfl dc rfl rfl (zag rfl dc rfl ?_))))))))))
     obtain ⟨q1, hq3, h⟩ := zbT h
     refine zb0 (hrd.vw (i := 1) rfl) hq3 Tryd.underlying57 zfm rfl dc rfl rfl rfl (zc2 (m := 0 + (k1 : Int).toNat) (j := 0) (i := 1) (q := q1) (cs := [.string q1.Text, zI q1.Indent, zI q1.Stanza, zI q1.In, zI q1.Span_From, zI q1.Span_To]) hrd rfl zg9 zcg rfl dc rfl (Vw.get (hrd.vw (i := 1) rfl) hq3) rfl rfl rfl ?_)
     refine zbe zhr rfl dc (fun b1 => ?_)
     refine za8 (k := 1) (vs := [.string q1.Text, zI q1.Indent, zI q1.Stanza, zI q1.In, zI q1.Span_From, zI q1.Span_To]) (l' := [.string q1.Text, zI q1.Indent, zI q1.Stanza, zI q1.In, zI q1.Span_From, zI q1.Span_To]) zfm rfl rfl rfl rfl rfl (show _ ≤ _ by simp) rfl rfl ?_
     show TO _ _ _ _ _ _ _ _ _ _ [zb2 zat zau 48 1 hd1.v r2, cells b1 [.string q1.Text, zI q1.Indent, zI q1.Stanza, zI q1.In, zI q1.Span_From, zI q1.Span_To] 36]
     refine zan (zaf (zap ?_))
     refine zfZ (k := 0) rfl zme (fun zs1 hz1 => ?_)
     show TC _ _ _ _ _ _ _ _ _ [vec zat 48 1 hd1.v zs1, cells b1 [.string q1.Text, zI q1.Indent, zI q1.Stanza, zI q1.In, zI q1.Span_From, zI q1.Span_To] 36, own zau zs1]
     obtain ⟨x1, hq4, h⟩ := zbT h
     obtain ⟨eh1, eq1⟩ := zij hz1 hq4
     obtain ⟨q2, hq5, h⟩ := zbT h
     refine zfZ (k := 2) rfl (zoi (zdv eq1)) (fun _ _ => ?_)
     show TC _ _ _ _ _ _ _ _ _ [vec zat 48 1 hd1.v zs1, cells b1 [.string q1.Text, zI q1.Indent, zI q1.Stanza, zI q1.In, zI q1.Span_From, zI q1.Span_To] 36, own zau (zs1.eraseIdx ((q1.Stanza : Int).toNat)), vec zfL 9 1 eh1.v x1]
     refine zcm 8 [(0, 50, hd1.v), (1, 51, .pointer (some ⟨b1, 2, none⟩)), (2, 52, zI q1.Stanza), (3, 53, .pointer (some ⟨zfT hd1.v, (q1.Stanza : Int).toNat * 1, none⟩)), (4, 54, eh1.v), (5, 55, .pointer (some ⟨b1, 3, none⟩)), (6, 56, zI q1.In), (7, 57, .string line1)] mixed kr kr dc (by rfl) kr kr (zao ?_ (zao ?_ (zao ?_ (zao ?_ (zao ?_ (zao ?_ (zao ?_ (zao ?_ DrawPre.nil)))))))) ?_
     ·
      intro D hn hd hcl hu hi
      refine zag rfl dc (zaS (by rfl) rfl) ?_
      exact zar 0 hu hi rfl
     ·
      intro D hn hd hcl hu hi
      refine zam zhO rfl dc (zaS (by rfl) rfl) (show _ = 2 from rfl) ?_
      exact zar 1 hu hi rfl
     ·
      intro D hn hd hcl hu hi
      refine zaP (k := 1) zcx rfl dc (zaj (m := 1) hu rfl (hd 1 dc)) rfl rfl ?_
      exact zar 2 hu hi rfl
     ·
      intro D hn hd hcl hu hi
      refine zdS (k := 0) eq1 Tryd.underlying54 ziY rfl dc (zaj (m := 0) hu rfl (hd 0 dc)) (zaj (m := 2) hu rfl (hd 2 dc)) rfl rfl ?_
      exact zar 3 hu hi rfl
     ·
      intro D hn hd hcl hu hi
      refine zgZ (i := (q1.Stanza : Int).toNat) (j := 0) (k := 0) (q := (x1, eh1)) zkG zbl rfl dc (zaj (m := 3) hu rfl (hd 3 dc)) rfl (zdv eq1) rfl dc rfl ?_
      exact zar 4 hu hi rfl
     ·
      intro D hn hd hcl hu hi
      refine zam zno rfl dc (zaS (by rfl) rfl) (show _ = 3 from rfl) ?_
      exact zar 5 hu hi rfl
     ·
      intro D hn hd hcl hu hi
      refine zaP (k := 1) zcx rfl dc (zaj (m := 5) hu rfl (hd 5 dc)) rfl rfl ?_
      exact zar 6 hu hi rfl
     ·
      intro D hn hd hcl hu hi
      refine zag rfl dc (zaS (by rfl) rfl) ?_
      exact zar 7 hu hi rfl
     refine zdS (k := 3) hq5 Tryd.underlying48 znW rfl dc rfl rfl rfl rfl ?_
     refine zge (i := (q1.In : Int).toNat) (j := 0) (k := 3) (q := q2) (q' := line1) znW zfV rfl rfl rfl rfl (zdv hq5) rfl dc rfl (fun _ _ => rfl) ?_
     refine zan (zaf (zap (zad (zag rfl dc rfl (zaC rfl dc rfl (zam zbG rfl dc rfl (show _ = 0 from rfl) (zam zeU rfl dc rfl (show _ = 0 from rfl) (zbg (i := 0) hrd rfl zhz rfl dc rfl rfl (zag rfl dc rfl (zm0 (k := 0) rfl (zl0 (zm3 (zdv eq1)).symm (q1 := (x1, eh1)) (q2 := (x1.set (q1.In : Int).toNat line1, eh1)) zbl rfl) (zeQ (k := 2) rfl (zak [3] kr rfl) rfl (zoh (nest := zau) (zs := zs1) (z := (x1.set (q1.In : Int).toNat line1, eh1)) (zlh (zdv eq1)) zi2) ?_)))))))))))
     show TO _ _ _ _ _ _ _ _ _ _ [vec zat 48 1 hd1.v (zs1.set ((q1.Stanza : Int).toNat) (x1.set (q1.In : Int).toNat line1, eh1)), cells b1 [.string q1.Text, zI q1.Indent, zI q1.Stanza, zI q1.In, zI q1.Span_From, zI q1.Span_To] 36, own zau (zs1.set ((q1.Stanza : Int).toNat) (x1.set (q1.In : Int).toNat line1, eh1)), emp]
     refine zkx (k := 0) rfl (fun hw1 => ?_)
     obtain ⟨r3, hq6, h⟩ := zbT h
     refine zcl (vs := [.string p1.told_title, hd1.v]) hrd rfl dc rfl rfl rfl znv (zfA (vstanzas1 := hd1) hw1 (zpD hz1) hq6) Splits.nil (.own (As := [vec zat 48 1 hd1.v (zs1.set ((q1.Stanza : Int).toNat) (x1.set (q1.In : Int).toNat line1, eh1))]) (zak [0] (by kernel_rfl) rfl) (fun _ _ h => zkH zbl (sepL.one1.1 h)) (.own (As := [own zau (zs1.set ((q1.Stanza : Int).toNat) (x1.set (q1.In : Int).toNat line1, eh1))]) (zak [2] (by kernel_rfl) rfl) (fun _ _ h => zi7 zc8 (sepL.one1.1 h)) .nil)) ?_
     rintro v2
     show TO _ _ _ _ _ _ _ _ _ _ [vec zat 48 1 hd1.v (zs1.set ((q1.Stanza : Int).toNat) (x1.set (q1.In : Int).toNat line1, eh1)), cells b1 [.string q1.Text, zI q1.Indent, zI q1.Stanza, zI q1.In, zI q1.Span_From, zI q1.Span_To] 36, own zau (zs1.set ((q1.Stanza : Int).toNat) (x1.set (q1.In : Int).toNat line1, eh1)), emp, za5 zac zab 93 v2 r3.1]
     refine zbf (L' := [vec zat 48 1 hd1.v (zs1.set ((q1.Stanza : Int).toNat) (x1.set (q1.In : Int).toNat line1, eh1)), cells b1 [.string q1.Text, zI q1.Indent, zI q1.Stanza, zI q1.In, zI q1.Span_From, zI q1.Span_To] 36, own zau (zs1.set ((q1.Stanza : Int).toNat) (x1.set (q1.In : Int).toNat line1, eh1)), emp, za5 zac zab 93 v2 r3.1]) (zak [0, 1, 2, 3, 4] kr rfl) (zaL rfl dc rfl rfl (zaL rfl dc rfl rfl (zai rfl dc rfl (zai rfl dc rfl (zan (zaf (zaE ?_)))))))
     cases h
     exact zaM (rs := [.tmp 6, .tmp 7]) v2 (.inl rfl) Tryd.results29 (.cons (.tmp rfl) (.cons (.tmp rfl) .nil)) rfl (zak [4] kr rfl)
def zex (p1 : Gpoem_Poem) (from1 : Int) (to1 : Int) : Option ((Option Gpoem_Poem) × Int) :=
za1 (decide ((from1 : Int) < 0)) (
some (none, 5)
) (
za1 (decide ((to1 : Int) < from1)) (
some (none, 5)
) (
za1 (decide (((p1.told_lines.length : Int) : Int) < to1)) (
some (none, 5)
) (
zaO (zb9 p1 from1 to1) fun (r1 : (List (List ByteArray))) =>
zaO (zew p1.told_title r1) fun (r2 : ((Option Gpoem_Poem) × Int)) =>
some (r2.1, r2.2)
)
)
)
theorem zha {bp1 : Nat} {p1 : Gpoem_Poem} {p1_h0 p1_h1 : Hd} {from1 : Int} {to1 : Int} {r : ((Option Gpoem_Poem) × Int)} (h : zex p1 from1 to1 = some r) : FnR Tryd.prog 25 [zP bp1, zI from1, zI to1] [cells bp1 [.string p1.told_title, p1_h0.v, p1_h1.v, .string p1.source] 93, vec zal 36 6 p1_h0.v p1.told_lines, vec zaq 34 2 p1_h1.v p1.told_stanzas] [] (fun v0 : Value => .tuple #[v0, zI r.2]) (fun v0 => [za5 zac zab 93 v0 r.1]) := by
 unfold zex at h
 refine FnR.intro Tryd.func25 rfl Tryd.ntmps25 (by simp) ?_
 intro w0 K hrd
 refine zap (zad (zai rfl dc rfl (zai rfl dc rfl (zan (zaf (zap (zaT (zap (zad (zag rfl dc rfl (zaz rfl dc rfl rfl (zbh Tryd.underlying23) (zai rfl dc rfl (zan ?_)))))))))))))
 refine zaf (za0 rfl (zap (zad (zag rfl dc rfl (zaz rfl dc rfl rfl zcb (zag rfl dc rfl ?_))))))
 refine zaV (s := 14) rfl (fun hb1 => ?_) (fun hb1 => ?_)
 ·
  have h := za6 hb1 h
  refine zae rfl dc (zae rfl dc (zae rfl dc (zas (b := true) rfl dc rfl rfl (zag rfl dc rfl (zae rfl dc (zae rfl dc (zae rfl dc (zae rfl dc (zae rfl dc (zae rfl dc (zae rfl dc (zae rfl dc (zas (b := true) rfl dc rfl rfl ?_)))))))))))))
  refine zai rfl dc rfl (zan (zaf (zaY rfl (zap (zad (zai rfl dc rfl (zai rfl dc rfl (zan (zaf (zaE (zay (zav (zbL zac zab 93 ?_)))))))))))))
  show TX _ _ _ _ _ _ _ [za5 zac zab 93 (.pointer none) none]
  cases h
  exact zaM (rs := [.tmp 6, .tmp 7]) (.pointer none) (.inl rfl) Tryd.results25 (.cons (.tmp rfl) (.cons (.tmp rfl) .nil)) rfl (zak [0] kr rfl)
 ·
  have h := za7 hb1 h
  refine zag rfl dc rfl (zag rfl dc rfl (zaz rfl dc rfl rfl zcb (zas (b := false) rfl dc rfl rfl (zag rfl dc rfl ?_))))
  refine zaV (s := 19) rfl (fun hb2 => ?_) (fun hb2 => ?_)
  ·
   have h := za6 hb2 h
   refine zae rfl dc (zae rfl dc (zae rfl dc (zae rfl dc (zae rfl dc (zae rfl dc (zae rfl dc (zae rfl dc (zas (b := true) rfl dc rfl rfl (zai rfl dc rfl (zan (zaf (zaY rfl (zap ?_)))))))))))))
   refine zad (zai rfl dc rfl (zai rfl dc rfl (zan (zaf (zaE (zay (zav (zbL zac zab 93 ?_))))))))
   show TX _ _ _ _ _ _ _ [za5 zac zab 93 (.pointer none) none]
   cases h
   exact zaM (rs := [.tmp 6, .tmp 7]) (.pointer none) (.inl rfl) Tryd.results25 (.cons (.tmp rfl) (.cons (.tmp rfl) .nil)) rfl (zak [0] kr rfl)
  ·
   have h := za7 hb2 h
   refine zag rfl dc rfl (zag rfl dc rfl (zaC rfl dc rfl (zam zbG rfl dc rfl (show _ = 0 from rfl) (zam zcY rfl dc rfl (show _ = 1 from rfl) (zbg (i := 0) hrd rfl zfn rfl dc rfl rfl (zck (hrd.vw (i := 1) rfl) rfl dc rfl Tryd.underlying57 (zaz rfl dc rfl rfl zcO (zas (b := false) rfl dc rfl rfl (zai rfl dc rfl (zan (zaf ?_)))))))))))
   refine zaF rfl (fun hb3 => ?_) (fun hb3 => ?_)
   ·
    have h := za6 hb3 h
    refine zap (zad (zai rfl dc rfl (zai rfl dc rfl (zan (zaf (zaE (zay (zav (zbL zac zab 93 ?_)))))))))
    show TX _ _ _ _ _ _ _ [za5 zac zab 93 (.pointer none) none]
    cases h
    exact zaM (rs := [.tmp 6, .tmp 7]) (.pointer none) (.inl rfl) Tryd.results25 (.cons (.tmp rfl) (.cons (.tmp rfl) .nil)) rfl (zak [0] kr rfl)
   ·
    have h := za7 hb3 h
    refine zaI (zaw (zaf (zap ?_)))
    obtain ⟨r1, hq1, h⟩ := zbT h
    obtain ⟨r2, hq2, h⟩ := zbT h
    refine zhU 2 ?_
    show TC _ _ _ _ _ _ _ _ _ [emp, emp]
    refine let vals1 : (Hd × Value) → List (Nat × Nat × Value) := fun b => [(0, 29, zP bp1), (1, 30, zP bp1), (2, 31, zP bp1), (3, 32, zP bp1), (4, 33, .string p1.told_title), (5, 34, zP bp1), (6, 35, zI from1), (7, 36, zI to1), (8, 37, b.1.v), (9, 38, .tuple #[b.2, zI r2.2]), (10, 39, b.2), (11, 40, zI r2.2)]; let LL1 : (Nat → Prop) → (Hd × Value) → List Asn := fun D b => [eD D emp [(8, zb2 zat zau 48 1 b.1.v r1)], eD D emp [(9, za5 zac zab 93 b.2 r2.1)]]; ?_
    refine zfj (β := Hd × Value) 12 (Hd.nil, (.slice none 0 0 : Value)) vals1 LL1 mixed kr kr dc (fun _ => rfl) (zaa zdN (zaa zdN rfl)) (zaK ?_ (zaK ?_ (zaK ?_ (zaK ?_ (zaK ?_ (zaK ?_ (zaK ?_ (zaK ?_ (zaK ?_ (zaK ?_ (zaK ?_ (zaK ?_ DrawG.nil)))))))))))) ?_
    ·
     intro D b hn hd hcl
     obtain ⟨hd1, v2⟩ := b
     refine zaX (zaa rfl (zaa (zaB (fun hD => hn (hcl 1 _ rfl (hcl 2 _ rfl (hcl 3 _ rfl (hcl 4 _ rfl (hcl 9 _ rfl hD 4 dc) 3 dc) 2 dc) 1 dc) 0 dc)) zaG) rfl)) ?_
     refine zag rfl dc (zaS (by rfl) rfl) ?_
     exact zaZ (hd1, v2) 0 (by rfl) (by rfl) rfl (congrArg (dl D) rfl) (zaa ((zaJ (by rfl)).trans rfl) (zaa ((zaJ (by rfl)).trans (zaB (fun hD => hn (hcl 1 _ rfl (hcl 2 _ rfl (hcl 3 _ rfl (hcl 4 _ rfl (hcl 9 _ rfl hD 4 dc) 3 dc) 2 dc) 1 dc) 0 dc)) zaG)) rfl))
    ·
     intro D b hn hd hcl
     obtain ⟨hd1, v2⟩ := b
     refine zaX (zaa rfl (zaa (zaB (fun hD => hn (hcl 2 _ rfl (hcl 3 _ rfl (hcl 4 _ rfl (hcl 9 _ rfl hD 4 dc) 3 dc) 2 dc) 1 dc)) zaG) rfl)) ?_
     refine zaC rfl dc (zaj (m := 0) rfl rfl (hd 0 dc)) ?_
     exact zaZ (hd1, v2) 1 (by rfl) (by rfl) rfl (congrArg (dl D) rfl) (zaa ((zaJ (by rfl)).trans rfl) (zaa ((zaJ (by rfl)).trans (zaB (fun hD => hn (hcl 2 _ rfl (hcl 3 _ rfl (hcl 4 _ rfl (hcl 9 _ rfl hD 4 dc) 3 dc) 2 dc) 1 dc)) zaG)) rfl))
    ·
     intro D b hn hd hcl
     obtain ⟨hd1, v2⟩ := b
     refine zaX (zaa rfl (zaa (zaB (fun hD => hn (hcl 3 _ rfl (hcl 4 _ rfl (hcl 9 _ rfl hD 4 dc) 3 dc) 2 dc)) zaG) rfl)) ?_
     refine zam zbG rfl dc (zaj (m := 1) rfl rfl (hd 1 dc)) (show _ = 0 from rfl) ?_
     exact zaZ (hd1, v2) 2 (by rfl) (by rfl) rfl (congrArg (dl D) rfl) (zaa ((zaJ (by rfl)).trans rfl) (zaa ((zaJ (by rfl)).trans (zaB (fun hD => hn (hcl 3 _ rfl (hcl 4 _ rfl (hcl 9 _ rfl hD 4 dc) 3 dc) 2 dc)) zaG)) rfl))
    ·
     intro D b hn hd hcl
     obtain ⟨hd1, v2⟩ := b
     refine zaX (zaa rfl (zaa (zaB (fun hD => hn (hcl 4 _ rfl (hcl 9 _ rfl hD 4 dc) 3 dc)) zaG) rfl)) ?_
     refine zam zeU rfl dc (zaj (m := 2) rfl rfl (hd 2 dc)) (show _ = 0 from rfl) ?_
     exact zaZ (hd1, v2) 3 (by rfl) (by rfl) rfl (congrArg (dl D) rfl) (zaa ((zaJ (by rfl)).trans rfl) (zaa ((zaJ (by rfl)).trans (zaB (fun hD => hn (hcl 4 _ rfl (hcl 9 _ rfl hD 4 dc) 3 dc)) zaG)) rfl))
    ·
     intro D b hn hd hcl
     obtain ⟨hd1, v2⟩ := b
     refine zaX (zaa rfl (zaa (zaB (fun hD => hn (hcl 9 _ rfl hD 4 dc)) zaG) rfl)) ?_
     refine zbg (i := 0) hrd rfl zhz rfl dc (zaj (m := 3) rfl rfl (hd 3 dc)) rfl ?_
     exact zaZ (hd1, v2) 4 (by rfl) (by rfl) rfl (congrArg (dl D) rfl) (zaa ((zaJ (by rfl)).trans rfl) (zaa ((zaJ (by rfl)).trans (zaB (fun hD => hn (hcl 9 _ rfl hD 4 dc)) zaG)) rfl))
    ·
     intro D b hn hd hcl
     obtain ⟨hd1, v2⟩ := b
     refine zaX (zaa (zaB (fun hD => hn (hcl 8 _ rfl hD 5 dc)) zaG) (zaa (zaB (fun hD => hn (hcl 8 _ rfl (hcl 9 _ rfl hD 8 dc) 5 dc)) zaG) rfl)) ?_
     refine zag rfl dc (zaS (by rfl) rfl) ?_
     exact zaZ (hd1, v2) 5 (by rfl) (by rfl) rfl (congrArg (dl D) rfl) (zaa ((zaJ (by rfl)).trans (zaB (fun hD => hn (hcl 8 _ rfl hD 5 dc)) zaG)) (zaa ((zaJ (by rfl)).trans (zaB (fun hD => hn (hcl 8 _ rfl (hcl 9 _ rfl hD 8 dc) 5 dc)) zaG)) rfl))
    ·
     intro D b hn hd hcl
     obtain ⟨hd1, v2⟩ := b
     refine zaX (zaa (zaB (fun hD => hn (hcl 8 _ rfl hD 6 dc)) zaG) (zaa (zaB (fun hD => hn (hcl 8 _ rfl (hcl 9 _ rfl hD 8 dc) 6 dc)) zaG) rfl)) ?_
     refine zag rfl dc (zaS (by rfl) rfl) ?_
     exact zaZ (hd1, v2) 6 (by rfl) (by rfl) rfl (congrArg (dl D) rfl) (zaa ((zaJ (by rfl)).trans (zaB (fun hD => hn (hcl 8 _ rfl hD 6 dc)) zaG)) (zaa ((zaJ (by rfl)).trans (zaB (fun hD => hn (hcl 8 _ rfl (hcl 9 _ rfl hD 8 dc) 6 dc)) zaG)) rfl))
    ·
     intro D b hn hd hcl
     obtain ⟨hd1, v2⟩ := b
     refine zaX (zaa (zaB (fun hD => hn (hcl 8 _ rfl hD 7 dc)) zaG) (zaa (zaB (fun hD => hn (hcl 8 _ rfl (hcl 9 _ rfl hD 8 dc) 7 dc)) zaG) rfl)) ?_
     refine zag rfl dc (zaS (by rfl) rfl) ?_
     exact zaZ (hd1, v2) 7 (by rfl) (by rfl) rfl (congrArg (dl D) rfl) (zaa ((zaJ (by rfl)).trans (zaB (fun hD => hn (hcl 8 _ rfl hD 7 dc)) zaG)) (zaa ((zaJ (by rfl)).trans (zaB (fun hD => hn (hcl 8 _ rfl (hcl 9 _ rfl hD 8 dc) 7 dc)) zaG)) rfl))
    ·
     intro D b hn hd hcl
     obtain ⟨_, v2⟩ := b
     refine zaX (zaa (zaB hn zaG) (zaa (zaB (fun hD => hn (hcl 9 _ rfl hD 8 dc)) zaG) rfl)) ?_
     refine zcl (vs := [zP bp1, zI from1, zI to1]) hrd rfl dc rfl (evL.cons (zaj (m := 5) rfl rfl (hd 5 dc)) (evL.cons (zaj (m := 6) rfl rfl (hd 6 dc)) (evL.cons (zaj (m := 7) rfl rfl (hd 7 dc)) evL.nil))) rfl znw (zd2 (bp1 := bp1) (p1 := p1) (p1_h0 := p1_h0) (p1_h1 := p1_h1) hq1) Splits.nil (.ro 0 rfl (.ro 1 rfl (.ro 2 rfl .nil))) ?_
     rintro v1
     show TO _ _ _ _ _ _ _ _ _ _ [emp, emp, zb2 zat zau 48 1 v1 r1]
     refine zbf (L' := [emp, emp, zb2 zat zau 48 1 v1 r1]) (zak [0, 1, 2] kr rfl) ?_
     refine zgY (k := 2) rfl (fun hd1 he1 => ?_)
     subst he1
     refine zeP 0 rfl rfl ?_
     show TO _ _ _ _ _ _ _ _ _ _ [zb2 zat zau 48 1 hd1.v r1, emp]
     exact zaZ (hd1, v2) 8 (by rfl) (by rfl) rfl (zax (fun _ => rfl) (zax (fun _ => rfl) (zax (fun _ => rfl) (zax (fun _ => rfl) (zax (fun _ => rfl) (zax (fun _ => rfl) (zax (fun _ => rfl) (zax (fun _ => rfl) (zax (fun hD => absurd hD hn) (congrArg (dl D) rfl)))))))))) (zaa (zbz (Or.inr rfl) rfl) (zaa ((zaJ (by rfl)).trans (zaB (fun hD => hn (hcl 9 _ rfl hD 8 dc)) zaG)) rfl))
    ·
     intro D b hn hd hcl
     obtain ⟨hd1, _⟩ := b
     refine zaX (zaa (zbz (hd 8 dc) rfl) (zaa (zaB hn zaG) rfl)) ?_
     refine zcl (vs := [.string p1.told_title, hd1.v]) hrd rfl dc rfl (evL.cons (zaj (m := 4) rfl rfl (hd 4 dc)) (evL.cons (zaj (m := 8) rfl rfl (hd 8 dc)) evL.nil)) rfl znv (ze6 (nest := zau) (e := 48) (v := hd1.v) (xs := r1) (RD1 := []) (RD2 := []) zbl zc8 (fun zs_c0 hz_c0 hV_c0 => (zfA (vstanzas1 := hd1) hV_c0 hz_c0 hq2))) Splits.nil (.own (zak [0] (by kernel_rfl) rfl) (fun _ _ h => sepL.one1.1 h) .nil) ?_
     rintro v2
     show TO _ _ _ _ _ _ _ _ _ _ [zb2 zat zau 48 1 hd1.v r1, emp, za5 zac zab 93 v2 r2.1]
     refine zbf (L' := [zb2 zat zau 48 1 hd1.v r1, emp, za5 zac zab 93 v2 r2.1]) (zak [0, 1, 2] kr rfl) (zeP 1 rfl rfl ?_)
     show TO _ _ _ _ _ _ _ _ _ _ [zb2 zat zau 48 1 hd1.v r1, za5 zac zab 93 v2 r2.1]
     exact zaZ (hd1, v2) 9 (by rfl) (by rfl) rfl (zax (fun _ => rfl) (zax (fun _ => rfl) (zax (fun _ => rfl) (zax (fun _ => rfl) (zax (fun _ => rfl) (zax (fun _ => rfl) (zax (fun _ => rfl) (zax (fun _ => rfl) (zax (fun _ => rfl) (zax (fun hD => absurd hD hn) (zax (fun hD => absurd (hcl 10 _ rfl hD 9 dc) hn) (zax (fun _ => rfl) rfl)))))))))))) (zaa ((zaJ (by rfl)).trans (zbz (hd 8 dc) rfl)) (zaa (zbz (Or.inr rfl) rfl) rfl))
    ·
     intro D b hn hd hcl
     obtain ⟨hd1, v2⟩ := b
     refine zaX (zaa (zbz (hcl 9 _ rfl (hd 9 dc) 8 dc) rfl) (zaa (zbz (hd 9 dc) rfl) rfl)) (zaL rfl dc (zaj (m := 9) rfl rfl (hd 9 dc)) rfl ?_)
     exact zaZ (hd1, v2) 10 (by rfl) (by rfl) rfl (congrArg (dl D) rfl) (zaa ((zaJ (by rfl)).trans (zbz (hcl 9 _ rfl (hd 9 dc) 8 dc) rfl)) (zaa ((zaJ (by rfl)).trans (zbz (hd 9 dc) rfl)) rfl))
    ·
     intro D b hn hd hcl
     obtain ⟨hd1, v2⟩ := b
     refine zaX (zaa (zbz (hcl 9 _ rfl (hd 9 dc) 8 dc) rfl) (zaa (zbz (hd 9 dc) rfl) rfl)) (zaL rfl dc (zaj (m := 9) rfl rfl (hd 9 dc)) rfl ?_)
     exact zaZ (hd1, v2) 11 (by rfl) (by rfl) rfl (congrArg (dl D) rfl) (zaa ((zaJ (by rfl)).trans (zbz (hcl 9 _ rfl (hd 9 dc) 8 dc) rfl)) (zaa ((zaJ (by rfl)).trans (zbz (hd 9 dc) rfl)) rfl))
    intro D b hall
    obtain ⟨hd1, v2⟩ := b
    refine zaX (zaa (zbz (hall 8 dc) rfl) (zaa (zbz (hall 9 dc) rfl) rfl)) (zai rfl dc rfl (zai rfl dc rfl (zan (zaf (zaE ?_)))))
    cases h
    exact zaM (rs := [.tmp 6, .tmp 7]) v2 (.inl rfl) Tryd.results25 (.cons (.tmp rfl) (.cons (.tmp rfl) .nil)) rfl (zak [1] kr rfl)
end Go.Proofs.YtgfkogafkhbgnaaDoor
namespace Go.Proofs.YtgfkogafkhbgnaaDoor
open Go.RowKit Go.Lib
set_option linter.unusedVariables false
set_option linter.unusedSimpArgs false
theorem zf8 (a b : List UInt8) : mkB a ++ mkB b = mkB (a ++ b) := by
  have h : ∀ a b : ByteArray, a.data.toList = b.data.toList → a = b := fun a b h => by
    have : mkB a.data.toList = mkB b.data.toList := by rw [h]
    exact this
  apply h
  rw [ByteArray.data_append, Array.toList_append]
  rfl
abbrev Row := List (List UInt8)
def lnT (r : Row) : List UInt8 := r.flatMap (· ++ [10])
def zm5 (a : List UInt8) : List UInt8 := if a = [] then a else a ++ [10]
def zlw (t : List UInt8) : List Row → Bool
  | (x :: _) :: _ => decide (t ≠ []) || znV x
  | _ => decide (t ≠ [])
def zjR (t : List UInt8) (z : List Row) : List UInt8 := if zlw t z then 35 :: 32 :: t ++ [10] else []
def prF (a : List UInt8) (z : List Row) : List UInt8 := z.foldl (fun a r => zm5 a ++ lnT r) a
/-- The one form. -/
def prT (t : List UInt8) (z : List Row) : List UInt8 := prF (zjR t z) z
def wtR (r : Row) : Nat := (r.map fun x => x.length + 1).sum
def wtZ (z : List Row) : Nat := (z.map fun r => 1 + wtR r).sum
theorem zhl (x : List UInt8) (r : Row) : wtR (x :: r) = x.length + 1 + wtR r := by unfold wtR; rw [List.map_cons, List.sum_cons]
theorem zir (r : Row) (z : List Row) : wtZ (r :: z) = 1 + wtR r + wtZ z := by unfold wtZ; rw [List.map_cons, List.sum_cons]
theorem zki (x : List UInt8) (r : Row) : lnT (x :: r) = x ++ [10] ++ lnT r := List.flatMap_cons
theorem znc (r : Row) : (lnT r).length = wtR r := by
  induction r with
  | nil => rfl
  | cons x r ih => rw [zki, zhl, List.length_append, List.length_append, ih]; rfl
theorem zk8 (r : Row) : r.length ≤ wtR r := by
  induction r with
  | nil => exact Nat.le_refl _
  | cons x r ih => rw [zhl, List.length_cons]; omega
theorem zk7 (z : List Row) : z.length ≤ wtZ z := by
  induction z with
  | nil => exact Nat.le_refl _
  | cons r z ih => rw [zir, List.length_cons]; omega
theorem zl9 (a : List UInt8) : (zm5 a).length ≤ a.length + 1 := by
  unfold zm5; split
  · omega
  · rw [List.length_append]; simp
theorem zlC (t : List UInt8) (z : List Row) : (zjR t z).length ≤ t.length + 3 := by
  unfold zjR; split
  · simp
  · simp
theorem zkI (r : Row) (J : ByteArray → Option ByteArray) (a0 : List UInt8) (hb : a0.length + wtR r ≤ 70368744177664) : ∀ (n i : Nat) (a : List UInt8), i ≤ r.length → r.length - i < n → a.length + wtR (r.drop i) ≤ 70368744177664 →
    zbK (fun _ _ => none) (zce J (r.map mkB)) n (mkB a) (i : Int) = J (mkB (a ++ lnT (r.drop i))) := by
  intro n
  induction n with
  | zero => intro i a h1 h2; omega
  | succ n ih =>
    intro i a hi hn ha
    rw [zdR]
    obtain ⟨ag, hag⟩ : ∃ ag, ag = zbK (fun _ _ => none) (zce J (r.map mkB)) n := ⟨_, rfl⟩
    rw [← hag] at ih ⊢
    unfold zce
    have hrl := zk8 r
    rcases Nat.lt_or_ge i r.length with h | h
    · have hd : r.drop i = r[i] :: r.drop (i + 1) := List.drop_eq_getElem_cons h
      rw [hd, zhl] at ha
      have hg : zfH (r.map mkB) (i : Int) = some (mkB r[i]) := zgs (by rw [List.getElem?_map, List.getElem?_eq_getElem h]; rfl)
      refine zdh (decide_eq_true (by rw [List.length_map]; omega)) (zes hg ?_)
      rw [show (⟨#[10]⟩ : ByteArray) = mkB [10] from rfl, zf8, zf8]
      refine ziE (by rw [zcJ, zcJ]; simp only [List.length_singleton]; omega) (ziE (by rw [zcJ, zcJ, List.length_append]; simp only [List.length_singleton]; omega) (ziE ⟨by omega, by omega⟩ ?_))
      rw [show (i : Int) + 1 = ((i + 1 : Nat) : Int) by omega, ih (i + 1) _ (by omega) (by omega) (by rw [List.length_append, List.length_append]; simp only [List.length_singleton]; omega), hd, zki]
      simp only [List.append_assoc]
    · rw [List.drop_eq_nil_of_le h]
      refine zc6 (decide_eq_false (by rw [List.length_map]; omega)) ?_
      show J (mkB a) = J (mkB (a ++ []))
      rw [List.append_nil]
theorem zjK (z : List Row) (hz : z.length ≤ 70368744177664) (J : ByteArray → Option ByteArray) : ∀ (n i : Nat) (a : List UInt8), i ≤ z.length → z.length - i < n → a.length + wtZ (z.drop i) ≤ 70368744177664 →
    zbK (fun _ _ => none) (zbE (mkZ z) J) n (mkB a) (i : Int) = J (mkB (prF a (z.drop i))) := by
  intro n
  induction n with
  | zero => intro i a h1 h2; omega
  | succ n ih =>
    intro i a hi hn ha
    rw [zdR]
    obtain ⟨ag, hag⟩ : ∃ ag, ag = zbK (fun _ _ => none) (zbE (mkZ z) J) n := ⟨_, rfl⟩
    rw [← hag] at ih ⊢
    unfold zbE
    rcases Nat.lt_or_ge i z.length with h | h
    · have hd : z.drop i = z[i] :: z.drop (i + 1) := List.drop_eq_getElem_cons h
      have hdl := zk7 (z.drop i)
      rw [List.length_drop] at hdl
      rw [hd, zir] at ha
      have hg : zfH (mkZ z) (i : Int) = some (z[i].map mkB) := zgs (by unfold mkZ; rw [List.getElem?_map, List.getElem?_eq_getElem h]; rfl)
      have hsl := zl9 a
      refine zdh (decide_eq_true (by rw [zfG]; omega)) (zhd (zes hg (zhd ?_)))
      have hin := zkI z[i] (fun (b8 : ByteArray) => grd (I64 ((i : Int) + 1)) <| ag b8 ((i : Int) + 1)) (zm5 a) (by omega) zdX 0 (zm5 a) (Nat.zero_le _) (by have := zk8 z[i]; unfold zdX; omega) (by rw [List.drop_zero]; omega)
      have fin : (grd (I64 ((i : Int) + 1)) <| ag (mkB (zm5 a ++ lnT z[i])) ((i : Int) + 1)) = J (mkB (prF a (z.drop i))) := by
        rw [hd]
        refine ziE ⟨by omega, by omega⟩ ?_
        rw [show (i : Int) + 1 = ((i + 1 : Nat) : Int) by omega, ih (i + 1) _ (by omega) (by omega) (by rw [List.length_append, znc]; omega)]
        rfl
      by_cases ha0 : a = []
      · subst ha0
        refine zc6 (decide_eq_false (by rw [zcJ]; simp)) ?_
        refine hin.trans ?_
        rw [List.drop_zero]; exact fin
      · have hpos : 0 < a.length := List.length_pos_iff.2 ha0
        refine zdh (decide_eq_true (by rw [zcJ]; omega)) (ziE (by rw [zcJ]; show a.length + 1 ≤ _; omega) ?_)
        have e : zm5 a = a ++ [10] := if_neg ha0
        rw [show (⟨#[10]⟩ : ByteArray) = mkB [10] from rfl, zf8, ← e]
        refine hin.trans ?_
        rw [List.drop_zero]; exact fin
    · rw [List.drop_eq_nil_of_le h]
      exact zc6 (decide_eq_false (by rw [zfG]; omega)) rfl
/-- What printed answers. -/
theorem zlr (t : List UInt8) (z : List Row) (hne : ∀ r ∈ z, r ≠ []) (hw : t.length + 3 + wtZ z ≤ 70368744177664) : zc7 (mkB t) (mkZ z) = some (mkB (prT t z)) := by
  have hzl := zk7 z
  unfold zc7
  refine zhd ?_
  have tail : ∀ b : List UInt8, b = zjR t z → (zcj (fun (j2 : ByteArray → Option ByteArray) => zbK (fun _ _ => none) (zbE (mkZ z) j2) zdX (mkB b) 0) (fun (b4 : ByteArray) => some b4)) = some (mkB (prT t z)) := fun b hb => by
    have hl := zlC t z
    have := zjK z (by omega) (fun (b4 : ByteArray) => some b4) zdX 0 b (Nat.zero_le _) (by unfold zdX; omega) (by rw [List.drop_zero, hb]; omega)
    rw [List.drop_zero] at this
    refine zhd (this.trans ?_)
    rw [hb]; rfl
  have hd : (grd ((⟨#[35, 32]⟩ : ByteArray).size + (mkB t).size ≤ 9223372036854775807) <| grd (((⟨#[35, 32]⟩ : ByteArray) ++ mkB t).size + (⟨#[10]⟩ : ByteArray).size ≤ 9223372036854775807) <|
      grd ((⟨#[]⟩ : ByteArray).size + (((⟨#[35, 32]⟩ : ByteArray) ++ mkB t) ++ (⟨#[10]⟩ : ByteArray)).size ≤ 140737488355328) <|
      (zcj (fun (j2 : ByteArray → Option ByteArray) => zbK (fun _ _ => none) (zbE (mkZ z) j2) zdX ((⟨#[]⟩ : ByteArray) ++ (((⟨#[35, 32]⟩ : ByteArray) ++ mkB t) ++ (⟨#[10]⟩ : ByteArray))) 0) (fun (b4 : ByteArray) => some b4))) =
        (zcj (fun (j2 : ByteArray → Option ByteArray) => zbK (fun _ _ => none) (zbE (mkZ z) j2) zdX (mkB (35 :: 32 :: t ++ [10])) 0) (fun (b4 : ByteArray) => some b4)) := by
    rw [show (⟨#[35, 32]⟩ : ByteArray) = mkB [35, 32] from rfl, show (⟨#[10]⟩ : ByteArray) = mkB [10] from rfl, show (⟨#[]⟩ : ByteArray) = mkB [] from rfl, zf8, zf8, zf8]
    refine ziE ?_ (ziE ?_ (ziE ?_ rfl))
    · rw [zcJ, zcJ]; simp only [List.length_cons, List.length_nil]; omega
    · rw [zcJ, zcJ, List.length_append]; simp only [List.length_cons, List.length_nil]; omega
    · rw [zcJ, zcJ, List.length_append, List.length_append]; simp only [List.length_cons, List.length_nil]; omega
  by_cases ht : t = []
  · subst ht
    refine zc6 (by rw [show (⟨#[]⟩ : ByteArray) = mkB [] from rfl]; simp) ?_
    cases z with
    | nil => exact zc6 (decide_eq_false (by simp [mkZ])) (tail [] rfl)
    | cons r z =>
      have hr := hne r (by simp)
      obtain ⟨x, r', rfl⟩ := List.exists_cons_of_ne_nil hr
      refine zdh (decide_eq_true (by rw [zfG, List.length_cons]; omega)) (zes (a := (x :: r').map mkB) rfl (zes (a := mkB x) rfl (zes (zl3 x) ?_)))
      cases hti : znV x with
      | true =>
        refine zdh rfl (hd.trans (tail _ ?_))
        have : zlw [] ((x :: r') :: z) = true := by show (decide (([] : List UInt8) ≠ []) || znV x) = true; rw [hti]; rfl
        unfold zjR; rw [this]; rfl
      | false =>
        refine zc6 rfl (tail [] ?_)
        have : zlw [] ((x :: r') :: z) = false := by show (decide (([] : List UInt8) ≠ []) || znV x) = false; rw [hti]; rfl
        unfold zjR; rw [this]; rfl
  · refine zdh (by rw [show (⟨#[]⟩ : ByteArray) = mkB [] from rfl, decide_eq_false (fun e => ht (zjO e))]; rfl) (hd.trans (tail _ ?_))
    unfold zjR
    have : zlw t z = true := by
      unfold zlw
      split <;> simp [ht]
    rw [this]; rfl
end Go.Proofs.YtgfkogafkhbgnaaDoor
namespace Go.Proofs.YtgfkogafkhbgnaaDoor
open Go.RowKit Go.Lib
set_option linter.unusedVariables false
set_option linter.unusedSimpArgs false
/-! ### Counting -/
theorem zix (r : Row) (z : List Row) : tot (r :: z) = r.length + tot z := by unfold tot; rw [List.map_cons, List.sum_cons]
end Go.Proofs.YtgfkogafkhbgnaaDoor
namespace Go.Proofs.YtgfkogafkhbgnaaDoor
open Go.RowKit Go.Lib
set_option linter.unusedVariables false
set_option linter.unusedSimpArgs false
def noE (x : List UInt8) : Prop := ∀ b ∈ x, isE b = false
structure GLn (x : List UInt8) : Prop where
  bl : znH x = false
  le : x.length ≤ 1024
  ne : noE x
/-! ### What a poem that was read is like -/
def zfK : Nat → Row → List (Nat × List UInt8)
  | _, [] => []
  | i, x :: r => (i, x) :: zfK (i + 1) r
def zff : Nat → List Row → List (Nat × Nat × List UInt8)
  | _, [] => []
  | k, r :: z => (zfK 0 r).map (fun p => (k, p)) ++ zff (k + 1) z
def zoO (v : Gapi_Verse) : ByteArray × Int × Int × Int := (v.Text, v.Indent, v.Stanza, v.In)
def zoP (p : Nat × Nat × List UInt8) : ByteArray × Int × Int × Int := (mkB (p.2.2.drop (ind p.2.2)), (ind p.2.2 : Int), (p.1 : Int), (p.2.1 : Int))
def VOk (vs : List Gapi_Verse) (z : List Row) : Prop := vs.map zoO = (zff 0 z).map zoP
theorem zjm (x : List UInt8) : ∀ (r : Row) (i : Nat), zfK i (r ++ [x]) = zfK i r ++ [(i + r.length, x)]
  | [], i => rfl
  | y :: r, i => by
    show (i, y) :: zfK (i + 1) (r ++ [x]) = _
    rw [zjm x r (i + 1), List.length_cons, show i + 1 + r.length = i + (r.length + 1) by omega]; rfl
theorem zgt : ∀ (a b : List Row) (k : Nat), zff k (a ++ b) = zff k a ++ zff (k + a.length) b
  | [], b, k => rfl
  | r :: a, b, k => by
    show _ ++ zff (k + 1) (a ++ b) = _
    rw [zgt a b (k + 1), List.length_cons, show k + 1 + a.length = k + (a.length + 1) by omega, ← List.append_assoc]; rfl
theorem zhM (r : Row) (k : Nat) : zff k [r] = (zfK 0 r).map (fun p => (k, p)) := List.append_nil _
structure PInv (st : RS) : Prop extends RInv st where
  vok : VOk st.vs st.stz
  tE : noE st.t
  tL : st.t.length ≤ 1022
  ln : ∀ r ∈ st.stz, ∀ x ∈ r, GLn x
  fr : ∀ v ∈ st.vs, 0 ≤ v.Span_From
theorem zkS (st : RS) : zff 0 (zdY st) = zff 0 st.stz := by
  unfold zdY
  split
  · rfl
  · rw [zgt, zhM]; exact List.append_nil _
theorem PInv.step {st st' : RS} {x : Nat × List UInt8} (h : PInv st) (hx : noE x.2) (hs : zi8 st x = .ok st') : PInv st' := by
  refine ⟨h.toRInv.step hs, ?_, ?_, ?_, ?_, ?_⟩ <;> unfold zi8 at hs
  all_goals
    split at hs
    · cases hs; first | exact h.vok | exact h.tE | exact h.tL | exact h.ln | exact h.fr
    split at hs
    · cases hs
    split at hs
  · cases hs; exact h.vok
  · split at hs
    · cases hs
    · cases hs
      obtain ⟨init, r, he, hl, hdl, htot, hsp⟩ := zlz h.toRInv
      show (st.vs ++ [ziv x.1 x.2 (zdY st)]).map zoO = (zff 0 ((zdY st).dropLast ++ [zfe (zdY st) ++ [x.2]])).map zoP
      rw [hdl, hl, zgt, zhM, zjm, List.map_append, List.map_append, List.map_append, List.map_append, ← List.append_assoc]
      have h2 : zff 0 st.stz = zff 0 init ++ (zfK 0 r).map (fun p => (init.length, p)) := by
        rw [← zkS, he, zgt, zhM, Nat.zero_add]
      have h3 := h.vok
      unfold VOk at h3
      rw [h3, h2, List.map_append, Nat.zero_add]
      congr 1
      unfold ziv zoO
      rw [hl, he]
      simp [zoP]
  · rename_i ht
    cases hs
    intro b hb
    exact hx b (List.mem_of_mem_drop hb)
  · split at hs
    · cases hs
    · cases hs; exact h.tE
  · rename_i hl ht
    cases hs
    show (x.2.drop 2).length ≤ 1022
    rw [List.length_drop]; omega
  · split at hs
    · cases hs
    · cases hs; exact h.tL
  · cases hs; exact h.ln
  · rename_i hb hl ht
    split at hs
    · cases hs
    · cases hs
      obtain ⟨init, r, he, hl2, hdl, htot, hsp⟩ := zlz h.toRInv
      intro r' hr' y hy
      have hold : ∀ r ∈ zdY st, ∀ x ∈ r, GLn x := fun r hr x hx => by
        unfold zdY at hr
        split at hr
        · exact h.ln r hr x hx
        · rcases List.mem_append.1 hr with hr | hr
          · exact h.ln r hr x hx
          · rw [List.mem_singleton] at hr; subst hr; cases hx
      have hr2 : r' ∈ (zdY st).dropLast ++ [zfe (zdY st) ++ [x.2]] := hr'
      rw [hdl, hl2] at hr2
      rcases List.mem_append.1 hr2 with hr2 | hr2
      · exact hold r' (by rw [he]; exact List.mem_append_left _ hr2) y hy
      · rw [List.mem_singleton] at hr2
        subst hr2
        rcases List.mem_append.1 hy with hy | hy
        · exact hold r (by rw [he]; simp) y hy
        · rw [List.mem_singleton] at hy
          subst hy
          exact ⟨by simpa using hb, by omega, hx⟩
  · cases hs; exact h.fr
  · split at hs
    · cases hs
    · cases hs
      intro v hv
      rcases List.mem_append.1 (show v ∈ st.vs ++ [ziv x.1 x.2 (zdY st)] from hv) with hv | hv
      · exact h.fr v hv
      · rw [List.mem_singleton] at hv; subst hv
        show (0 : Int) ≤ (x.1 : Int) + (ind x.2 : Int)
        omega
structure GoodP (t : List UInt8) (z : List Row) : Prop where
  tE : noE t
  tL : t.length ≤ 1022
  ne : ∀ r ∈ z, r ≠ []
  ln : ∀ r ∈ z, ∀ x ∈ r, GLn x
theorem PInv.good {st : RS} (h : PInv st) : GoodP st.t st.stz := ⟨h.tE, h.tL, h.ne, h.ln⟩
end Go.Proofs.YtgfkogafkhbgnaaDoor
namespace Go.Proofs.YtgfkogafkhbgnaaDoor
open Go.RowKit Go.Lib
set_option linter.unusedVariables false
set_option linter.unusedSimpArgs false
end Go.Proofs.YtgfkogafkhbgnaaDoor
