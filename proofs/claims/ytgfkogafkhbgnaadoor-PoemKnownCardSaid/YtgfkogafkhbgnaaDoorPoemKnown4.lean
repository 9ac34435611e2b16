/-
  Texts laid together: LqI, PqI, PqJ, LqJ, Cls, ClsW, ClsW2, SeqW, RefPcs, Runs, C0, Word, WordA, WordB, WordC, WordD. Nothing is assumed.
-/
import Derived.Test.YtgfkogafkhbgnaaDoorPoemKnown3
import Derived.Test.YtgfkogafkhbgnaaDoorPoemKnown1
import Derived.Test.YtgfkogafkhbgnaaDoorPoemKnown2
set_option maxRecDepth 100000
set_option maxHeartbeats 4000000
namespace Go.Proofs.YtgfkogafkhbgnaaDoor
open Go.RowKit Go.Lib
set_option linter.unusedVariables false
set_option linter.unusedSimpArgs false
def zfd  : Option Bool :=
zaO (zd1 (⟨#[35, 32, 65, 32, 115, 111, 110, 103, 10, 10, 111, 110, 101, 10, 32, 32, 116, 119, 111, 32, 10, 32, 10, 255, 116, 104, 114, 101, 101, 10, 102, 111, 117, 114, 10]⟩ : ByteArray)) fun (r1 : ((Option Gpoem_Poem) × Gapi_Spot)) =>
za1 (!(zdr r1.2 (⟨0, 0⟩ : Gapi_Spot))) (
some false
) (
zaO (r1.1) fun (p1 : Gpoem_Poem) =>
zaO (zcL p1) fun (r2 : Int) =>
za1 ((r2 : Int) != 4) (
some false
) (
zaO (zco p1) fun (r3 : Int) =>
za1 ((r3 : Int) != 2) (
some false
) (
zaO (zdu p1) fun (r4 : ByteArray) =>
za1 (!decide (r4 = (⟨#[65, 32, 115, 111, 110, 103]⟩ : ByteArray))) (
some false
) (
zaO (zcp p1 1 (⟨#[120]⟩ : ByteArray)) fun (r5 : ((Option Gpoem_Poem) × Int)) =>
za1 ((r5.2 : Int) == 0) (
zaO (r5.1) fun (p2 : Gpoem_Poem) =>
zaO (zbH p2) fun (r6 : ByteArray) =>
za1 (decide (r6 = (⟨#[35, 32, 65, 32, 115, 111, 110, 103, 10, 10, 111, 110, 101, 10, 120, 10, 10, 255, 116, 104, 114, 101, 101, 10, 102, 111, 117, 114, 10]⟩ : ByteArray))) (
zaO (zdG p2 p1) fun (r7 : Bool) =>
za1 (!r7) (
zaO (zdG p1 p1) fun (r8 : Bool) =>
some r8
) (
some false
)
) (
some false
)
) (
some false
)
)
)
)
)
theorem zh6  {r : Bool} (h : zfd = some r) : FnP Tryd.prog 12 [] (.bool r) := by
 unfold zfd at h
 refine FnP.intro Tryd.func12 rfl Tryd.ntmps12 (by simp) ?_
 intro w0 K
 refine zap (zad (zai rfl dc rfl (zan (zaf (zap (zad ?_))))))
 obtain ⟨r1, hq1, h⟩ := zbT h
 refine zcr (vs := [.string (⟨#[35, 32, 65, 32, 115, 111, 110, 103, 10, 10, 111, 110, 101, 10, 32, 32, 116, 119, 111, 32, 10, 32, 10, 255, 116, 104, 114, 101, 101, 10, 102, 111, 117, 114, 10]⟩ : ByteArray)]) rfl dc rfl rfl rfl zms (zeI hq1) Splits.nil ?_
 rintro v1
 show TO _ _ _ _ _ _ _ _ _ _ [za5 zac zab 93 v1 r1.1]
 refine zbf (L' := [za5 zac zab 93 v1 r1.1]) (zak [0] kr rfl) (zag rfl dc rfl (zaL rfl dc rfl rfl (zaL rfl dc rfl rfl ?_)))
 refine zbe zk6 rfl dc (fun b1 => ?_)
 refine zai rfl dc rfl (za8 (k := 1) (vs := [zI r1.2.Err, zI r1.2.At]) (l' := [zI r1.2.Err, zI r1.2.At]) ziy rfl rfl rfl rfl rfl (show _ ≤ _ by simp) rfl rfl ?_)
 show TO _ _ _ _ _ _ _ _ _ _ [za5 zac zab 93 v1 r1.1, cells b1 [zI r1.2.Err, zI r1.2.At] 26]
 refine zan (zaf (zap (zap (zad (zbb (k := 1) (cs := [zI r1.2.Err, zI r1.2.At]) zjG rfl dc rfl rfl rfl rfl ?_)))))
 refine zba (v := .agg #[zI 0, zI 0]) (ps := []) rfl dc rfl (fun _ => by kernel_rfl) ?_
 refine zaz rfl dc rfl rfl (zin r1.2 (⟨0, 0⟩ : Gapi_Spot)) (zag rfl dc rfl ?_)
 refine zaV (s := 12) rfl (fun hb1 => ?_) (fun hb1 => ?_)
 ·
  have h := za6 hb1 h
  refine zae rfl dc (zae rfl dc (zae rfl dc (zas (b := true) rfl dc rfl rfl (zag rfl dc rfl (zae rfl dc (zae rfl dc (zae rfl dc (zas (b := true) rfl dc rfl rfl (zag rfl dc rfl (zae rfl dc (zae rfl dc (zae rfl dc (zas (b := true) rfl dc rfl rfl ?_)))))))))))))
  refine zan (zaf (zaY rfl (zap (zad (zai rfl dc rfl (zan (zaf (zaE (zav ?_)))))))))
  cases h
  exact zaM (rs := [.tmp 0]) () (.inl rfl) Tryd.results12 (.cons (.tmp rfl) .nil) rfl Splits.nil
 ·
  have h := za7 hb1 h
  refine zag rfl dc rfl ?_
  obtain ⟨p1, hq2, h⟩ := zbT h
  refine zfR (As := [za5 zac zab 93 v1 r1.1]) (zak [0] kr rfl) (zcT hq2) ?_
  rintro ⟨b2, hd1, hd2⟩ hv1
  subst hv1
  show TO _ _ _ _ _ _ _ _ _ _ [emp, cells b1 [zI r1.2.Err, zI r1.2.At] 26, cells b2 [.string p1.told_title, hd1.v, hd2.v, .string p1.source] 93, vec zal 36 6 hd1.v p1.told_lines, vec zaq 34 2 hd2.v p1.told_stanzas]
  obtain ⟨r2, hq3, h⟩ := zbT h
  refine zbB (v := zI r2) (vs := [zP b2]) (Rd.nil : Rd _ _ []) rfl dc rfl rfl rfl zmq (zdU (bp1 := b2) (p1 := p1) (p1_h0 := hd1) (p1_h1 := hd2) hq3) (.own (zak [2] (by kernel_rfl) rfl) (fun _ _ h => sepL.one1.1 h) (.own (zak [3] (by kernel_rfl) rfl) (fun _ _ h => sepL.one1.1 h) (.own (zak [4] (by kernel_rfl) rfl) (fun _ _ h => sepL.one1.1 h) .nil))) ?_
  refine zaz rfl dc rfl rfl zbk (zas (b := false) rfl dc rfl rfl (zag rfl dc rfl ?_))
  refine zaV (s := 17) rfl (fun hb2 => ?_) (fun hb2 => ?_)
  ·
   have h := za6 hb2 h
   refine zae rfl dc (zae rfl dc (zae rfl dc (zas (b := true) rfl dc rfl rfl (zag rfl dc rfl (zae rfl dc (zae rfl dc (zae rfl dc (zas (b := true) rfl dc rfl rfl (zan (zaf (zaY rfl (zap (zad ?_)))))))))))))
   refine zai rfl dc rfl (zan (zaf (zaE (zav ?_))))
   cases h
   exact zaM (rs := [.tmp 0]) () (.inl rfl) Tryd.results12 (.cons (.tmp rfl) .nil) rfl Splits.nil
  ·
   have h := za7 hb2 h
   refine zag rfl dc rfl ?_
   obtain ⟨r3, hq4, h⟩ := zbT h
   refine zbB (v := zI r3) (vs := [zP b2]) (Rd.nil : Rd _ _ []) rfl dc rfl rfl rfl zmp (zdz (bp1 := b2) (p1 := p1) (p1_h0 := hd1) (p1_h1 := hd2) hq4) (.own (zak [2] (by kernel_rfl) rfl) (fun _ _ h => sepL.one1.1 h) (.own (zak [3] (by kernel_rfl) rfl) (fun _ _ h => sepL.one1.1 h) (.own (zak [4] (by kernel_rfl) rfl) (fun _ _ h => sepL.one1.1 h) .nil))) ?_
   refine zaz rfl dc rfl rfl zbk (zas (b := false) rfl dc rfl rfl (zag rfl dc rfl ?_))
   refine zaV (s := 22) rfl (fun hb3 => ?_) (fun hb3 => ?_)
   ·
    have h := za6 hb3 h
    refine zae rfl dc (zae rfl dc (zae rfl dc (zas (b := true) rfl dc rfl rfl (zan (zaf (zaY rfl (zap (zad (zai rfl dc rfl (zan (zaf (zaE (zav ?_)))))))))))))
    cases h
    exact zaM (rs := [.tmp 0]) () (.inl rfl) Tryd.results12 (.cons (.tmp rfl) .nil) rfl Splits.nil
   ·
    have h := za7 hb3 h
    refine zag rfl dc rfl ?_
    obtain ⟨r4, hq5, h⟩ := zbT h
    refine zbB (v := .string r4) (vs := [zP b2]) (Rd.nil : Rd _ _ []) rfl dc rfl rfl rfl znA (zeJ (bp1 := b2) (p1 := p1) (p1_h0 := hd1) (p1_h1 := hd2) hq5) (.own (zak [2] (by kernel_rfl) rfl) (fun _ _ h => sepL.one1.1 h) (.own (zak [3] (by kernel_rfl) rfl) (fun _ _ h => sepL.one1.1 h) (.own (zak [4] (by kernel_rfl) rfl) (fun _ _ h => sepL.one1.1 h) .nil))) ?_
    refine zaz rfl dc rfl rfl zdJ (zas (b := false) rfl dc rfl rfl (zan (zaf ?_)))
    refine zaF rfl (fun hb4 => ?_) (fun hb4 => ?_)
    ·
     have h := za6 hb4 h
     refine zap (zad (zai rfl dc rfl (zan (zaf (zaE (zav ?_))))))
     cases h
     exact zaM (rs := [.tmp 0]) () (.inl rfl) Tryd.results12 (.cons (.tmp rfl) .nil) rfl Splits.nil
    ·
     have h := za7 hb4 h
     refine zaI (zaf (zap (zad (zag rfl dc rfl ?_))))
     obtain ⟨r5, hq6, h⟩ := zbT h
     refine zcl (vs := [zP b2, zI 1, .string (⟨#[120]⟩ : ByteArray)]) (Rd.nil : Rd _ _ []) rfl dc rfl rfl rfl zkV (zc5 (bp1 := b2) (p1 := p1) (p1_h0 := hd1) (p1_h1 := hd2) hq6) Splits.nil (.own (zak [2] (by kernel_rfl) rfl) (fun _ _ h => sepL.one1.1 h) (.own (zak [3] (by kernel_rfl) rfl) (fun _ _ h => sepL.one1.1 h) (.own (zak [4] (by kernel_rfl) rfl) (fun _ _ h => sepL.one1.1 h) .nil))) ?_
     rintro v2
     show TO _ _ _ _ _ _ _ _ _ _ [emp, cells b1 [zI r1.2.Err, zI r1.2.At] 26, cells b2 [.string p1.told_title, hd1.v, hd2.v, .string p1.source] 93, vec zal 36 6 hd1.v p1.told_lines, vec zaq 34 2 hd2.v p1.told_stanzas, za5 zac zab 93 v2 r5.1]
     refine zbf (L' := [emp, cells b1 [zI r1.2.Err, zI r1.2.At] 26, cells b2 [.string p1.told_title, hd1.v, hd2.v, .string p1.source] 93, vec zal 36 6 hd1.v p1.told_lines, vec zaq 34 2 hd2.v p1.told_stanzas, za5 zac zab 93 v2 r5.1]) (zak [0, 1, 2, 3, 4, 5] kr rfl) (zag rfl dc rfl (zaL rfl dc rfl rfl (zaL rfl dc rfl rfl (zai rfl dc rfl (zai rfl dc rfl (zan (zaf (zap (zad (zag rfl dc rfl (zaz rfl dc rfl rfl zaW (zag rfl dc rfl ?_))))))))))))
     refine zaV (s := 34) rfl (fun hb5 => ?_) (fun hb5 => ?_)
     ·
      have h := za6 hb5 h
      refine zag rfl dc rfl ?_
      obtain ⟨p2, hq7, h⟩ := zbT h
      refine zfR (As := [za5 zac zab 93 v2 r5.1]) (zak [5] kr rfl) (zcT hq7) ?_
      rintro ⟨b3, hd3, hd4⟩ hv2
      subst hv2
      show TO _ _ _ _ _ _ _ _ _ _ [emp, cells b1 [zI r1.2.Err, zI r1.2.At] 26, cells b2 [.string p1.told_title, hd1.v, hd2.v, .string p1.source] 93, vec zal 36 6 hd1.v p1.told_lines, vec zaq 34 2 hd2.v p1.told_stanzas, emp, cells b3 [.string p2.told_title, hd3.v, hd4.v, .string p2.source] 93, vec zal 36 6 hd3.v p2.told_lines, vec zaq 34 2 hd4.v p2.told_stanzas]
      obtain ⟨r6, hq8, h⟩ := zbT h
      refine zbB (v := .string r6) (vs := [zP b3]) (Rd.nil : Rd _ _ []) rfl dc rfl rfl rfl zkW (zcy (bp1 := b3) (p1 := p2) (p1_h0 := hd3) (p1_h1 := hd4) hq8) (.own (zak [6] (by kernel_rfl) rfl) (fun _ _ h => sepL.one1.1 h) (.own (zak [7] (by kernel_rfl) rfl) (fun _ _ h => sepL.one1.1 h) (.own (zak [8] (by kernel_rfl) rfl) (fun _ _ h => sepL.one1.1 h) .nil))) ?_
      refine zaz rfl dc rfl rfl zel (zas (b := true) rfl dc rfl rfl (zag rfl dc rfl ?_))
      refine zaV (s := 39) rfl (fun hb6 => ?_) (fun hb6 => ?_)
      ·
       have h := za6 hb6 h
       refine zag rfl dc rfl (zag rfl dc rfl ?_)
       obtain ⟨r7, hq9, h⟩ := zbT h
       refine zbB (v := .bool r7) (vs := [zP b3, zP b2]) (Rd.nil : Rd _ _ []) rfl dc rfl rfl rfl zlK (ze1 (bp1 := b3) (p1 := p2) (p1_h0 := hd3) (p1_h1 := hd4) (bq1 := b2) (q1 := p1) (q1_h0 := hd1) (q1_h1 := hd2) hq9) (.own (zak [6] (by kernel_rfl) rfl) (fun _ _ h => sepL.one1.1 h) (.own (zak [7] (by kernel_rfl) rfl) (fun _ _ h => sepL.one1.1 h) (.own (zak [8] (by kernel_rfl) rfl) (fun _ _ h => sepL.one1.1 h) (.own (zak [2] (by kernel_rfl) rfl) (fun _ _ h => sepL.one1.1 h) (.own (zak [3] (by kernel_rfl) rfl) (fun _ _ h => sepL.one1.1 h) (.own (zak [4] (by kernel_rfl) rfl) (fun _ _ h => sepL.one1.1 h) .nil)))))) ?_
       refine zdZ rfl dc rfl zcG (zas (b := true) rfl dc rfl rfl (zag rfl dc rfl ?_))
       refine zaV (s := 45) rfl (fun hb7 => ?_) (fun hb7 => ?_)
       ·
        have h := za6 hb7 h
        refine zag rfl dc rfl (zag rfl dc rfl ?_)
        obtain ⟨r8, hq10, h⟩ := zbT h
        refine zbB (v := .bool r8) (vs := [zP b2, zP b2]) (Rd.nil : Rd _ _ []) rfl dc rfl rfl rfl zlK (ze1 (bp1 := b2) (p1 := p1) (p1_h0 := hd1) (p1_h1 := hd2) (bq1 := b2) (q1 := p1) (q1_h0 := hd1) (q1_h1 := hd2) hq10) (.own (zak [2] (by kernel_rfl) rfl) (fun _ _ h => sepL.one1.1 h) (.own (zak [3] (by kernel_rfl) rfl) (fun _ _ h => sepL.one1.1 h) (.own (zak [4] (by kernel_rfl) rfl) (fun _ _ h => sepL.one1.1 h) (.own (zak [2] (by kernel_rfl) rfl) (fun _ _ h => sepL.one1.1 h) (.own (zak [3] (by kernel_rfl) rfl) (fun _ _ h => sepL.one1.1 h) (.own (zak [4] (by kernel_rfl) rfl) (fun _ _ h => sepL.one1.1 h) .nil)))))) ?_
        refine zas (b := true) rfl dc rfl rfl (zai rfl dc rfl (zan (zaf (zaE ?_))))
        cases h
        exact zaM (rs := [.tmp 0]) () (.inl rfl) Tryd.results12 (.cons (.tmp rfl) .nil) rfl Splits.nil
       ·
        have h := za7 hb7 h
        refine zae rfl dc (zae rfl dc (zae rfl dc (zas (b := false) rfl dc rfl rfl (zai rfl dc rfl (zan (zaf (zaE ?_)))))))
        cases h
        exact zaM (rs := [.tmp 0]) () (.inl rfl) Tryd.results12 (.cons (.tmp rfl) .nil) rfl Splits.nil
      ·
       have h := za7 hb6 h
       refine zae rfl dc (zae rfl dc (zae rfl dc (zae rfl dc (zas (b := false) rfl dc rfl rfl (zag rfl dc rfl (zae rfl dc (zae rfl dc (zae rfl dc (zas (b := false) rfl dc rfl rfl (zai rfl dc rfl (zan (zaf (zaE ?_)))))))))))))
       cases h
       exact zaM (rs := [.tmp 0]) () (.inl rfl) Tryd.results12 (.cons (.tmp rfl) .nil) rfl Splits.nil
     ·
      have h := za7 hb5 h
      refine zae rfl dc (zae rfl dc (zae rfl dc (zas (b := false) rfl dc rfl rfl (zag rfl dc rfl (zae rfl dc (zae rfl dc (zae rfl dc (zae rfl dc (zas (b := false) rfl dc rfl rfl (zag rfl dc rfl (zae rfl dc (zae rfl dc (zae rfl dc ?_)))))))))))))
      refine zas (b := false) rfl dc rfl rfl (zai rfl dc rfl (zan (zaf (zaE ?_))))
      cases h
      exact zaM (rs := [.tmp 0]) () (.inl rfl) Tryd.results12 (.cons (.tmp rfl) .nil) rfl Splits.nil
end Go.Proofs.YtgfkogafkhbgnaaDoor
namespace Go.Proofs.YtgfkogafkhbgnaaDoor
open Go.RowKit Go.Lib
set_option linter.unusedVariables false
set_option linter.unusedSimpArgs false
theorem zjI (n : Nat) : Lib.repeatL [32] n = List.replicate n 32 := by
  induction n with
  | zero => rfl
  | succ n ih => rw [Lib.repeatL, ih, List.replicate_succ]; rfl
theorem zjf : ∀ x : List UInt8, List.replicate (ind x) 32 ++ x.drop (ind x) = x
  | [] => rfl
  | b :: x => by
    rw [zkk]
    by_cases h : b = 32
    · rw [if_pos h, List.replicate_succ, List.drop_succ_cons, List.cons_append, zjf x, h]
    · rw [if_neg h]; rfl
theorem zmS (x : List UInt8) : zca (ind x : Int) ++ mkB (x.drop (ind x)) = mkB x := by
  unfold zca
  rw [Int.toNat_natCast, zjI]
  have : (⟨(List.replicate (ind x) (32 : UInt8)).toArray⟩ : ByteArray) = mkB (List.replicate (ind x) 32) := rfl
  rw [this, zf8, zjf]
def zjX : Nat → List Gapi_Verse → List (Int × Gapi_Verse)
  | _, [] => []
  | i, v :: vs => ((i : Int), v) :: zjX (i + 1) vs
theorem zoC (p : Gpoem_Poem) (h : p.told_lines.length ≤ 4611686018427387904) : zcf p = some (zjX 0 p.told_lines) := by
  unfold zcf
  have key : ∀ (n i : Nat), i ≤ p.told_lines.length → p.told_lines.length - i < n → zbK (fun _ => none) (zbF p) n (i : Int) = some (zjX i (p.told_lines.drop i)) := by
    intro n
    induction n with
    | zero => intro i h1 h2; omega
    | succ n ih =>
      intro i hi hn
      rw [zdR]
      obtain ⟨ag, hag⟩ : ∃ ag, ag = zbK (fun _ => none) (zbF p) n := ⟨_, rfl⟩
      rw [← hag] at ih ⊢
      unfold zbF
      rcases Nat.lt_or_ge i p.told_lines.length with hl | hl
      · have hd := List.drop_eq_getElem_cons hl
        refine zdh (decide_eq_true (by omega)) (zes (zgs (List.getElem?_eq_getElem hl)) ?_)
        have h1 : (grd (I64 ((i : Int) + 1)) <| ag ((i : Int) + 1)) = some (zjX (i + 1) (p.told_lines.drop (i + 1))) := ziE ⟨by omega, by omega⟩ (by rw [show (i : Int) + 1 = ((i + 1 : Nat) : Int) by omega]; exact ih (i + 1) (by omega) (by omega))
        rw [h1, hd]; rfl
      · rw [List.drop_eq_nil_of_le hl]
        exact zc6 (decide_eq_false (by omega)) rfl
  have := key zdX 0 (Nat.zero_le _) (by unfold zdX; omega)
  rw [List.drop_zero] at this
  exact this
/-! ### Rows -/
abbrev LnE := Nat × Nat × List UInt8
def zeF (from_ to_ : Nat) : Nat → List LnE → List Row × Int → List Row × Int
  | _, [], a => a
  | i, p :: L, a =>
    if i < from_ ∨ to_ ≤ i then zeF from_ to_ (i + 1) L a
    else if (p.1 : Int) ≠ a.2 then zeF from_ to_ (i + 1) L (a.1 ++ [[p.2.2]], (p.1 : Int))
    else zeF from_ to_ (i + 1) L (a.1.dropLast ++ [zfe a.1 ++ [p.2.2]], a.2)
theorem zlp (from_ to_ : Nat) (d : (List (List ByteArray)) → Int → Option (List (List ByteArray))) : ∀ (L : List LnE) (vs : List Gapi_Verse) (i : Nat) (out : List Row) (s : Int), vs.map zoO = L.map zoP → (∀ p ∈ L, p.2.2.length ≤ 1024) → i + L.length ≤ 1000000 →
    out.length ≤ i → (∀ r ∈ out, r.length ≤ i) → (s ≠ -1 → out ≠ []) → zdf d (zbV from_ to_) (zjX i vs) (mkZ out) s = d (mkZ (zeF from_ to_ i L (out, s)).1) (zeF from_ to_ i L (out, s)).2
  | [], vs, i, out, s, hk, hx, hi, ho, hr, hs => by
    have : vs = [] := by cases vs with | nil => rfl | cons v vs => cases hk
    subst this; rfl
  | p :: L, vs, i, out, s, hk, hx, hi, ho, hr, hs => by
    cases vs with
    | nil => cases hk
    | cons v vs =>
      rw [List.map_cons, List.map_cons] at hk
      obtain ⟨hv, hk⟩ := List.cons.inj hk
      rw [List.length_cons] at hi
      have hv1 : v.Text = mkB (p.2.2.drop (ind p.2.2)) := congrArg (fun q => q.1) hv
      have hv2 : v.Indent = (ind p.2.2 : Int) := congrArg (fun q => q.2.1) hv
      have hv3 : v.Stanza = (p.1 : Int) := congrArg (fun q => q.2.2.1) hv
      have hxl := hx p (by simp)
      have hil := zon p.2.2
      show zdf d _ (((i : Int), v) :: zjX (i + 1) vs) _ _ = _
      rw [zjJ]
      have ih := fun out s h1 h2 h3 => zlp from_ to_ d L vs (i + 1) out s hk (fun q hq => hx q (by simp [hq])) (by omega) h1 h2 h3
      obtain ⟨ag, hag⟩ : ∃ ag, ag = zdf d (zbV from_ to_) (zjX (i + 1) vs) := ⟨_, rfl⟩
      rw [← hag] at ih ⊢
      unfold zbV zeF
      by_cases h1 : i < from_
      · rw [if_pos (.inl h1)]
        exact zdh (decide_eq_true (by show (i : Int) < _; omega)) (ih out s (by omega) (fun r h => by have := hr r h; omega) hs)
      · refine zc6 (decide_eq_false (by show ¬ (i : Int) < _; omega)) ?_
        by_cases h2 : to_ ≤ i
        · rw [if_pos (.inr h2)]
          exact zdh (decide_eq_true (by show _ ≤ (i : Int); omega)) (ih out s (by omega) (fun r h => by have := hr r h; omega) hs)
        · rw [if_neg (by omega)]
          refine zc6 (decide_eq_false (by show ¬ _ ≤ (i : Int); omega)) (zhd ?_)
          have tail : ∀ (z : List Row) (s' : Int), z ≠ [] → z.length ≤ i + 1 → (∀ r ∈ z, r.length ≤ i) → s' ≠ -1 → (grd (I64 (((mkZ z).length : Int) - 1)) <|
              zaO (zfH (mkZ z) (((mkZ z).length : Int) - 1)) fun (x2 : List ByteArray) =>
              grd (0 ≤ v.Indent ∧ v.Indent ≤ 140737488355328) <|
              grd ((zca v.Indent).size + v.Text.size ≤ 9223372036854775807) <|
              grd (x2.length + 1 ≤ 2147483648) <|
              ag ((mkZ z).set (((mkZ z).length : Int) - 1 : Int).toNat (x2 ++ [(zca v.Indent) ++ v.Text])) s') = d (mkZ (zeF from_ to_ (i + 1) L (z.dropLast ++ [zfe z ++ [p.2.2]], s')).1) (zeF from_ to_ (i + 1) L (z.dropLast ++ [zfe z ++ [p.2.2]], s')).2 := fun z s' hz hzl hzr hs' => by
            obtain ⟨w, r, rfl⟩ : ∃ w r, z = w ++ [r] := ⟨_, _, zhH hz⟩
            have hl9 : zfe (w ++ [r]) = r := by unfold zfe; rw [List.getLastD_concat]
            rw [List.dropLast_concat, hl9]
            rw [List.length_append, List.length_singleton] at hzl
            have hlen : (mkZ (w ++ [r])).length = w.length + 1 := by rw [zfG, List.length_append, List.length_singleton]
            have hg : zfH (mkZ (w ++ [r])) (((mkZ (w ++ [r])).length : Int) - 1) = some (r.map mkB) := by
              refine zng (n := w.length) (by rw [hlen]; omega) ?_
              rw [ziC, List.getElem?_append_right (by rw [zfG]; exact Nat.le_refl _), zfG, Nat.sub_self]; rfl
            have hll : r.length ≤ i := hzr _ (by simp)
            refine ziE ⟨by omega, by rw [hlen]; omega⟩ (zes hg (ziE ⟨by rw [hv2]; omega, by rw [hv2]; omega⟩ ?_))
            rw [hv1, hv2, zmS]
            have hsz : (zca (ind p.2.2 : Int)).size + (mkB (p.2.2.drop (ind p.2.2))).size ≤ 9223372036854775807 := by
              have : (zca (ind p.2.2 : Int) ++ mkB (p.2.2.drop (ind p.2.2))).size = (mkB p.2.2).size := by rw [zmS]
              rw [ByteArray.size_append, zcJ p.2.2] at this
              omega
            refine ziE hsz (ziE (by rw [List.length_map]; omega) ?_)
            have es : (mkZ (w ++ [r])).set (((mkZ (w ++ [r])).length : Int) - 1 : Int).toNat (r.map mkB ++ [mkB p.2.2]) = mkZ (w ++ [r ++ [p.2.2]]) := by
              rw [show (((mkZ (w ++ [r])).length : Int) - 1 : Int).toNat = (mkZ w).length by rw [hlen, zfG]; omega, ziC]
              show ((mkZ w ++ [r.map mkB]).set _ _) = _
              rw [zl8, ziC]
              show _ = _ ++ [(r ++ [p.2.2]).map mkB]
              rw [List.map_append]; rfl
            rw [es]
            refine ih _ s' (by rw [List.length_append, List.length_singleton]; omega) (fun r' h => ?_) (fun _ => by simp)
            rcases List.mem_append.1 h with h | h
            · have := hzr r' (by simp [h]); omega
            · rw [List.mem_singleton] at h; subst h; rw [List.length_append, List.length_singleton]; omega
          by_cases h3 : (p.1 : Int) = s
          · rw [if_neg (by simpa using h3)]
            refine zc6 (by rw [hv3, h3]; exact bne_self_eq_false _) ?_
            refine tail out s (hs (by omega)) (by omega) (fun r h => by have := hr r h; omega) (by omega)
          · rw [if_pos h3]
            refine zdh (by rw [hv3]; exact bne_iff_ne.2 h3) (ziE (by rw [zfG]; omega) ?_)
            have h5 := tail (out ++ [[]]) (p.1 : Int) (by simp) (by rw [List.length_append, List.length_singleton]; omega) (fun r h => by
              rcases List.mem_append.1 h with h | h
              · exact hr r h
              · rw [List.mem_singleton] at h; subst h; exact Nat.zero_le _) (by omega)
            have h6 : zfe (out ++ [[]]) = [] := by unfold zfe; rw [List.getLastD_concat]
            rw [List.dropLast_concat, h6, ziC] at h5
            refine Eq.trans ?_ h5
            rw [hv3]; rfl
/-! ### What is cut out -/
def zk4 (from_ to_ : Nat) : Nat → Row → Row
  | _, [] => []
  | at_, x :: r => if from_ ≤ at_ ∧ at_ < to_ then x :: zk4 from_ to_ (at_ + 1) r else zk4 from_ to_ (at_ + 1) r
def znX (from_ to_ : Nat) : Nat → List Row → List Row
  | _, [] => []
  | at_, r :: z => (if zk4 from_ to_ at_ r = [] then [] else [zk4 from_ to_ at_ r]) ++ znX from_ to_ (at_ + r.length) z
theorem zjl : ∀ (r : Row) (j : Nat), (zfK j r).length = r.length
  | [], j => rfl
  | x :: r, j => by show (zfK (j + 1) r).length + 1 = _; rw [zjl r]; rfl
theorem zhN : ∀ (z : List Row) (k : Nat), (zff k z).length = tot z
  | [], k => rfl
  | r :: z, k => by
    show ((zfK 0 r).map _ ++ zff (k + 1) z).length = _
    rw [List.length_append, List.length_map, zjl, zhN z, zix]
theorem ziB (from_ to_ k : Nat) (out : List Row) : ∀ (r : Row) (j at_ : Nat) (acc : Row) (L : List LnE), zeF from_ to_ at_ ((zfK j r).map (fun p => (k, p)) ++ L) (out ++ [acc], (k : Int)) = zeF from_ to_ (at_ + r.length) L (out ++ [acc ++ zk4 from_ to_ at_ r], (k : Int))
  | [], j, at_, acc, L => by
    show zeF from_ to_ at_ L _ = zeF from_ to_ at_ L (out ++ [acc ++ []], _)
    rw [List.append_nil]
  | x :: r, j, at_, acc, L => by
    show zeF from_ to_ at_ ((k, j, x) :: ((zfK (j + 1) r).map (fun p => (k, p)) ++ L)) _ = _
    rw [zeF, zk4, List.length_cons, show at_ + (r.length + 1) = at_ + 1 + r.length by omega]
    by_cases h : from_ ≤ at_ ∧ at_ < to_
    · rw [if_neg (by omega), if_neg (by simp), if_pos h]
      show zeF from_ to_ (at_ + 1) _ ((out ++ [acc]).dropLast ++ [zfe (out ++ [acc]) ++ [x]], (k : Int)) = _
      have h6 : zfe (out ++ [acc]) = acc := by unfold zfe; rw [List.getLastD_concat]
      rw [List.dropLast_concat, h6, ziB from_ to_ k out r (j + 1) (at_ + 1) (acc ++ [x]) L, List.append_assoc]; rfl
    · rw [if_pos (by omega), if_neg h, ziB from_ to_ k out r (j + 1) (at_ + 1) acc L]
theorem zi6 (from_ to_ k : Nat) (out : List Row) (s : Int) (hs : s ≠ (k : Int)) : ∀ (r : Row) (j at_ : Nat) (L : List LnE), zeF from_ to_ at_ ((zfK j r).map (fun p => (k, p)) ++ L) (out, s) =
    if zk4 from_ to_ at_ r = [] then zeF from_ to_ (at_ + r.length) L (out, s) else zeF from_ to_ (at_ + r.length) L (out ++ [zk4 from_ to_ at_ r], (k : Int))
  | [], j, at_, L => by rw [show zk4 from_ to_ at_ [] = [] from rfl, if_pos rfl]; rfl
  | x :: r, j, at_, L => by
    show zeF from_ to_ at_ ((k, j, x) :: ((zfK (j + 1) r).map (fun p => (k, p)) ++ L)) _ = _
    rw [zeF, zk4, List.length_cons, show at_ + (r.length + 1) = at_ + 1 + r.length by omega]
    by_cases h : from_ ≤ at_ ∧ at_ < to_
    · rw [if_neg (by omega), if_pos (by show (k : Int) ≠ s; omega), if_pos h, if_neg (by simp)]
      exact ziB from_ to_ k out r (j + 1) (at_ + 1) [x] L
    · rw [if_pos (by omega), if_neg h, zi6 from_ to_ k out s hs r (j + 1) (at_ + 1) L]
theorem zhA (from_ to_ : Nat) : ∀ (z : List Row) (k at_ : Nat) (out : List Row) (s : Int), s < (k : Int) → (zeF from_ to_ at_ (zff k z) (out, s)).1 = out ++ znX from_ to_ at_ z
  | [], k, at_, out, s, hs => (List.append_nil _).symm
  | r :: z, k, at_, out, s, hs => by
    show (zeF from_ to_ at_ ((zfK 0 r).map (fun p => (k, p)) ++ zff (k + 1) z) (out, s)).1 = _
    rw [zi6 from_ to_ k out s (by omega), znX]
    split
    · rw [zhA from_ to_ z (k + 1) _ out s (by omega)]; rfl
    · rw [zhA from_ to_ z (k + 1) _ _ (k : Int) (by omega), List.append_assoc]
theorem zjs (to_ : Nat) : ∀ (r : Row) (at_ : Nat), at_ + r.length ≤ to_ → zk4 0 to_ at_ r = r
  | [], at_, h => rfl
  | x :: r, at_, h => by
    rw [List.length_cons] at h
    rw [zk4, if_pos ⟨Nat.zero_le _, by omega⟩, zjs to_ r (at_ + 1) (by omega)]
theorem zjr (to_ : Nat) : ∀ (z : List Row) (at_ : Nat), (∀ r ∈ z, r ≠ []) → at_ + tot z ≤ to_ → znX 0 to_ at_ z = z
  | [], at_, hne, h => rfl
  | r :: z, at_, hne, h => by
    rw [zix] at h
    rw [znX, zjs to_ r at_ (by omega), if_neg (hne r (by simp)), zjr to_ z (at_ + r.length) (fun y hy => hne y (by simp [hy])) (by omega)]
    rfl
/-! ### A poem -/
structure OkP (p : Gpoem_Poem) (t : List UInt8) (z : List Row) : Prop extends GoodP t z where
  title : p.told_title = mkB t
  vok : VOk p.told_lines z
  sp : p.told_stanzas = zl5 0 z
  most : tot z ≤ 512
theorem OkP.len {p : Gpoem_Poem} {t : List UInt8} {z : List Row} (h : OkP p t z) : p.told_lines.length = tot z := by
  have := congrArg List.length h.vok
  rw [List.length_map, List.length_map, zhN] at this
  exact this
theorem PInv.ok {st : RS} (h : PInv st) (src : ByteArray) : OkP (⟨mkB st.t, st.vs, zl5 0 st.stz, src⟩ : Gpoem_Poem) st.t st.stz := ⟨h.good, rfl, h.vok, rfl, by have := h.tot; have := h.most; omega⟩
theorem zjc : ∀ (r : Row) (j : Nat) (p : Nat × List UInt8), p ∈ zfK j r → p.2 ∈ r
  | [], j, p, h => by cases h
  | x :: r, j, p, h => by
    rcases List.mem_cons.1 h with rfl | h
    · simp
    · exact List.mem_cons_of_mem _ (zjc r _ p h)
theorem zjb : ∀ (z : List Row) (k : Nat) (p : LnE), p ∈ zff k z → ∃ r ∈ z, p.2.2 ∈ r
  | [], k, p, h => by cases h
  | r :: z, k, p, h => by
    rcases List.mem_append.1 (show p ∈ (zfK 0 r).map (fun p => (k, p)) ++ zff (k + 1) z from h) with h | h
    · obtain ⟨q, hq, rfl⟩ := List.mem_map.1 h
      exact ⟨r, by simp, zjc r 0 q hq⟩
    · obtain ⟨r', h1, h2⟩ := zjb z _ p h
      exact ⟨r', by simp [h1], h2⟩
theorem zof {p : Gpoem_Poem} {t : List UInt8} {z : List Row} (h : OkP p t z) (from_ to_ : Nat) : zb9 p (from_ : Int) (to_ : Int) = some (mkZ (znX from_ to_ 0 z)) := by
  unfold zb9
  have hm := h.most
  refine zhd (zes rfl (zes (zoC p (by rw [h.len]; omega)) (zhd ?_)))
  have := zlp from_ to_ (fun (out4 : List (List ByteArray)) (stanza3 : Int) => some out4) (zff 0 z) p.told_lines 0 [] (-1) h.vok (fun q hq => by
    obtain ⟨r, h1, h2⟩ := zjb z 0 q hq
    exact (h.ln r h1 _ h2).le) (by rw [zhN]; omega) (Nat.zero_le _) (fun r h => by cases h) (fun h => absurd rfl h)
  refine this.trans ?_
  rw [zhA from_ to_ z 0 0 [] (-1) (by omega)]
  rfl
theorem zmI : ∀ (r : Row), (∀ x ∈ r, x.length ≤ 1024) → wtR r ≤ r.length * 1025
  | [], h => Nat.zero_le _
  | x :: r, h => by
    have h1 := zmI r fun y hy => h y (by simp [hy])
    have h2 := h x (by simp)
    rw [zhl, List.length_cons]; omega
theorem zmH : ∀ (z : List Row), (∀ r ∈ z, ∀ x ∈ r, x.length ≤ 1024) → wtZ z ≤ z.length + tot z * 1025
  | [], h => Nat.zero_le _
  | r :: z, h => by
    have h1 := zmH z fun y hy => h y (by simp [hy])
    have h2 := zmI r (h r (by simp))
    rw [zir, zix, List.length_cons]; omega
theorem OkP.wt {p : Gpoem_Poem} {t : List UInt8} {z : List Row} (h : OkP p t z) : t.length + 3 + wtZ z ≤ 1000000 := by
  have h1 := zmH z fun r hr x hx => (h.ln r hr x hx).le
  have h2 := zmJ z h.ne
  have h3 := h.most
  have h4 := h.tL
  omega
theorem OkP.full {p : Gpoem_Poem} {t : List UInt8} {z : List Row} (h : OkP p t z) : zb9 p 0 (p.told_lines.length : Int) = some (mkZ z) := by
  have := zof h 0 p.told_lines.length
  rw [zjr _ z 0 h.ne (by rw [h.len]; omega)] at this
  exact this
theorem zoL {p : Gpoem_Poem} {t : List UInt8} {z : List Row} (h : OkP p t z) : zbH p = some (mkB (prT t z)) := by
  unfold zbH
  have := h.wt
  refine zes h.full (zes ?_ rfl)
  rw [h.title]
  exact zlr t z h.ne (by omega)
end Go.Proofs.YtgfkogafkhbgnaaDoor
namespace Go.Proofs.YtgfkogafkhbgnaaDoor
open Go.RowKit Go.Lib
set_option linter.unusedVariables false
set_option linter.unusedSimpArgs false
instance {a b : List (ByteArray × Int × Int)} : Decidable (a = b) := inferInstance
end Go.Proofs.YtgfkogafkhbgnaaDoor
namespace Go.Proofs.YtgfkogafkhbgnaaDoor
open Go.RowKit Go.Lib
set_option linter.unusedVariables false
set_option linter.unusedSimpArgs false
end Go.Proofs.YtgfkogafkhbgnaaDoor
namespace Go.Proofs.YtgfkogafkhbgnaaDoor
open Go.RowKit Go.Lib

def zlJ (r : Int) : Bool := decide (r % 2 = 0)
def zjh (r : Int) : Prop :=
  (65 ≤ r ∧ r ≤ 90) ∨ (0xC0 ≤ r ∧ r ≤ 0xDE ∧ r ≠ 0xD7) ∨ (((0x100 ≤ r ∧ r ≤ 0x137) ∨ (0x14A ≤ r ∧ r ≤ 0x177)) ∧ r % 2 = 0) ∨ (0x139 ≤ r ∧ r ≤ 0x148 ∧ r % 2 = 1) ∨ r = 0x178 ∨
  (0x179 ≤ r ∧ r ≤ 0x17D ∧ r % 2 = 1) ∨ (0x386 ≤ r ∧ r ≤ 0x38F ∧ r ≠ 0x387 ∧ r ≠ 0x38B ∧ r ≠ 0x38D) ∨ (0x391 ≤ r ∧ r ≤ 0x3AB ∧ r ≠ 0x3A2) ∨ (0x400 ≤ r ∧ r ≤ 0x42F)
instance (r : Int) : Decidable (zjh r) := by unfold zjh; infer_instance
def zmi (r : Int) : Bool := decide (zjh r)
def zi1 (r : Int) : Prop :=
  (97 ≤ r ∧ r ≤ 122) ∨ (0xDF ≤ r ∧ r ≤ 0xFF ∧ r ≠ 0xF7) ∨ (((0x100 ≤ r ∧ r ≤ 0x137) ∨ (0x14A ≤ r ∧ r ≤ 0x177)) ∧ r % 2 = 1) ∨ r = 0x138 ∨ r = 0x149 ∨ r = 0x17F ∨ r = 0x390 ∨
  (0x139 ≤ r ∧ r ≤ 0x148 ∧ r % 2 = 0) ∨ (0x17A ≤ r ∧ r ≤ 0x17E ∧ r % 2 = 0) ∨ (0x3AC ≤ r ∧ r ≤ 0x3CE) ∨ (0x430 ≤ r ∧ r ≤ 0x45F)
instance (r : Int) : Decidable (zi1 r) := by unfold zi1; infer_instance
def zl7 (r : Int) : Bool := decide (zi1 r)
def zly (r : Int) : Bool := zmi r || zl7 r
def zpR (r : Int) : Int :=
  if r = 0xFF then 0xFF - 0x178
  else if r < 0x100 ∨ (0x3B1 ≤ r ∧ r ≤ 0x3CB) ∨ (0x430 ≤ r ∧ r ≤ 0x44F) then 0x20
  else if r ≤ 0x17F then 1
  else if r = 0x3AC then 0x3AC - 0x386
  else if 0x3AD ≤ r ∧ r ≤ 0x3AF then 0x25
  else if r = 0x3CC then 0x40
  else if r = 0x3CD ∨ r = 0x3CE then 0x3F
  else 0x50
def zom (r : Int) : Int :=
  if r < 0 ∨ (0xD800 ≤ r ∧ r ≤ 0xDFFF) ∨ 0x10FFFF < r then 0
  else if zly r then 1
  else if 0x300 ≤ r ∧ r ≤ 0x36F then 2
  else if 48 ≤ r ∧ r ≤ 57 then 3
  else if r = 10 ∨ r = 13 then 4
  else if r = 9 ∨ r = 32 ∨ r = 0xA0 ∨ r = 0x202F ∨ r = 0x205F ∨ r = 0x3000 then 5
  else if r = 45 ∨ (0x2010 ≤ r ∧ r ≤ 0x2015) then 6
  else if r = 34 ∨ r = 39 ∨ r = 0xAB ∨ r = 0xBB ∨ r = 0x2039 ∨ r = 0x203A then 7
  else if r = 33 ∨ r = 44 ∨ r = 46 ∨ r = 58 ∨ r = 59 ∨ r = 63 ∨ r = 0xA1 ∨ r = 0xB7 ∨ r = 0xBF ∨ r = 0x2026 then 8
  else if 0x2000 ≤ r ∧ r ≤ 0x200A then 5
  else if 0x2018 ≤ r ∧ r ≤ 0x201F then 7
  else if r < 0x20 ∨ (0x7F ≤ r ∧ r ≤ 0x9F) ∨ (0x200B ≤ r ∧ r ≤ 0x200F) ∨ r = 0xFEFF then 9
  else 10
def kind (r : Int) : Int := zom r

theorem zlD (r : Int) : zmi r = true ↔ zjh r := by simp [zmi]
theorem zlf (r : Int) : zl7 r = true ↔ zi1 r := by simp [zl7]

end Go.Proofs.YtgfkogafkhbgnaaDoor
namespace Go.Proofs.YtgfkogafkhbgnaaDoor
open Go.RowKit Go.Lib Go.Shelf
set_option linter.unusedVariables false
set_option linter.unusedSimpArgs false

theorem zpS (r : Int) (h0 : -2147483648 ≤ r) (h1 : r ≤ 2147483647) : (bits BinOp.and IntKind.i32 r 1 == 0) = zlJ r := by
  have hk : bits .and .i32 r 1 = r % 2 := by
    have h1 : (BitVec.ofInt 32 1).toNat = 2 ^ 1 - 1 := by decide
    have key : (BitVec.ofInt 32 r &&& BitVec.ofInt 32 1).toNat = (r % ((2 ^ 32 : Nat) : Int)).toNat % 2 ^ 1 := by
      rw [BitVec.toNat_and, BitVec.toNat_ofInt, h1, Nat.and_two_pow_sub_one_eq_mod]
    show IntKind.i32.wrap ((BitVec.ofInt 32 r &&& BitVec.ofInt 32 1).toNat : Nat) = r % 2
    rw [key, IntKind.wrap_i32]
    omega
  rw [hk, zlJ, Bool.eq_iff_iff]
  simp
theorem zkq (r : Int) (w : World) (h0 : -2147483648 ≤ r) (h1 : r ≤ 2147483647) :
    Calls Tryd.prog 124 #[.int .i32 r] w fun e w' => e = .returned (.bool (zlJ r)) ∧ w = w' := by
  go_enter Tryd.func124, Tryd.ntmps124
  go_wp2
  go_ret
  exact ⟨zgn (zpS r h0 h1), rfl⟩

set_option maxHeartbeats 1000000 in
theorem zlE (r : Int) (w : World) (h0 : -2147483648 ≤ r) (h1 : r ≤ 2147483647) :
    Calls Tryd.prog 122 #[.int .i32 r] w fun e w' => e = .returned (.bool (zmi r)) ∧ w = w' := by
  go_enter Tryd.func122, Tryd.ntmps122
  go_wp2_with (go_at_call 124; refine (zkq _ _ (by omega) (by omega)).mono ?_; rintro e w' ⟨rfl, rfl⟩)
  all_goals
    go_ret
    refine ⟨zgn ?_, rfl⟩
    (go_light; rw [Bool.eq_iff_iff]; (try simp only [zlD, zjh, zlJ, decide_eq_true_eq, bne_iff_ne, ne_eq, Bool.not_eq_true', decide_eq_false_iff_not, Bool.and_eq_true, Bool.or_eq_true, Bool.or_eq_false_iff, Bool.and_eq_false_iff, bne_eq_false_iff_eq, beq_iff_eq, beq_eq_false_iff_ne, Bool.false_eq_true, false_iff, true_iff, iff_true, iff_false, Bool.not_eq_false', Bool.not_true, Bool.not_false] at *); omega)

set_option maxHeartbeats 1000000 in
theorem zlg (r : Int) (w : World) (h0 : -2147483648 ≤ r) (h1 : r ≤ 2147483647) :
    Calls Tryd.prog 123 #[.int .i32 r] w fun e w' => e = .returned (.bool (zl7 r)) ∧ w = w' := by
  go_enter Tryd.func123, Tryd.ntmps123
  go_wp2_with (go_at_call 124; refine (zkq _ _ (by omega) (by omega)).mono ?_; rintro e w' ⟨rfl, rfl⟩)
  all_goals
    go_ret
    refine ⟨zgn ?_, rfl⟩
    (go_light; rw [Bool.eq_iff_iff]; (try simp only [zlf, zi1, zlJ, decide_eq_true_eq, bne_iff_ne, ne_eq, Bool.not_eq_true', decide_eq_false_iff_not, Bool.and_eq_true, Bool.or_eq_true, Bool.or_eq_false_iff, Bool.and_eq_false_iff, bne_eq_false_iff_eq, beq_iff_eq, beq_eq_false_iff_ne, Bool.false_eq_true, false_iff, true_iff, iff_true, iff_false, Bool.not_eq_false', Bool.not_true, Bool.not_false] at *); omega)

theorem zkO (r : Int) (w : World) (h0 : -2147483648 ≤ r) (h1 : r ≤ 2147483647) :
    Calls Tryd.prog 120 #[.int .i32 r] w fun e w' => e = .returned (.bool (zly r)) ∧ w = w' := by
  go_enter Tryd.func120, Tryd.ntmps120
  go_wp2_with (first | (go_at_call 122; refine (zlE _ _ (by omega) (by omega)).mono ?_; rintro e w' ⟨rfl, rfl⟩) | (go_at_call 123; refine (zlg _ _ (by omega) (by omega)).mono ?_; rintro e w' ⟨rfl, rfl⟩))
  all_goals
    go_ret
    refine ⟨zgn ?_, rfl⟩
    go_light
    simp_all [zly]

theorem zmf (r : Int) (w : World) (h0 : -2147483648 ≤ r) (h1 : r ≤ 2147483647) :
    Calls Tryd.prog 121 #[.int .i32 r] w fun e w' => e = .returned (.bool (decide (0x300 ≤ r ∧ r ≤ 0x36F))) ∧ w = w' := by
  go_enter Tryd.func121, Tryd.ntmps121
  go_wp2
  all_goals
    go_ret
    refine ⟨zgn ?_, rfl⟩
    (go_light; rw [Bool.eq_iff_iff]; simp only [decide_eq_true_eq, bne_iff_ne, ne_eq, Bool.not_eq_true', decide_eq_false_iff_not, Bool.and_eq_true, Bool.or_eq_true, Bool.or_eq_false_iff, Bool.and_eq_false_iff, bne_eq_false_iff_eq, beq_iff_eq, beq_eq_false_iff_ne, Bool.false_eq_true, false_iff, true_iff, iff_true, iff_false, Bool.not_eq_false', Bool.not_true, Bool.not_false] at *; omega)

end Go.Proofs.YtgfkogafkhbgnaaDoor
namespace Go.Proofs.YtgfkogafkhbgnaaDoor
open Go.RowKit Go.Lib Go.Shelf
set_option linter.unusedVariables false
set_option linter.unusedSimpArgs false

theorem zkj (r : Int) (w : World) (h0 : -2147483648 ≤ r) (h1 : r ≤ 2147483647) :
    Calls Tryd.prog 115 #[.int .i32 r] w fun e w' => e = .returned (.int .i64 (kind r)) ∧ w = w' := by
  go_enter Tryd.func115, Tryd.ntmps115
  go_wp2_with (first | (go_at_call 120; refine (zkO _ _ (by omega) (by omega)).mono ?_; rintro e w' ⟨rfl, rfl⟩) | (go_at_call 121; refine (zmf _ _ (by omega) (by omega)).mono ?_; rintro e w' ⟨rfl, rfl⟩))
  all_goals
    go_ret
    refine ⟨zjH ?_, rfl⟩
    go_light
    try simp only [decide_eq_true_eq, bne_iff_ne, ne_eq, Bool.not_eq_true', decide_eq_false_iff_not, Bool.and_eq_true, Bool.or_eq_true, Bool.or_eq_false_iff, Bool.and_eq_false_iff, bne_eq_false_iff_eq, beq_iff_eq, beq_eq_false_iff_ne, Bool.false_eq_true, false_iff, true_iff, iff_true, iff_false, Bool.not_eq_false', Bool.not_true, Bool.not_false] at *
    grind [kind, zom]

/-- A piece's kind. -/
def zjd (b : Bool) (r : Int) : Int := if b then 11 else kind r

theorem zol (i wd r : Int) (b : Bool) (w : World) (h0 : -2147483648 ≤ r) (h1 : r ≤ 2147483647) :
    Calls Tryd.prog 105 #[.agg #[.int .i64 i, .int .i64 wd, .int .i32 r, .bool b]] w fun e w' => e = .returned (.int .i64 (zjd b r)) ∧ Below w.heap.size w w' := by
  cases b
  · go_enter Tryd.func105, Tryd.ntmps105
    go_wp2_with (go_at_call 115; refine (zkj _ _ (by omega) (by omega)).mono ?_; rintro e w' ⟨rfl, rfl⟩)
    go_ret
    exact ⟨zjH (by simp [zjd]), (Below.refl _ _).alloc (Nat.le_refl _) _⟩
  · go_enter Tryd.func105, Tryd.ntmps105
    go_wp2_with (go_at_call 115; refine (zkj _ _ (by omega) (by omega)).mono ?_; rintro e w' ⟨rfl, rfl⟩)
    go_ret
    exact ⟨zjH (by simp [zjd]), (Below.refl _ _).alloc (Nat.le_refl _) _⟩


end Go.Proofs.YtgfkogafkhbgnaaDoor
namespace Go.Proofs.YtgfkogafkhbgnaaDoor
open Go.RowKit Go.Lib Go.Shelf
attribute [local go_sem] Oper.semAt_some zk9 zh9 zia
set_option linter.unusedVariables false
set_option linter.unusedSimpArgs false

theorem zii : ∀ (f i : Nat) (l : List UInt8), ∀ p ∈ zkM f i l, p.r ≤ 1114111
  | 0, _, _, p, h => by simp [zkM] at h
  | f + 1, i, l, p, h => by
    unfold zkM at h
    split at h
    · simp at h
    · rcases List.mem_cons.1 h with rfl | h
      · exact zj0 l
      · exact zii f _ _ p h
theorem zna (l : List UInt8) : ∀ p ∈ pcs l, p.r ≤ 1114111 := zii _ _ _
end Go.Proofs.YtgfkogafkhbgnaaDoor
namespace Go.Proofs.YtgfkogafkhbgnaaDoor
open Go.RowKit Go.Lib Go.Shelf
attribute [local go_sem] Oper.semAt_some
set_option linter.unusedVariables false
set_option linter.unusedSimpArgs false

end Go.Proofs.YtgfkogafkhbgnaaDoor
namespace Go.Proofs.YtgfkogafkhbgnaaDoor
open Go.RowKit Go.Lib

/-- A longest row of pieces of one kind. -/
structure Rn where
  f : Nat
  t : Nat
  k : Int
  deriving DecidableEq
def pk (p : Pc) : Int := zjd p.broken p.r
end Go.Proofs.YtgfkogafkhbgnaaDoor
namespace Go.Proofs.YtgfkogafkhbgnaaDoor
open Go.RowKit Go.Lib
set_option linter.unusedVariables false

/-- A piece's cells. -/
def pcV (p : Pc) : List Value := [.int .i64 p.i, .int .i64 p.w, .int .i32 p.r, .bool p.broken]
def pcA (p : Pc) : List Value := [.agg (pcV p).toArray]
theorem zok (i wd r : Int) (b : Bool) (h0 : -2147483648 ≤ r) (h1 : r ≤ 2147483647) : FnP Tryd.prog 105 [.agg #[.int .i64 i, .int .i64 wd, .int .i32 r, .bool b]] (.int .i64 (zjd b r)) := fun w => zol i wd r b w h0 h1
theorem Rw.vec {α : Type} {enc : α → List Value} {e : TypeId} {size : Nat} {v : Value} {L : List α} {w w' : World} (h : Rw enc w' w.heap.size e size v L) (hb : Below w.heap.size w w') :
    ∃ C', sepL [vec enc e size v L] C' w' ∧ Ext (fun _ => False) C' w w' := by
  refine ⟨fun k => v.ownBlock = some k, sepL.one ⟨znS h (Nat.zero_le _), rfl⟩, (zj7 hb).weaken (fun i hi h => by omega), fun k hk => .inr ?_⟩
  rcases h.shape with ⟨rfl, _⟩ | ⟨g, cap, rfl, h1, h2, _⟩
  · simp [Value.ownBlock] at hk
  · simp [Value.ownBlock] at hk; omega
end Go.Proofs.YtgfkogafkhbgnaaDoor
namespace Go.Proofs.YtgfkogafkhbgnaaDoor
open Go.RowKit Go.Lib
set_option linter.unusedVariables false

/-- A piece with the marks behind it. -/
structure Un where
  k : Int
  r : Nat
  f : Nat
  t : Nat
  al : Bool
  deriving DecidableEq
def zg7 (k : Int) : Bool := k == 11 || k == 4 || k == 9
def zkb (p : Pc) : Un := ⟨pk p, p.r, p.i, p.i + p.w, true⟩
def zeR : List Un × Option Un → Pc → List Un × Option Un
  | (E, none), p => (E, some (zkb p))
  | (E, some n), p => if pk p = 2 ∧ zg7 n.k = false then (E, some ⟨n.k, n.r, n.f, n.t + p.w, false⟩) else (E ++ [n], some (zkb p))
def zeY (L : List Pc) : List Un × Option Un := L.foldl zeR ([], none)
def zpO : List Un × Option Un → List Un
  | (E, none) => E
  | (E, some n) => E ++ [n]
def units (L : List Pc) : List Un := zpO (zeY L)
theorem zib (L : List Pc) (p : Pc) : zeY (L ++ [p]) = zeR (zeY L) p := by simp [zeY]
theorem zgi : ∀ (L : List Pc) (E : List Un) (o : Option Un), ∃ E', (L.foldl zeR (E, o)).1 = E ++ E'
  | [], E, o => ⟨[], by simp⟩
  | p :: L, E, o => by
    rcases o with _ | n
    · exact zgi L E (some (zkb p))
    · by_cases hk : pk p = 2 ∧ zg7 n.k = false
      · have : (p :: L).foldl zeR (E, some n) = L.foldl zeR (E, some ⟨n.k, n.r, n.f, n.t + p.w, false⟩) := by
          show L.foldl zeR (zeR (E, some n) p) = _
          simp only [zeR]; rw [if_pos hk]
        rw [this]; exact zgi L E _
      · have : (p :: L).foldl zeR (E, some n) = L.foldl zeR (E ++ [n], some (zkb p)) := by
          show L.foldl zeR (zeR (E, some n) p) = _
          simp only [zeR]; rw [if_neg hk]
        rw [this]
        obtain ⟨E', h⟩ := zgi L (E ++ [n]) (some (zkb p))
        exact ⟨n :: E', by rw [h]; simp⟩
theorem zka (pre post : List Pc) (x : Pc) (E : List Un) (n : Un) (h : zeY pre = (E, some n)) (hk : ¬ (pk x = 2 ∧ zg7 n.k = false)) : ∃ q, units (pre ++ x :: post) = E ++ n :: q := by
  have h1 : zeY (pre ++ x :: post) = (post.foldl zeR (E ++ [n], some (zkb x))) := by
    unfold zeY at *
    rw [List.foldl_append, h, List.foldl_cons]; simp only [zeR]; rw [if_neg hk]
  obtain ⟨E', h2⟩ := zgi post (E ++ [n]) (some (zkb x))
  unfold units; rw [h1]
  rcases hf : post.foldl zeR (E ++ [n], some (zkb x)) with ⟨F, _ | m⟩
  · rw [hf] at h2; exact ⟨E', by show F = _; simp only at h2; rw [h2]; simp⟩
  · rw [hf] at h2; exact ⟨E' ++ [m], by show F ++ [m] = _; simp only at h2; rw [h2]; simp⟩
theorem zgG (L : List Pc) (E : List Un) (n : Un) (h : zeY L = (E, some n)) : units L = E ++ [n] := by unfold units; rw [h]; rfl
/-- Where the pieces of a text end so far. -/
theorem zhu (l : List UInt8) : ∀ (k : Nat) (L B : List Pc), L.length ≤ k → pcs l = L ++ B → ∀ E n, zeY L = (E, some n) → n.f < n.t ∧ n.t ≤ l.length ∧ (∀ p, B[0]? = some p → p.i = n.t) ∧ (B = [] → n.t = l.length)
  | 0, L, B, hk, h, E, n, hr => by
    have : L = [] := List.eq_nil_of_length_eq_zero (by omega)
    subst this; simp [zeY] at hr
  | k + 1, L, B, hk, h, E, n, hr => by
    rcases List.eq_nil_or_concat L with rfl | ⟨D, p, rfl⟩
    · simp [zeY] at hr
    · rw [List.concat_eq_append] at h hr hk
      obtain ⟨h1, h2, _⟩ := zgK l p (by rw [h]; simp)
      obtain ⟨q1, q2, q3, q4⟩ := zhC l D p B (by rw [h]; simp)
      have hB : (∀ q, B[0]? = some q → q.i = p.i + p.w) ∧ (B = [] → p.i + p.w = l.length) := by
        by_cases hd' : l.drop (p.i + p.w) = []
        · rw [hd', zci] at q4
          subst q4
          refine ⟨fun q hq => by simp at hq, fun _ => ?_⟩
          have := congrArg List.length hd'
          simp at this; omega
        · rw [zcn _ _ hd'] at q4
          refine ⟨fun q hq => ?_, fun he => ?_⟩
          · rw [q4] at hq; simp at hq; rw [← hq]
          · rw [he] at q4; cases q4
      rw [zib] at hr
      rcases hd : zeY D with ⟨F, _ | m⟩
      · rw [hd] at hr; simp [zeR] at hr
        rw [← hr.2]; simp only [zkb]; exact ⟨by omega, by omega, hB.1, hB.2⟩
      · obtain ⟨h3, h4, h5, _⟩ := zhu l k D (p :: B) (by simp at hk; omega) (by rw [h]; simp) F m hd
        have h6 := h5 p rfl
        rw [hd] at hr
        simp only [zeR] at hr
        by_cases hk' : pk p = 2 ∧ zg7 m.k = false
        · rw [if_pos hk'] at hr
          simp at hr
          rw [← hr.2]; simp only; rw [← h6]; exact ⟨by omega, by omega, hB.1, hB.2⟩
        · rw [if_neg hk'] at hr
          simp at hr
          rw [← hr.2]; simp only [zkb]; exact ⟨by omega, by omega, hB.1, hB.2⟩

/-! ### The scanner -/
structure Tk where
  k : Int
  f : Nat
  t : Nat
  deriving DecidableEq
def zhc (u : Un) : Bool := u.al && (u.r == 0x27 || u.r == 0x2019 || u.r == 0x2D || u.r == 0x2010)
def dot (u : Un) : Bool := u.al && (u.r == 0x2C || u.r == 0x2E)
/-- The scanner's next state, and what becomes of a unit: 0 begins, 1 takes, 2 holds. -/
def zbM (st : Int) (u : Un) : Int × Int :=
  if st = 1 ∨ st = 2 then (if u.k = 1 then (1, 1) else if st = 1 ∧ zhc u = true then (2, 2) else (st, 0))
  else if st = 3 ∨ st = 4 then (if u.k = 3 then (3, 1) else if st = 3 ∧ dot u = true then (4, 2) else (st, 0))
  else if st = 5 then (if u.k = 5 then (5, 1) else (5, 0))
  else if st = 6 then (if u.k = 11 then (6, 1) else (6, 0))
  else if st = 8 then (if u.k = 4 ∧ u.r = 10 then (7, 1) else (8, 0))
  else (st, 0)
/-- State and token's kind that a unit begins. -/
def begins (u : Un) : Int × Int :=
  if u.k = 1 then (1, 1) else if u.k = 3 then (3, 2) else if u.k = 5 then (5, 3) else if u.k = 11 then (6, 7)
  else if u.k = 4 then (if u.r = 13 then 8 else 7, 4) else if u.k = 6 ∨ u.k = 7 ∨ u.k = 8 then (9, 5) else (9, 6)
structure Sc where
  st : Int
  tk : Tk
  h : Un
def zcv (s : Sc) : List Tk := if s.st = 0 then [] else if s.st = 2 ∨ s.st = 4 then [s.tk, ⟨5, s.h.f, s.h.t⟩] else [s.tk]
def began (s : Sc) (u : Un) : Sc := ⟨(begins u).1, ⟨(begins u).2, u.f, u.t⟩, s.h⟩
def zhb (S : List Tk × Sc) (u : Un) : List Tk × Sc :=
  if (zbM S.2.st u).2 = 2 then (S.1, ⟨(zbM S.2.st u).1, S.2.tk, u⟩)
  else if (zbM S.2.st u).2 = 1 then (S.1, ⟨(zbM S.2.st u).1, ⟨S.2.tk.k, S.2.tk.f, u.t⟩, S.2.h⟩)
  else (S.1 ++ zcv S.2, began S.2 u)
def sc0 : Sc := ⟨0, ⟨0, 0, 0⟩, ⟨0, 0, 0, 0, false⟩⟩
def zeA (us : List Un) : List Tk × Sc := us.foldl zhb ([], sc0)
def zk3 (us : List Un) : List Tk := (zeA us).1 ++ zcv (zeA us).2
theorem zkN (us : List Un) (u : Un) : zeA (us ++ [u]) = zhb (zeA us) u := by simp [zeA]
theorem zja : ∀ (us : List Un) (S : List Tk × Sc), ∃ q, (us.foldl zhb S).1 = S.1 ++ q
  | [], S => ⟨[], by simp⟩
  | u :: us, S => by
    obtain ⟨q, hq⟩ := zja us (zhb S u)
    simp only [List.foldl_cons]
    rw [hq]
    unfold zhb
    split
    · exact ⟨q, rfl⟩
    · split
      · exact ⟨q, rfl⟩
      · exact ⟨zcv S.2 ++ q, by simp⟩
theorem zhG (S : List Tk × Sc) (u : Un) (h1 : (zbM S.2.st u).2 ≠ 2) (h2 : (zbM S.2.st u).2 ≠ 1) : zhb S u = (S.1 ++ zcv S.2, began S.2 u) := by
  unfold zhb; rw [if_neg h1, if_neg h2]
/-- What the scanner tells as it meets a unit that begins a token is told of the whole. -/
theorem zm7 (pre post : List Un) (u : Un) (h : (zbM (zeA pre).2.st u).2 ≠ 2 ∧ (zbM (zeA pre).2.st u).2 ≠ 1) : ∃ q, zk3 (pre ++ u :: post) = (zeA pre).1 ++ zcv (zeA pre).2 ++ q := by
  have h1 : zeA (pre ++ u :: post) = post.foldl zhb ((zeA pre).1 ++ zcv (zeA pre).2, began (zeA pre).2 u) := by
    rw [← zhG _ _ h.1 h.2]
    simp [zeA, List.foldl_append]
  obtain ⟨q, hq⟩ := zja post ((zeA pre).1 ++ zcv (zeA pre).2, began (zeA pre).2 u)
  unfold zk3; rw [h1, hq]
  exact ⟨_, List.append_assoc _ _ _⟩

def rest (s : Sc) (us : List Un) : List Tk := (us.foldl zhb ([], s)).1 ++ zcv (us.foldl zhb ([], s)).2
end Go.Proofs.YtgfkogafkhbgnaaDoor
namespace Go.Proofs.YtgfkogafkhbgnaaDoor
open Go.RowKit Go.Lib
set_option linter.unusedVariables false
set_option linter.unusedSimpArgs false
theorem zjY (r : Int) (hv : 0 ≤ r ∧ (r < 55296 ∨ (57343 < r ∧ r ≤ 1114111))) (hr : ¬ r = 65533) : ¬ Utf8.encode r = ⟨#[239, 191, 189]⟩ := by
  intro h
  obtain ⟨n, rfl⟩ := Int.eq_ofNat_of_zero_le hv.1
  have h1 : encodeRune ((n : Nat) : Int) = [239, 191, 189] := by rw [← zgc, h]
  have h2 := zj2 n (by omega) []
  have h3 := zj2 65533 (by omega) []
  rw [h1] at h2
  rw [zkr] at h3
  rw [h2] at h3
  have := (Prod.mk.inj h3).1
  omega
/-- The text from a piece on begins with that piece. -/
theorem zmd (s : ByteArray) (p : Pc) (hp : p ∈ pcs s.data.toList) : (pcs (s.extract p.i s.size).data.toList)[0]? = some ⟨0, p.w, p.r⟩ := by
  obtain ⟨g1, g2, hok⟩ := zgK s.data.toList p hp
  have hlen : s.data.toList.length = s.size := by rw [Array.length_toList]; rfl
  have he := znp s p.i
  rw [he]
  have hne : s.data.toList.drop p.i ≠ [] := by
    intro h; have := congrArg List.length h; simp at this; omega
  unfold pcs
  rw [zcn _ _ hne, hok.eq]; rfl
theorem ziu (r : Int) (hv : 0 ≤ r ∧ (r < 55296 ∨ (57343 < r ∧ r ≤ 1114111))) : FnP Tryd.prog 119 [.int .i32 r] (.int .i64 ((Utf8.encode r).size : Int)) := by
 by_cases hr : r = 65533
 ·
  skip
  refine FnP.intro Tryd.func119 rfl Tryd.ntmps119 (by simp) ?_
  intro w0 K
  refine zap (zad (zai rfl (by decide) rfl (zan (zaf (zap (zap (zad (zag rfl (by decide) rfl (zaz rfl (by decide) rfl rfl (zbi (congrArg Value.bool (show ((r : Int) != 65533) = false from (bne_eq_false_iff_eq.2 hr))) zbk) (zag rfl (by decide) rfl (zae rfl (by decide) (zae rfl (by decide) (zae rfl (by decide) ?_)))))))))))))
  refine zas (b := false) rfl (by decide) rfl rfl (zan (zaf (za0 rfl (zaI (zaf (zap (zad (zag rfl (by decide) rfl (zgg rfl (by decide) rfl (zfM Tryd.underlying21 Tryd.underlying9) (zbt rfl (by decide) rfl Tryd.underlying9 (zai rfl (by decide) rfl (zan (zaf ?_)))))))))))))
  refine zaE ?_
  exact zaM (rs := [.tmp 2]) () (.inl rfl) Tryd.results119 (.cons (.tmp rfl) .nil) rfl Splits.nil
 ·
  skip
  refine FnP.intro Tryd.func119 rfl Tryd.ntmps119 (by simp) ?_
  intro w0 K
  refine zap (zad (zai rfl (by decide) rfl (zan (zaf (zap (zap (zad (zag rfl (by decide) rfl (zaz rfl (by decide) rfl rfl (zbi (congrArg Value.bool (show ((r : Int) != 65533) = true from (bne_iff_ne.2 hr))) zbk) (zag rfl (by decide) rfl (zag rfl (by decide) rfl (zgg rfl (by decide) rfl (zfM Tryd.underlying21 Tryd.underlying9) (zaz rfl (by decide) rfl rfl (zbi (congrArg Value.bool (show (decide (Utf8.encode r = ⟨#[239, 191, 189]⟩)) = false from (decide_eq_false (zjY r hv hr)))) zel) ?_)))))))))))))
  refine zas (b := true) rfl (by decide) rfl rfl (zan (zaf (za0 rfl (zaI (zaf (zap (zad (zag rfl (by decide) rfl (zgg rfl (by decide) rfl (zfM Tryd.underlying21 Tryd.underlying9) (zbt rfl (by decide) rfl Tryd.underlying9 (zai rfl (by decide) rfl (zan (zaf ?_)))))))))))))
  refine zaE ?_
  exact zaM (rs := [.tmp 2]) () (.inl rfl) Tryd.results119 (.cons (.tmp rfl) .nil) rfl Splits.nil

theorem zog (s : ByteArray) (hs : s.size ≤ 9223372036854775800) (p : Pc) (hp : p ∈ pcs s.data.toList) : FnP Tryd.prog 114 [.string s, .int .i64 p.i] (.agg #[.int .i64 p.i, .int .i64 p.w, .int .i32 p.r, .bool p.broken]) := by
 obtain ⟨g1, g2, hok⟩ := zgK s.data.toList p hp
 have hlen : s.data.toList.length = s.size := by rw [Array.length_toList]; rfl
 rw [hlen] at g2
 have hval := hok.valid
 have hq := zmd s p hp
 have hsl3 : p.i + 3 ≤ s.size → (s.extract p.i (p.i + 3)).data.toList = (s.data.toList.drop p.i).take 3 := fun h => by rw [Lib.extract_data]; simp
 by_cases hr : p.r = 65533
 ·
  by_cases hw : p.w = 1
  ·
   have hb : p.broken = true := by simp [Pc.broken, hr, hw]
   have hres : zfy [.agg #[.int .i64 p.i, .int .i64 1, .int .i32 65533, .bool true]] = Value.agg #[.int .i64 p.i, .int .i64 p.w, .int .i32 p.r, .bool p.broken] := by rw [hb, hr, hw]; rfl
   by_cases h3 : s.size - p.i < 3
   ·
    skip
    refine FnP.intro Tryd.func114 rfl Tryd.ntmps114 (by simp) ?_
    intro w0 K
    refine zap (zad ?_)
    refine zbe ziV rfl (by decide) (fun b1 => ?_)
    refine zan (zaf (zap (zap (zad (zag rfl (by decide) rfl (zag rfl (by decide) rfl (zdi rfl (by decide) rfl rfl rfl (zdj (i := p.i) (j := s.size) Tryd.underlying9 (.inr rfl) (.inl ⟨rfl, rfl⟩) (by omega) (Nat.le_refl _)) ?_)))))))
    refine zcF Tryd.underlying9 rfl (by decide) rfl (fun b2 => ?_)
    show TO _ _ _ _ _ _ _ _ _ _ [cells b1 [.int .i64 0, .int .i64 0, .int .i32 0, .bool false] 173, obj b2 (.stringIter (s.extract p.i s.size) (zcc (s.extract p.i s.size) 0))]
    refine zan (zaf (zaT ?_))
    refine zhV (β := Unit) (fun _u => True) (fun _u => [(0, .string s), (1, .int .i64 (p.i : Int)), (4, .pointer (some ⟨b1, 0, none⟩)), (11, .pointer (some ⟨b2, 0, none⟩))]) (fun _u => [cells b1 [.int .i64 0, .int .i64 0, .int .i32 0, .bool false] 173, obj b2 (.stringIter (s.extract p.i s.size) (zcc (s.extract p.i s.size) 0))]) (fun _u => 0) () trivial (zah rfl (zah rfl (zah rfl (zah rfl (zaQ))))) (zak [0, 1] (by as_aux_lemma => kernel_rfl) rfl) ?_
    rintro _ _
    refine zap (zad (zc9 (k := 1) (m := 0) (p := ⟨0, p.w, p.r⟩) rfl (by decide) rfl rfl hq (zaL rfl (by decide) rfl rfl (zan (zaf (zap (zaY rfl (zaI (zaf (zaT (zap (zad (zaL rfl (by decide) rfl rfl ?_)))))))))))))
    refine zai rfl (by decide) rfl (zan (zaf (zap (zad (zag rfl (by decide) rfl (za9 (v := .int .i64 ((Utf8.encode (p.r : Int)).size : Int)) (vs := [.int .i32 (p.r : Int)]) rfl (by decide) rfl rfl rfl zks (ziu _ (by omega)) (zai rfl (by decide) rfl (zan (zaf (zap (zap (zad (zag rfl (by decide) rfl ?_)))))))))))))
    refine zaz rfl (by decide) rfl rfl (zbi (congrArg Value.bool (show (((p.r : Int) : Int) == 65533) = true from (beq_iff_eq.2 (by omega)))) zaW) (zag rfl (by decide) rfl (zag rfl (by decide) rfl (zbt rfl (by decide) rfl Tryd.underlying9 (zag rfl (by decide) rfl (zaz rfl (by decide) rfl rfl (zcE (r := (s.size : Int) - (p.i : Int)) (IntWalk.i64_in _ (by omega))) (zaz rfl (by decide) rfl rfl (zbi (congrArg Value.bool (show (decide ((((s.size : Int) - (p.i : Int)) : Int) < 3)) = true from (decide_eq_true (by omega)))) zcb) (zag rfl (by decide) rfl (zae rfl (by decide) (zae rfl (by decide) (zae rfl (by decide) (zae rfl (by decide) (zae rfl (by decide) (zae rfl (by decide) ?_)))))))))))))
    refine zas (b := true) rfl (by decide) rfl rfl (zas (b := true) rfl (by decide) rfl rfl (zan (zaf (zaY rfl (zap (zad (zag rfl (by decide) rfl ?_)))))))
    refine zba (v := .agg #[.int .i64 (p.i : Int), .int .i64 1, .int .i32 65533, .bool true]) (ps := [(0, .tmp 34), (1, .const (.int .i64 1)), (2, .const (.int .i32 65533)), (3, .const (.bool true))]) rfl (by decide) rfl (fun _ => by kernel_rfl) ?_
    refine za8 (k := 0) (vs := [.int .i64 (p.i : Int), .int .i64 1, .int .i32 65533, .bool true]) (l' := [.int .i64 (p.i : Int), .int .i64 1, .int .i32 65533, .bool true]) ziZ rfl rfl rfl rfl rfl (show _ ≤ _ by simp) rfl rfl ?_
    show TO _ _ _ _ _ _ _ _ _ _ [cells b1 [.int .i64 (p.i : Int), .int .i64 1, .int .i32 65533, .bool true] 173, obj b2 (.stringIter (s.extract p.i s.size) (zcc (s.extract p.i s.size) (0 + 1)))]
    refine zan (zaf (zaE (zav (zay (zav (zay (zav ?_)))))))
    exact zaM (rs := [.cell 4 173]) () (.inl rfl) Tryd.results114 (.cons (.cells zgl (k := 0) rfl rfl rfl) .nil) hres Splits.nil
   ·
    have hsl : ¬ s.extract p.i (p.i + 3) = ⟨#[239, 191, 189]⟩ := fun h => hok.lost_bad hr hw (by rw [← hsl3 (by omega), h])
    refine FnP.intro Tryd.func114 rfl Tryd.ntmps114 (by simp) ?_
    intro w0 K
    refine zap (zad ?_)
    refine zbe ziV rfl (by decide) (fun b1 => ?_)
    refine zan (zaf (zap (zap (zad (zag rfl (by decide) rfl (zag rfl (by decide) rfl (zdi rfl (by decide) rfl rfl rfl (zdj (i := p.i) (j := s.size) Tryd.underlying9 (.inr rfl) (.inl ⟨rfl, rfl⟩) (by omega) (Nat.le_refl _)) ?_)))))))
    refine zcF Tryd.underlying9 rfl (by decide) rfl (fun b2 => ?_)
    show TO _ _ _ _ _ _ _ _ _ _ [cells b1 [.int .i64 0, .int .i64 0, .int .i32 0, .bool false] 173, obj b2 (.stringIter (s.extract p.i s.size) (zcc (s.extract p.i s.size) 0))]
    refine zan (zaf (zaT ?_))
    refine zhV (β := Unit) (fun _u => True) (fun _u => [(0, .string s), (1, .int .i64 (p.i : Int)), (4, .pointer (some ⟨b1, 0, none⟩)), (11, .pointer (some ⟨b2, 0, none⟩))]) (fun _u => [cells b1 [.int .i64 0, .int .i64 0, .int .i32 0, .bool false] 173, obj b2 (.stringIter (s.extract p.i s.size) (zcc (s.extract p.i s.size) 0))]) (fun _u => 0) () trivial (zah rfl (zah rfl (zah rfl (zah rfl (zaQ))))) (zak [0, 1] (by as_aux_lemma => kernel_rfl) rfl) ?_
    rintro _ _
    refine zap (zad (zc9 (k := 1) (m := 0) (p := ⟨0, p.w, p.r⟩) rfl (by decide) rfl rfl hq (zaL rfl (by decide) rfl rfl (zan (zaf (zap (zaY rfl (zaI (zaf (zaT (zap (zad (zaL rfl (by decide) rfl rfl ?_)))))))))))))
    refine zai rfl (by decide) rfl (zan (zaf (zap (zad (zag rfl (by decide) rfl (za9 (v := .int .i64 ((Utf8.encode (p.r : Int)).size : Int)) (vs := [.int .i32 (p.r : Int)]) rfl (by decide) rfl rfl rfl zks (ziu _ (by omega)) (zai rfl (by decide) rfl (zan (zaf (zap (zap (zad (zag rfl (by decide) rfl ?_)))))))))))))
    refine zaz rfl (by decide) rfl rfl (zbi (congrArg Value.bool (show (((p.r : Int) : Int) == 65533) = true from (beq_iff_eq.2 (by omega)))) zaW) (zag rfl (by decide) rfl (zag rfl (by decide) rfl (zbt rfl (by decide) rfl Tryd.underlying9 (zag rfl (by decide) rfl (zaz rfl (by decide) rfl rfl (zcE (r := (s.size : Int) - (p.i : Int)) (IntWalk.i64_in _ (by omega))) (zaz rfl (by decide) rfl rfl (zbi (congrArg Value.bool (show (decide ((((s.size : Int) - (p.i : Int)) : Int) < 3)) = false from (decide_eq_false (by omega)))) zcb) (zag rfl (by decide) rfl (zag rfl (by decide) rfl (zag rfl (by decide) rfl (zag rfl (by decide) rfl (zaz rfl (by decide) rfl rfl (zbs (r := ((p.i + 3 : Nat) : Int)) (by rw [IntWalk.i64_in _ (by omega)]; omega)) (zdi rfl (by decide) rfl rfl rfl (zdj (i := p.i) (j := p.i + 3) Tryd.underlying9 (.inr rfl) (.inr rfl) (by omega) (by omega)) (zaz rfl (by decide) rfl rfl (zbi (congrArg Value.bool (show (!decide (s.extract p.i (p.i + 3) = ⟨#[239, 191, 189]⟩)) = true from (by rw [decide_eq_false hsl]; rfl))) zdJ) ?_)))))))))))))
    refine zas (b := false) rfl (by decide) rfl rfl (zas (b := true) rfl (by decide) rfl rfl (zan (zaf (zaY rfl (zap (zad (zag rfl (by decide) rfl ?_)))))))
    refine zba (v := .agg #[.int .i64 (p.i : Int), .int .i64 1, .int .i32 65533, .bool true]) (ps := [(0, .tmp 34), (1, .const (.int .i64 1)), (2, .const (.int .i32 65533)), (3, .const (.bool true))]) rfl (by decide) rfl (fun _ => by kernel_rfl) ?_
    refine za8 (k := 0) (vs := [.int .i64 (p.i : Int), .int .i64 1, .int .i32 65533, .bool true]) (l' := [.int .i64 (p.i : Int), .int .i64 1, .int .i32 65533, .bool true]) ziZ rfl rfl rfl rfl rfl (show _ ≤ _ by simp) rfl rfl ?_
    show TO _ _ _ _ _ _ _ _ _ _ [cells b1 [.int .i64 (p.i : Int), .int .i64 1, .int .i32 65533, .bool true] 173, obj b2 (.stringIter (s.extract p.i s.size) (zcc (s.extract p.i s.size) (0 + 1)))]
    refine zan (zaf (zaE (zav (zay (zav (zay (zav ?_)))))))
    exact zaM (rs := [.cell 4 173]) () (.inl rfl) Tryd.results114 (.cons (.cells zgl (k := 0) rfl rfl rfl) .nil) hres Splits.nil
  ·
   have hb : p.broken = false := by simp [Pc.broken, hw]
   obtain ⟨e1, e2⟩ := hok.lost_ok hr hw
   have hsz : (Utf8.encode (p.r : Int)).size = p.w := by rw [zgb]; exact hok.width (fun h => hw h.2)
   have hres : zfy [.agg #[.int .i64 p.i, .int .i64 ((Utf8.encode (p.r : Int)).size : Int), .int .i32 p.r, .bool false]] = Value.agg #[.int .i64 p.i, .int .i64 p.w, .int .i32 p.r, .bool p.broken] := by rw [hb, hsz]; rfl
   have hsl : s.extract p.i (p.i + 3) = ⟨#[239, 191, 189]⟩ := by apply ByteArray.ext; apply Array.toList_inj.1; rw [hsl3 (by omega), e1]
   refine FnP.intro Tryd.func114 rfl Tryd.ntmps114 (by simp) ?_
   intro w0 K
   refine zap (zad ?_)
   refine zbe ziV rfl (by decide) (fun b1 => ?_)
   refine zan (zaf (zap (zap (zad (zag rfl (by decide) rfl (zag rfl (by decide) rfl (zdi rfl (by decide) rfl rfl rfl (zdj (i := p.i) (j := s.size) Tryd.underlying9 (.inr rfl) (.inl ⟨rfl, rfl⟩) (by omega) (Nat.le_refl _)) ?_)))))))
   refine zcF Tryd.underlying9 rfl (by decide) rfl (fun b2 => ?_)
   show TO _ _ _ _ _ _ _ _ _ _ [cells b1 [.int .i64 0, .int .i64 0, .int .i32 0, .bool false] 173, obj b2 (.stringIter (s.extract p.i s.size) (zcc (s.extract p.i s.size) 0))]
   refine zan (zaf (zaT ?_))
   refine zhV (β := Unit) (fun _u => True) (fun _u => [(0, .string s), (1, .int .i64 (p.i : Int)), (4, .pointer (some ⟨b1, 0, none⟩)), (11, .pointer (some ⟨b2, 0, none⟩))]) (fun _u => [cells b1 [.int .i64 0, .int .i64 0, .int .i32 0, .bool false] 173, obj b2 (.stringIter (s.extract p.i s.size) (zcc (s.extract p.i s.size) 0))]) (fun _u => 0) () trivial (zah rfl (zah rfl (zah rfl (zah rfl (zaQ))))) (zak [0, 1] (by as_aux_lemma => kernel_rfl) rfl) ?_
   rintro _ _
   refine zap (zad (zc9 (k := 1) (m := 0) (p := ⟨0, p.w, p.r⟩) rfl (by decide) rfl rfl hq (zaL rfl (by decide) rfl rfl (zan (zaf (zap (zaY rfl (zaI (zaf (zaT (zap (zad (zaL rfl (by decide) rfl rfl ?_)))))))))))))
   refine zai rfl (by decide) rfl (zan (zaf (zap (zad (zag rfl (by decide) rfl (za9 (v := .int .i64 ((Utf8.encode (p.r : Int)).size : Int)) (vs := [.int .i32 (p.r : Int)]) rfl (by decide) rfl rfl rfl zks (ziu _ (by omega)) (zai rfl (by decide) rfl (zan (zaf (zap (zap (zad (zag rfl (by decide) rfl ?_)))))))))))))
   refine zaz rfl (by decide) rfl rfl (zbi (congrArg Value.bool (show (((p.r : Int) : Int) == 65533) = true from (beq_iff_eq.2 (by omega)))) zaW) (zag rfl (by decide) rfl (zag rfl (by decide) rfl (zbt rfl (by decide) rfl Tryd.underlying9 (zag rfl (by decide) rfl (zaz rfl (by decide) rfl rfl (zcE (r := (s.size : Int) - (p.i : Int)) (IntWalk.i64_in _ (by omega))) (zaz rfl (by decide) rfl rfl (zbi (congrArg Value.bool (show (decide ((((s.size : Int) - (p.i : Int)) : Int) < 3)) = false from (decide_eq_false (by omega)))) zcb) (zag rfl (by decide) rfl (zag rfl (by decide) rfl (zag rfl (by decide) rfl (zag rfl (by decide) rfl (zaz rfl (by decide) rfl rfl (zbs (r := ((p.i + 3 : Nat) : Int)) (by rw [IntWalk.i64_in _ (by omega)]; omega)) (zdi rfl (by decide) rfl rfl rfl (zdj (i := p.i) (j := p.i + 3) Tryd.underlying9 (.inr rfl) (.inr rfl) (by omega) (by omega)) (zaz rfl (by decide) rfl rfl (zbi (congrArg Value.bool (show (!decide (s.extract p.i (p.i + 3) = ⟨#[239, 191, 189]⟩)) = false from (by rw [decide_eq_true hsl]; rfl))) zdJ) ?_)))))))))))))
   refine zas (b := false) rfl (by decide) rfl rfl (zas (b := true) rfl (by decide) rfl rfl (zan (zaf (za0 rfl (zaI (zaf (zap (zad (zag rfl (by decide) rfl (zag rfl (by decide) rfl (zag rfl (by decide) rfl ?_)))))))))))
   refine zba (v := .agg #[.int .i64 (p.i : Int), .int .i64 ((Utf8.encode (p.r : Int)).size : Int), .int .i32 (p.r : Int), .bool false]) (ps := [(0, .tmp 36), (1, .tmp 37), (2, .tmp 38)]) rfl (by decide) rfl (fun _ => by kernel_rfl) ?_
   refine za8 (k := 0) (vs := [.int .i64 (p.i : Int), .int .i64 ((Utf8.encode (p.r : Int)).size : Int), .int .i32 (p.r : Int), .bool false]) (l' := [.int .i64 (p.i : Int), .int .i64 ((Utf8.encode (p.r : Int)).size : Int), .int .i32 (p.r : Int), .bool false]) ziZ rfl rfl rfl rfl rfl (show _ ≤ _ by simp) rfl rfl ?_
   show TO _ _ _ _ _ _ _ _ _ _ [cells b1 [.int .i64 (p.i : Int), .int .i64 ((Utf8.encode (p.r : Int)).size : Int), .int .i32 (p.r : Int), .bool false] 173, obj b2 (.stringIter (s.extract p.i s.size) (zcc (s.extract p.i s.size) (0 + 1)))]
   refine zan (zaf (zaE (zay (zav (zay (zav ?_))))))
   exact zaM (rs := [.cell 4 173]) () (.inl rfl) Tryd.results114 (.cons (.cells zgl (k := 0) rfl rfl rfl) .nil) hres Splits.nil
 ·
  have hb : p.broken = false := by simp [Pc.broken, hr]
  have hsz : (Utf8.encode (p.r : Int)).size = p.w := by rw [zgb]; exact hok.width (fun h => hr h.1)
  have hres : zfy [.agg #[.int .i64 p.i, .int .i64 ((Utf8.encode (p.r : Int)).size : Int), .int .i32 p.r, .bool false]] = Value.agg #[.int .i64 p.i, .int .i64 p.w, .int .i32 p.r, .bool p.broken] := by rw [hb, hsz]; rfl
  refine FnP.intro Tryd.func114 rfl Tryd.ntmps114 (by simp) ?_
  intro w0 K
  refine zap (zad ?_)
  refine zbe ziV rfl (by decide) (fun b1 => ?_)
  refine zan (zaf (zap (zap (zad (zag rfl (by decide) rfl (zag rfl (by decide) rfl (zdi rfl (by decide) rfl rfl rfl (zdj (i := p.i) (j := s.size) Tryd.underlying9 (.inr rfl) (.inl ⟨rfl, rfl⟩) (by omega) (Nat.le_refl _)) ?_)))))))
  refine zcF Tryd.underlying9 rfl (by decide) rfl (fun b2 => ?_)
  show TO _ _ _ _ _ _ _ _ _ _ [cells b1 [.int .i64 0, .int .i64 0, .int .i32 0, .bool false] 173, obj b2 (.stringIter (s.extract p.i s.size) (zcc (s.extract p.i s.size) 0))]
  refine zan (zaf (zaT ?_))
  refine zhV (β := Unit) (fun _u => True) (fun _u => [(0, .string s), (1, .int .i64 (p.i : Int)), (4, .pointer (some ⟨b1, 0, none⟩)), (11, .pointer (some ⟨b2, 0, none⟩))]) (fun _u => [cells b1 [.int .i64 0, .int .i64 0, .int .i32 0, .bool false] 173, obj b2 (.stringIter (s.extract p.i s.size) (zcc (s.extract p.i s.size) 0))]) (fun _u => 0) () trivial (zah rfl (zah rfl (zah rfl (zah rfl (zaQ))))) (zak [0, 1] (by as_aux_lemma => kernel_rfl) rfl) ?_
  rintro _ _
  refine zap (zad (zc9 (k := 1) (m := 0) (p := ⟨0, p.w, p.r⟩) rfl (by decide) rfl rfl hq (zaL rfl (by decide) rfl rfl (zan (zaf (zap (zaY rfl (zaI (zaf (zaT (zap (zad (zaL rfl (by decide) rfl rfl ?_)))))))))))))
  refine zai rfl (by decide) rfl (zan (zaf (zap (zad (zag rfl (by decide) rfl (za9 (v := .int .i64 ((Utf8.encode (p.r : Int)).size : Int)) (vs := [.int .i32 (p.r : Int)]) rfl (by decide) rfl rfl rfl zks (ziu _ (by omega)) (zai rfl (by decide) rfl (zan (zaf (zap (zap (zad (zag rfl (by decide) rfl ?_)))))))))))))
  refine zaz rfl (by decide) rfl rfl (zbi (congrArg Value.bool (show (((p.r : Int) : Int) == 65533) = false from (beq_eq_false_iff_ne.2 (by omega)))) zaW) (zag rfl (by decide) rfl (zae rfl (by decide) (zae rfl (by decide) (zae rfl (by decide) (zae rfl (by decide) (zae rfl (by decide) (zae rfl (by decide) (zae rfl (by decide) (zae rfl (by decide) (zae rfl (by decide) (zae rfl (by decide) (zae rfl (by decide) (zae rfl (by decide) ?_)))))))))))))
  refine zae rfl (by decide) (zas (b := false) rfl (by decide) rfl rfl (zan (zaf (za0 rfl (zaI (zaf (zap (zad (zag rfl (by decide) rfl (zag rfl (by decide) rfl (zag rfl (by decide) rfl ?_)))))))))))
  refine zba (v := .agg #[.int .i64 (p.i : Int), .int .i64 ((Utf8.encode (p.r : Int)).size : Int), .int .i32 (p.r : Int), .bool false]) (ps := [(0, .tmp 36), (1, .tmp 37), (2, .tmp 38)]) rfl (by decide) rfl (fun _ => by kernel_rfl) ?_
  refine za8 (k := 0) (vs := [.int .i64 (p.i : Int), .int .i64 ((Utf8.encode (p.r : Int)).size : Int), .int .i32 (p.r : Int), .bool false]) (l' := [.int .i64 (p.i : Int), .int .i64 ((Utf8.encode (p.r : Int)).size : Int), .int .i32 (p.r : Int), .bool false]) ziZ rfl rfl rfl rfl rfl (show _ ≤ _ by simp) rfl rfl ?_
  show TO _ _ _ _ _ _ _ _ _ _ [cells b1 [.int .i64 (p.i : Int), .int .i64 ((Utf8.encode (p.r : Int)).size : Int), .int .i32 (p.r : Int), .bool false] 173, obj b2 (.stringIter (s.extract p.i s.size) (zcc (s.extract p.i s.size) (0 + 1)))]
  refine zan (zaf (zaE (zay (zav (zay (zav ?_))))))
  exact zaM (rs := [.cell 4 173]) () (.inl rfl) Tryd.results114 (.cons (.cells zgl (k := 0) rfl rfl rfl) .nil) hres Splits.nil
end Go.Proofs.YtgfkogafkhbgnaaDoor
namespace Go.Proofs.YtgfkogafkhbgnaaDoor
open Go.RowKit Go.Lib
set_option linter.unusedVariables false
set_option linter.unusedSimpArgs false
theorem zh1 {α : Type} {l : List α} {k : Nat} {p : α} (h : l[k]? = some p) : l = l.take k ++ p :: l.drop (k + 1) := by
  obtain ⟨hk, hp⟩ := List.getElem?_eq_some_iff.1 h
  have h1 := List.drop_eq_getElem_cons hk
  rw [hp] at h1
  rw [← h1, List.take_append_drop]
theorem zlc {α : Type} (L : List α) (k : Nat) (x : α) (h : L[k]? = some x) : L.take (k + 1) = L.take k ++ [x] := by
  obtain ⟨hk, rfl⟩ := List.getElem?_eq_some_iff.1 h
  simp
def uK : Option Un → Int | none => 0 | some n => n.k
def uR : Option Un → Int | none => 0 | some n => n.r
def uF : Option Un → Int | none => 0 | some n => n.f
def uT : Option Un → Int | none => 0 | some n => n.t
def uA : Option Un → Bool | none => false | some n => n.al
def unV (u : Un) : List Value := [.int .i64 u.k, .int .i32 u.r, .int .i64 u.f, .int .i64 u.t, .bool u.al]
def unA (u : Un) : List Value := [.agg (unV u).toArray]
theorem zi5 (s : ByteArray) (hs : s.size ≤ 4611686018427387904) (Bs : Nat) : Itr Tryd.prog 113 [.pointer (some ⟨Bs, 0, none⟩)] pcA (pcs s.data.toList) [(Bs, .cells #[.string s] 9 (0, 0))] := by
 refine Itr.intro Tryd.func113 rfl Tryd.ntmps113 (by simp) ?_
 intro l w0 K I X hRo hy
 refine zap (zad (zfQ (i := 0) hRo zhz rfl (by decide) rfl rfl rfl ?_))
 refine zcF Tryd.underlying9 rfl (by decide) rfl (fun b1 => ?_)
 refine zan (zaf (zaT ?_))
 refine zhV (β := Nat) (fun k => True) (fun k => [(0, .func (.yield l) #[] #[]), (1, .pointer (some ⟨Bs, 0, none⟩)), (5, .pointer (some ⟨b1, 0, none⟩))]) (fun k => [I ((pcs s.data.toList).take k), obj b1 (.stringIter s (zcc s k))]) (fun k => (pcs s.data.toList).length - k) 0 trivial (zah rfl (zah rfl (zah rfl (zaQ)))) (zak [0, 1] (by as_aux_lemma => kernel_rfl) rfl) ?_
 rintro k _
 by_cases hlt : k < (pcs s.data.toList).length
 ·
  obtain ⟨p, hp⟩ : ∃ p, (pcs s.data.toList)[k]? = some p := ⟨_, List.getElem?_eq_getElem hlt⟩
  have hz : pcs s.data.toList = (pcs s.data.toList).take k ++ p :: (pcs s.data.toList).drop (k + 1) := zh1 hp
  refine zap (zad (zc9 (k := 1) (m := k) (p := p) rfl (by decide) rfl rfl hp (zaL rfl (by decide) rfl rfl (zan (zaf (zap (zaY rfl (zaI (zaf (zaT (zap (zad (zaL rfl (by decide) rfl rfl ?_)))))))))))))
  refine zai rfl (by decide) rfl (zan (zaf (zap (zad (zag rfl (by decide) rfl (zfQ (i := 0) hRo zhz rfl (by decide) rfl rfl rfl (zag rfl (by decide) rfl (za9 (v := .agg #[.int .i64 (p.i : Int), .int .i64 (p.w : Int), .int .i32 (p.r : Int), .bool p.broken]) (vs := [.string s, .int .i64 (p.i : Int)]) rfl (by decide) rfl rfl rfl zoy (zog s (by omega) p (List.mem_of_getElem? hp)) ?_))))))))
  refine zdw hy rfl (by decide) rfl hz rfl (k := 0) rfl ?_ ?_
  ·
   -- yes
   refine zdZ rfl (by decide) rfl zcG (zan (zaf (za0 rfl (zaI (zaw ?_)))))
   skip
   refine za4 (k := 0) rfl (show I ((pcs s.data.toList).take k ++ [p]) = I ((pcs s.data.toList).take (k + 1)) from (congrArg I (zlc _ _ _ hp).symm)) ?_
   show TX _ _ _ _ _ _ _ [I ((pcs s.data.toList).take (k + 1)), obj b1 (.stringIter s (zcc s (k + 1)))]
   exact zmA (k + 1) trivial (by omega) (zah rfl (zah rfl (zah rfl (zaQ)))) (zak [0, 1] (by as_aux_lemma => kernel_rfl) rfl)
  ·
   -- no
   refine zdZ rfl (by decide) rfl zcG (zan (zaf (zaY rfl (zaE (zay (zav (zay ?_)))))))
   exact zfO (ds := []) _ p _ hz (.inl rfl) Splits.nil Tryd.results113 (zak [0] (by as_aux_lemma => kernel_rfl) rfl)
 ·
  have he : I (pcs s.data.toList) = I ((pcs s.data.toList).take k) := by rw [List.take_of_length_le (Nat.le_of_not_lt hlt)]
  refine zap (zad (zep (k := 1) (m := k) rfl (by decide) rfl rfl (by omega) (zaL rfl (by decide) rfl rfl (zan (zaf (zap (za0 rfl (zbA (zaR (zaR (za2 ?_)))))))))))
  exact zfN (ds := []) (.inr rfl) Splits.nil Tryd.results113 he (zak [0] (by as_aux_lemma => kernel_rfl) rfl)

theorem zm8 (s : ByteArray) : Fn Tryd.prog 104 [.string s] [] (fun b : Nat => .func (.func 113) #[] #[.pointer (some ⟨b, 0, none⟩)]) (fun b => [cells b [.string s] 9]) := by
 refine Fn.intro Tryd.func104 rfl Tryd.ntmps104 (by simp) ?_
 intro w0 K
 refine zap (zad ?_)
 refine zdF rfl (by decide) rfl (fun b1 => ?_)
 refine zai rfl (by decide) rfl (zan (zaf (zap (zad (zdO (x1 := []) (x2 := [.tmp 1]) rfl (by decide) rfl rfl (zai rfl (by decide) rfl (zan (zaf (zaE ?_)))))))))
 exact zaM (rs := [.tmp 2]) b1 (.inl rfl) Tryd.results104 (.cons (.tmp rfl) .nil) rfl (zak [0] (by as_aux_lemma => kernel_rfl) rfl)

theorem zoH (k : Int) : FnP Tryd.prog 106 [.int .i64 k] (.bool (zg7 k)) := by
 refine FnP.intro Tryd.func106 rfl Tryd.ntmps106 (by simp) ?_
 intro w0 K
 refine zap (zad (zai rfl (by decide) rfl (zan (zaf (zap (zad (zag rfl (by decide) rfl (zaz rfl (by decide) rfl rfl zaW (zag rfl (by decide) rfl ?_)))))))))
 refine zaV (s := 5) rfl (fun h1 => ?_) (fun h1 => ?_)
 ·
  -- yes
  have h1 := beq_iff_eq.1 h1
  refine zae rfl (by decide) (zae rfl (by decide) (zas (b := true) rfl (by decide) rfl rfl (zag rfl (by decide) rfl (zae rfl (by decide) (zae rfl (by decide) (zas (b := true) rfl (by decide) rfl rfl (zai rfl (by decide) rfl (zan (zaf (zaE ?_))))))))))
  exact zaM (rs := [.tmp 2]) () (.inl rfl) Tryd.results106 (.cons (.tmp rfl) .nil) (congrArg Value.bool (by rw [Bool.eq_iff_iff]; unfold zg7; simp_all <;> (try intro _) <;> omega)) Splits.nil
 ·
  -- no
  have h1 := beq_eq_false_iff_ne.1 h1
  refine zag rfl (by decide) rfl (zaz rfl (by decide) rfl rfl zaW (zas (b := false) rfl (by decide) rfl rfl (zag rfl (by decide) rfl ?_)))
  refine zaV (s := 9) rfl (fun h2 => ?_) (fun h2 => ?_)
  ·
   -- yes
   have h2 := beq_iff_eq.1 h2
   refine zae rfl (by decide) (zae rfl (by decide) (zas (b := true) rfl (by decide) rfl rfl (zai rfl (by decide) rfl (zan (zaf (zaE ?_))))))
   exact zaM (rs := [.tmp 2]) () (.inl rfl) Tryd.results106 (.cons (.tmp rfl) .nil) (congrArg Value.bool (by rw [Bool.eq_iff_iff]; unfold zg7; simp_all <;> (try intro _) <;> omega)) Splits.nil
  ·
   -- no
   have h2 := beq_eq_false_iff_ne.1 h2
   refine zag rfl (by decide) rfl (zaz rfl (by decide) rfl rfl zaW (zas (b := false) rfl (by decide) rfl rfl (zai rfl (by decide) rfl (zan (zaf (zaE ?_))))))
   exact zaM (rs := [.tmp 2]) () (.inl rfl) Tryd.results106 (.cons (.tmp rfl) .nil) (congrArg Value.bool (by rw [Bool.eq_iff_iff]; unfold zg7; simp_all <;> (try intro _) <;> omega)) Splits.nil

theorem zlA (u : Un) : FnP Tryd.prog 107 [.agg #[.int .i64 u.k, .int .i32 u.r, .int .i64 u.f, .int .i64 u.t, .bool u.al]] (.bool (zhc u)) := by
 refine FnP.intro Tryd.func107 rfl Tryd.ntmps107 (by simp) ?_
 intro w0 K
 refine zap (zad ?_)
 refine zdF rfl (by decide) rfl (fun b1 => ?_)
 refine zai rfl (by decide) rfl (zan (zaf (zap (zap (zad (zam zeM rfl (by decide) rfl (show _ = 1 from rfl) (zaP (k := 0) zg8 rfl (by decide) rfl rfl rfl (zan (zaf (zaT (zap (zap (zad ?_)))))))))))))
 refine zaz rfl (by decide) rfl rfl zaW (zai rfl (by decide) rfl (zan (zaf ?_)))
 refine zaF rfl (fun h1 => ?_) (fun h1 => ?_)
 ·
  -- yes
  have h1 := beq_iff_eq.1 h1
  refine zaI (zaf ?_)
  refine zaF rfl (fun h2 => ?_) (fun h2 => ?_)
  ·
   -- yes
   have h2 := beq_iff_eq.1 h2
   refine zap (zad (zam zfU rfl (by decide) rfl (show _ = 4 from rfl) (zaP (k := 0) zeD rfl (by decide) rfl rfl rfl (zai rfl (by decide) rfl (zan (zaf (zaE (zay (zav ?_)))))))))
   exact zaM (rs := [.tmp 2]) () (.inl rfl) Tryd.results107 (.cons (.tmp rfl) .nil) (congrArg Value.bool (by rw [Bool.eq_iff_iff]; unfold zhc; simp_all <;> (try intro _) <;> omega)) Splits.nil
  ·
   -- no
   have h2 := beq_eq_false_iff_ne.1 h2
   refine zaI (zaw (zaf (zap (zad (zai rfl (by decide) rfl (zan (zaf (zaE ?_))))))))
   exact zaM (rs := [.tmp 2]) () (.inl rfl) Tryd.results107 (.cons (.tmp rfl) .nil) (congrArg Value.bool (by rw [Bool.eq_iff_iff]; unfold zhc; simp_all <;> (try intro _) <;> omega)) Splits.nil
 ·
  -- no
  have h1 := beq_eq_false_iff_ne.1 h1
  refine zap (zad (zaz rfl (by decide) rfl rfl zaW (zai rfl (by decide) rfl (zan (zaf ?_)))))
  refine zaF rfl (fun h3 => ?_) (fun h3 => ?_)
  ·
   -- yes
   have h3 := beq_iff_eq.1 h3
   refine zaI (zaf ?_)
   refine zaF rfl (fun h4 => ?_) (fun h4 => ?_)
   ·
    -- yes
    have h4 := beq_iff_eq.1 h4
    refine zap (zad (zam zfU rfl (by decide) rfl (show _ = 4 from rfl) (zaP (k := 0) zeD rfl (by decide) rfl rfl rfl (zai rfl (by decide) rfl (zan (zaf (zaE (zay (zav ?_)))))))))
    exact zaM (rs := [.tmp 2]) () (.inl rfl) Tryd.results107 (.cons (.tmp rfl) .nil) (congrArg Value.bool (by rw [Bool.eq_iff_iff]; unfold zhc; simp_all <;> (try intro _) <;> omega)) Splits.nil
   ·
    -- no
    have h4 := beq_eq_false_iff_ne.1 h4
    refine zaI (zaw (zaf (zap (zad (zai rfl (by decide) rfl (zan (zaf (zaE ?_))))))))
    exact zaM (rs := [.tmp 2]) () (.inl rfl) Tryd.results107 (.cons (.tmp rfl) .nil) (congrArg Value.bool (by rw [Bool.eq_iff_iff]; unfold zhc; simp_all <;> (try intro _) <;> omega)) Splits.nil
  ·
   -- no
   have h3 := beq_eq_false_iff_ne.1 h3
   refine zap (zad (zaz rfl (by decide) rfl rfl zaW (zai rfl (by decide) rfl (zan (zaf ?_)))))
   refine zaF rfl (fun h5 => ?_) (fun h5 => ?_)
   ·
    -- yes
    have h5 := beq_iff_eq.1 h5
    refine zaI (zaf ?_)
    refine zaF rfl (fun h6 => ?_) (fun h6 => ?_)
    ·
     -- yes
     have h6 := beq_iff_eq.1 h6
     refine zap (zad (zam zfU rfl (by decide) rfl (show _ = 4 from rfl) (zaP (k := 0) zeD rfl (by decide) rfl rfl rfl (zai rfl (by decide) rfl (zan (zaf (zaE (zay (zav ?_)))))))))
     exact zaM (rs := [.tmp 2]) () (.inl rfl) Tryd.results107 (.cons (.tmp rfl) .nil) (congrArg Value.bool (by rw [Bool.eq_iff_iff]; unfold zhc; simp_all <;> (try intro _) <;> omega)) Splits.nil
    ·
     -- no
     have h6 := beq_eq_false_iff_ne.1 h6
     refine zaI (zaw (zaf (zap (zad (zai rfl (by decide) rfl (zan (zaf (zaE ?_))))))))
     exact zaM (rs := [.tmp 2]) () (.inl rfl) Tryd.results107 (.cons (.tmp rfl) .nil) (congrArg Value.bool (by rw [Bool.eq_iff_iff]; unfold zhc; simp_all <;> (try intro _) <;> omega)) Splits.nil
   ·
    -- no
    have h5 := beq_eq_false_iff_ne.1 h5
    refine zad (zaz rfl (by decide) rfl rfl zaW (zai rfl (by decide) rfl (zan (zaf ?_))))
    refine zaF rfl (fun h7 => ?_) (fun h7 => ?_)
    ·
     -- yes
     have h7 := beq_iff_eq.1 h7
     refine zap (zad (zam zfU rfl (by decide) rfl (show _ = 4 from rfl) (zaP (k := 0) zeD rfl (by decide) rfl rfl rfl (zai rfl (by decide) rfl (zan (zaf (zaE (zay (zav ?_)))))))))
     exact zaM (rs := [.tmp 2]) () (.inl rfl) Tryd.results107 (.cons (.tmp rfl) .nil) (congrArg Value.bool (by rw [Bool.eq_iff_iff]; unfold zhc; simp_all <;> (try intro _) <;> omega)) Splits.nil
    ·
     -- no
     have h7 := beq_eq_false_iff_ne.1 h7
     refine zaI (zaw (zaf (zap (zad (zai rfl (by decide) rfl (zan (zaf (zaE ?_))))))))
     exact zaM (rs := [.tmp 2]) () (.inl rfl) Tryd.results107 (.cons (.tmp rfl) .nil) (congrArg Value.bool (by rw [Bool.eq_iff_iff]; unfold zhc; simp_all <;> (try intro _) <;> omega)) Splits.nil

theorem zmt (u : Un) : FnP Tryd.prog 108 [.agg #[.int .i64 u.k, .int .i32 u.r, .int .i64 u.f, .int .i64 u.t, .bool u.al]] (.bool (dot u)) := by
 refine FnP.intro Tryd.func108 rfl Tryd.ntmps108 (by simp) ?_
 intro w0 K
 refine zap (zad ?_)
 refine zdF rfl (by decide) rfl (fun b1 => ?_)
 refine zai rfl (by decide) rfl (zan (zaf (zap (zad (zam zfU rfl (by decide) rfl (show _ = 4 from rfl) (zaP (k := 0) zeD rfl (by decide) rfl rfl rfl (zag rfl (by decide) rfl ?_)))))))
 refine zaV (s := 5) rfl (fun h1 => ?_) (fun h1 => ?_)
 ·
  -- yes
  refine zam zeM rfl (by decide) rfl (show _ = 1 from rfl) (zaP (k := 0) zg8 rfl (by decide) rfl rfl rfl (zaz rfl (by decide) rfl rfl zaW (zag rfl (by decide) rfl ?_)))
  refine zaV (s := 9) rfl (fun h2 => ?_) (fun h2 => ?_)
  ·
   -- yes
   have h2 := beq_iff_eq.1 h2
   refine zae rfl (by decide) (zae rfl (by decide) (zae rfl (by decide) (zas (b := true) rfl (by decide) rfl rfl (zas (b := true) rfl (by decide) rfl rfl (zai rfl (by decide) rfl (zan (zaf (zaE ?_))))))))
   exact zaM (rs := [.tmp 2]) () (.inl rfl) Tryd.results108 (.cons (.tmp rfl) .nil) (congrArg Value.bool (by rw [Bool.eq_iff_iff]; unfold dot; simp_all <;> (try intro _) <;> omega)) Splits.nil
  ·
   -- no
   have h2 := beq_eq_false_iff_ne.1 h2
   refine zam zeM rfl (by decide) rfl (show _ = 1 from rfl) (zaP (k := 0) zg8 rfl (by decide) rfl rfl rfl (zaz rfl (by decide) rfl rfl zaW (zas (b := false) rfl (by decide) rfl rfl (zas (b := true) rfl (by decide) rfl rfl (zai rfl (by decide) rfl (zan (zaf (zaE ?_))))))))
   exact zaM (rs := [.tmp 2]) () (.inl rfl) Tryd.results108 (.cons (.tmp rfl) .nil) (congrArg Value.bool (by rw [Bool.eq_iff_iff]; unfold dot; simp_all <;> (try intro _) <;> omega)) Splits.nil
 ·
  -- no
  refine zae rfl (by decide) (zae rfl (by decide) (zae rfl (by decide) (zae rfl (by decide) (zae rfl (by decide) (zae rfl (by decide) (zae rfl (by decide) (zae rfl (by decide) (zas (b := false) rfl (by decide) rfl rfl (zai rfl (by decide) rfl (zan (zaf (zaE ?_))))))))))))
  exact zaM (rs := [.tmp 2]) () (.inl rfl) Tryd.results108 (.cons (.tmp rfl) .nil) (congrArg Value.bool (by rw [Bool.eq_iff_iff]; unfold dot; simp_all <;> (try intro _) <;> omega)) Splits.nil

theorem zlQ (k : Int) (b : Bool) (h : zg7 k = b) : FnP Tryd.prog 106 [.int .i64 k] (.bool b) := h ▸ zoH k

theorem zkD (s : ByteArray) (hs : s.size ≤ 4611686018427387904) (Bs : Nat) : Itr Tryd.prog 103 [.pointer (some ⟨Bs, 0, none⟩)] unA (units (pcs s.data.toList)) [(Bs, .cells #[.string s] 9 (0, 0))] := by
 refine Itr.intro Tryd.func103 rfl Tryd.ntmps103 (by simp) ?_
 intro l w0 K I X hRo hy
 refine zap (zad ?_)
 refine zdF rfl (by decide) rfl (fun b1 => ?_)
 refine zan (zaf (zap (zad ?_)))
 refine zbe zmG rfl (by decide) (fun b2 => ?_)
 refine zan (zaf (zap (zap (zad (zfQ (i := 0) hRo zhz rfl (by decide) rfl rfl rfl (zcr (vs := [.string s]) rfl (by decide) rfl rfl rfl zoA (zm8 s) Splits.nil ?_))))))
 rintro bp
 show TO _ _ _ _ _ _ _ _ _ _ [I [], cells b1 [.func (.yield l) #[] #[]] 168, cells b2 [.int .i64 0, .int .i32 0, .int .i64 0, .int .i64 0, .bool false] 150, cells bp [.string s] 9]
 refine zan (zaf (zaT ?_))
 refine ziU (α := Pc) (β := List Un × Option Un) (γ := List Un × Un × List Un) (δ := Nat) (ps := [8]) hRo rfl zoz (zi5 s (by omega) bp) (fun pre b => zeY pre = b) (fun pre b => [cells b1 [.func (.yield l) #[] #[]] 168, cells b2 [.int .i64 (uK b.2), .int .i32 (uR b.2), .int .i64 (uF b.2), .int .i64 (uT b.2), .bool (uA b.2)] 150, I b.1]) (fun c pre g => c = .ret ∧ units (pcs s.data.toList) = g.1 ++ g.2.1 :: g.2.2) (fun c pre g => [X (g.1 ++ [g.2.1])]) (fun pre x b j => [(2, .pointer (some ⟨b1, 0, none⟩)), (3, .pointer (some ⟨b2, 0, none⟩)), (4, .pointer (some ⟨j, 0, none⟩))]) (fun pre x b j => [cells b1 [.func (.yield l) #[] #[]] 168, cells b2 [.int .i64 (uK b.2), .int .i32 (uR b.2), .int .i64 (uF b.2), .int .i64 (uT b.2), .bool (uA b.2)] 150, I b.1, cells j [.int .i64 (x.i : Int), .int .i64 (x.w : Int), .int .i32 (x.r : Int), .bool x.broken] 173]) ([], none) rfl (zak [1, 2, 0] (by as_aux_lemma => kernel_rfl) rfl) ⟨.inl ⟨3, rfl⟩, trivial⟩ (fun _ => rfl) (by decide) ?_ ?_ ?_ ?_
 ·
  rintro lp rc pre x post b w1 K1 hxs hext hro hinv
  refine zad ?_
  refine zbe ziV rfl (by decide) (fun b3 => ?_)
  refine za8 (k := 3) (vs := [.int .i64 (x.i : Int), .int .i64 (x.w : Int), .int .i32 (x.r : Int), .bool x.broken]) (l' := [.int .i64 (x.i : Int), .int .i64 (x.w : Int), .int .i32 (x.r : Int), .bool x.broken]) ziZ rfl rfl rfl rfl rfl (show _ ≤ _ by simp) rfl rfl ?_
  show TO _ _ _ _ _ _ _ _ _ _ [cells b1 [.func (.yield l) #[] #[]] 168, cells b2 [.int .i64 (uK b.2), .int .i32 (uR b.2), .int .i64 (uF b.2), .int .i64 (uT b.2), .bool (uA b.2)] 150, I b.1, cells b3 [.int .i64 (x.i : Int), .int .i64 (x.w : Int), .int .i32 (x.r : Int), .bool x.broken] 173]
  refine zan ?_
  exact fun a w ha hw => ⟨b3, (zah rfl (zah rfl (zah rfl (zaQ)))) _ _ _ ha, hw.weaken (zak [0, 1, 2, 3] (by as_aux_lemma => kernel_rfl) rfl)⟩
 ·
  rintro lp rc pre x post b j w1 K1 hxs hext hro hinv
  have hmem : x ∈ pcs s.data.toList := by rw [hxs]; simp
  have hv := zna _ x hmem
  have hend : x.i + x.w ≤ s.size := by simpa using (zgK _ x hmem).2.1
  have hsn := zib pre x
  obtain ⟨E, o⟩ := b
  have hinv : zeY pre = (E, o) := hinv
  rw [hinv] at hsn
  rcases o with _ | n
  ·
   show TC _ _ _ _ _ _ _ _ _ [cells b1 [.func (.yield l) #[] #[]] 168, cells b2 [.int .i64 0, .int .i32 0, .int .i64 0, .int .i64 0, .bool false] 150, I E, cells j [.int .i64 (x.i : Int), .int .i64 (x.w : Int), .int .i32 (x.r : Int), .bool x.broken] 173]
   by_cases hm : pk x = 2
   ·
    refine zaT (zap (zad (zbb (k := 3) (cs := [.int .i64 (x.i : Int), .int .i64 (x.w : Int), .int .i32 (x.r : Int), .bool x.broken]) zgl rfl (by decide) rfl rfl rfl rfl (za9 (v := .int .i64 (pk x)) (vs := [.agg #[.int .i64 (x.i : Int), .int .i64 (x.w : Int), .int .i32 (x.r : Int), .bool x.broken]]) rfl (by decide) rfl rfl rfl zjn (zok _ _ _ _ (by omega) (by omega)) (zai rfl (by decide) rfl (zan (zaf (zap (zap (zad (zag rfl (by decide) rfl (zaz rfl (by decide) rfl rfl (zbi (congrArg Value.bool (show (((pk x) : Int) == 2) = true from (beq_iff_eq.2 hm))) zaW) (zag rfl (by decide) rfl ?_)))))))))))))
    refine zam zcZ rfl (by decide) rfl (show _ = 2 from rfl) (zam zcN rfl (by decide) rfl (show _ = 3 from rfl) (zaP (k := 1) zcx rfl (by decide) rfl rfl rfl (zaz rfl (by decide) rfl rfl (zbi (congrArg Value.bool (show (decide ((0 : Int) < 0)) = false from (by decide))) zcO) (zas (b := true) rfl (by decide) rfl rfl (zag rfl (by decide) rfl (zae rfl (by decide) (zae rfl (by decide) (zae rfl (by decide) (zae rfl (by decide) (zas (b := false) rfl (by decide) rfl rfl (zan (zaf (za0 rfl ?_)))))))))))))
    refine zaI (zaf (zap (zap (zad (zam zcZ rfl (by decide) rfl (show _ = 2 from rfl) (zam zcN rfl (by decide) rfl (show _ = 3 from rfl) (zaP (k := 1) zcx rfl (by decide) rfl rfl rfl (zaz rfl (by decide) rfl rfl (zbi (congrArg Value.bool (show (decide ((0 : Int) < 0)) = false from (by decide))) zcO) (zag rfl (by decide) rfl (zae rfl (by decide) (zae rfl (by decide) (zae rfl (by decide) (zae rfl (by decide) ?_)))))))))))))
    refine zas (b := false) rfl (by decide) rfl rfl (zan (zaf (za0 rfl (zaI (zaf (zad (zag rfl (by decide) rfl (zam zhm rfl (by decide) rfl (show _ = 2 from rfl) (zaP (k := 3) zg8 rfl (by decide) rfl rfl rfl (zam zeK rfl (by decide) rfl (show _ = 0 from rfl) (zaP (k := 3) zcx rfl (by decide) rfl rfl rfl (zam zeK rfl (by decide) rfl (show _ = 0 from rfl) (zaP (k := 3) zcx rfl (by decide) rfl rfl rfl ?_)))))))))))))
    refine zam zgu rfl (by decide) rfl (show _ = 1 from rfl) (zaP (k := 3) zcx rfl (by decide) rfl rfl rfl (zaz rfl (by decide) rfl rfl (zbs (r := (x.i : Int) + (x.w : Int)) (IntWalk.i64_in _ (by omega))) ?_))
    refine zba (v := .agg #[.int .i64 (x.i : Int), .int .i64 ((x.i : Int) + (x.w : Int))]) (ps := [(0, .tmp 48), (1, .tmp 53)]) rfl (by decide) rfl (fun _ => by kernel_rfl) ?_
    refine zba (v := .agg #[.int .i64 (pk x), .int .i32 (x.r : Int), .int .i64 (x.i : Int), .int .i64 ((x.i : Int) + (x.w : Int)), .bool true]) (ps := [(0, .tmp 44), (1, .tmp 46), (2, .tmp 54), (3, .const (.bool true))]) rfl (by decide) rfl (fun _ => by kernel_rfl) ?_
    refine za8 (k := 1) (vs := [.int .i64 (pk x), .int .i32 (x.r : Int), .int .i64 (x.i : Int), .int .i64 ((x.i : Int) + (x.w : Int)), .bool true]) (l' := [.int .i64 (pk x), .int .i32 (x.r : Int), .int .i64 (x.i : Int), .int .i64 ((x.i : Int) + (x.w : Int)), .bool true]) zfw rfl rfl rfl rfl rfl (show _ ≤ _ by simp) rfl rfl (zan (zaw ?_))
    exact zcD (E, some (zkb x)) (by show zeY (pre ++ [x]) = _; rw [hsn]; rfl) (zak [0, 1, 2] (by as_aux_lemma => kernel_rfl) rfl)
   ·
    refine zaT (zap (zad (zbb (k := 3) (cs := [.int .i64 (x.i : Int), .int .i64 (x.w : Int), .int .i32 (x.r : Int), .bool x.broken]) zgl rfl (by decide) rfl rfl rfl rfl (za9 (v := .int .i64 (pk x)) (vs := [.agg #[.int .i64 (x.i : Int), .int .i64 (x.w : Int), .int .i32 (x.r : Int), .bool x.broken]]) rfl (by decide) rfl rfl rfl zjn (zok _ _ _ _ (by omega) (by omega)) (zai rfl (by decide) rfl (zan (zaf (zap (zap (zad (zag rfl (by decide) rfl (zaz rfl (by decide) rfl rfl (zbi (congrArg Value.bool (show (((pk x) : Int) == 2) = false from (beq_eq_false_iff_ne.2 hm))) zaW) (zag rfl (by decide) rfl ?_)))))))))))))
    refine zae rfl (by decide) (zae rfl (by decide) (zae rfl (by decide) (zae rfl (by decide) (zas (b := false) rfl (by decide) rfl rfl (zag rfl (by decide) rfl (zae rfl (by decide) (zae rfl (by decide) (zae rfl (by decide) (zae rfl (by decide) (zas (b := false) rfl (by decide) rfl rfl (zan (zaf (za0 rfl ?_)))))))))))))
    refine zaI (zaf (zap (zap (zad (zam zcZ rfl (by decide) rfl (show _ = 2 from rfl) (zam zcN rfl (by decide) rfl (show _ = 3 from rfl) (zaP (k := 1) zcx rfl (by decide) rfl rfl rfl (zaz rfl (by decide) rfl rfl (zbi (congrArg Value.bool (show (decide ((0 : Int) < 0)) = false from (by decide))) zcO) (zag rfl (by decide) rfl (zae rfl (by decide) (zae rfl (by decide) (zae rfl (by decide) (zae rfl (by decide) ?_)))))))))))))
    refine zas (b := false) rfl (by decide) rfl rfl (zan (zaf (za0 rfl (zaI (zaf (zad (zag rfl (by decide) rfl (zam zhm rfl (by decide) rfl (show _ = 2 from rfl) (zaP (k := 3) zg8 rfl (by decide) rfl rfl rfl (zam zeK rfl (by decide) rfl (show _ = 0 from rfl) (zaP (k := 3) zcx rfl (by decide) rfl rfl rfl (zam zeK rfl (by decide) rfl (show _ = 0 from rfl) (zaP (k := 3) zcx rfl (by decide) rfl rfl rfl ?_)))))))))))))
    refine zam zgu rfl (by decide) rfl (show _ = 1 from rfl) (zaP (k := 3) zcx rfl (by decide) rfl rfl rfl (zaz rfl (by decide) rfl rfl (zbs (r := (x.i : Int) + (x.w : Int)) (IntWalk.i64_in _ (by omega))) ?_))
    refine zba (v := .agg #[.int .i64 (x.i : Int), .int .i64 ((x.i : Int) + (x.w : Int))]) (ps := [(0, .tmp 48), (1, .tmp 53)]) rfl (by decide) rfl (fun _ => by kernel_rfl) ?_
    refine zba (v := .agg #[.int .i64 (pk x), .int .i32 (x.r : Int), .int .i64 (x.i : Int), .int .i64 ((x.i : Int) + (x.w : Int)), .bool true]) (ps := [(0, .tmp 44), (1, .tmp 46), (2, .tmp 54), (3, .const (.bool true))]) rfl (by decide) rfl (fun _ => by kernel_rfl) ?_
    refine za8 (k := 1) (vs := [.int .i64 (pk x), .int .i32 (x.r : Int), .int .i64 (x.i : Int), .int .i64 ((x.i : Int) + (x.w : Int)), .bool true]) (l' := [.int .i64 (pk x), .int .i32 (x.r : Int), .int .i64 (x.i : Int), .int .i64 ((x.i : Int) + (x.w : Int)), .bool true]) zfw rfl rfl rfl rfl rfl (show _ ≤ _ by simp) rfl rfl (zan (zaw ?_))
    exact zcD (E, some (zkb x)) (by show zeY (pre ++ [x]) = _; rw [hsn]; rfl) (zak [0, 1, 2] (by as_aux_lemma => kernel_rfl) rfl)
  ·
   show TC _ _ _ _ _ _ _ _ _ [cells b1 [.func (.yield l) #[] #[]] 168, cells b2 [.int .i64 n.k, .int .i32 (n.r : Int), .int .i64 (n.f : Int), .int .i64 (n.t : Int), .bool n.al] 150, I E, cells j [.int .i64 (x.i : Int), .int .i64 (x.w : Int), .int .i32 (x.r : Int), .bool x.broken] 173]
   have hwf := zhu s.data.toList _ pre (x :: post) (Nat.le_refl _) hxs E n hinv
   have hxi : x.i = n.t := hwf.2.2.1 x rfl
   have ht0 : (0 : Int) < n.t := by have := hwf.1; omega
   by_cases hm : pk x = 2
   ·
    cases hb : zg7 n.k
    ·
     refine zaT (zap (zad (zbb (k := 3) (cs := [.int .i64 (x.i : Int), .int .i64 (x.w : Int), .int .i32 (x.r : Int), .bool x.broken]) zgl rfl (by decide) rfl rfl rfl rfl (za9 (v := .int .i64 (pk x)) (vs := [.agg #[.int .i64 (x.i : Int), .int .i64 (x.w : Int), .int .i32 (x.r : Int), .bool x.broken]]) rfl (by decide) rfl rfl rfl zjn (zok _ _ _ _ (by omega) (by omega)) (zai rfl (by decide) rfl (zan (zaf (zap (zap (zad (zag rfl (by decide) rfl (zaz rfl (by decide) rfl rfl (zbi (congrArg Value.bool (show (((pk x) : Int) == 2) = true from (beq_iff_eq.2 hm))) zaW) (zag rfl (by decide) rfl ?_)))))))))))))
     refine zam zcZ rfl (by decide) rfl (show _ = 2 from rfl) (zam zcN rfl (by decide) rfl (show _ = 3 from rfl) (zaP (k := 1) zcx rfl (by decide) rfl rfl rfl (zaz rfl (by decide) rfl rfl (zbi (congrArg Value.bool (show (decide ((0 : Int) < (n.t : Int))) = true from (decide_eq_true ht0))) zcO) (zas (b := true) rfl (by decide) rfl rfl (zag rfl (by decide) rfl (zam zhn rfl (by decide) rfl (show _ = 0 from rfl) (zaP (k := 1) zkf rfl (by decide) rfl rfl rfl (za9 (v := .bool false) (vs := [.int .i64 n.k]) rfl (by decide) rfl rfl rfl zmV (zlQ _ _ hb) (zdZ rfl (by decide) rfl zcG (zas (b := true) rfl (by decide) rfl rfl (zan (zaf (zaY rfl ?_)))))))))))))
     refine zap (zad (zam zcZ rfl (by decide) rfl (show _ = 2 from rfl) (zam zcN rfl (by decide) rfl (show _ = 3 from rfl) (zaP (k := 1) zcx rfl (by decide) rfl rfl rfl (zam zgu rfl (by decide) rfl (show _ = 1 from rfl) (zaP (k := 3) zcx rfl (by decide) rfl rfl rfl (zaz rfl (by decide) rfl rfl (zbs (r := (n.t : Int) + (x.w : Int)) (IntWalk.i64_in _ (by omega))) (zam zcZ rfl (by decide) rfl (show _ = 2 from rfl) (zam zcN rfl (by decide) rfl (show _ = 3 from rfl) ?_)))))))))
     refine zaN (k := 1) (l' := [.int .i64 n.k, .int .i32 (n.r : Int), .int .i64 (n.f : Int), .int .i64 ((n.t : Int) + (x.w : Int)), .bool n.al]) zdW rfl rfl rfl rfl rfl (fun _ _ => rfl) rfl ?_
     refine zan (zaf (zap (zad (zam zfU rfl (by decide) rfl (show _ = 4 from rfl) ?_))))
     refine zaN (k := 1) (l' := [.int .i64 n.k, .int .i32 (n.r : Int), .int .i64 (n.f : Int), .int .i64 ((n.t : Int) + (x.w : Int)), .bool false]) zeX rfl rfl rfl rfl rfl (fun _ _ => rfl) rfl ?_
     show TO _ _ _ _ _ _ _ _ _ _ [cells b1 [.func (.yield l) #[] #[]] 168, cells b2 [.int .i64 n.k, .int .i32 (n.r : Int), .int .i64 (n.f : Int), .int .i64 ((n.t : Int) + (x.w : Int)), .bool false] 150, I E, cells j [.int .i64 (x.i : Int), .int .i64 (x.w : Int), .int .i32 (x.r : Int), .bool x.broken] 173]
     refine zan (zaf (zbA (zaR (za2 ?_))))
     exact zcD (E, some ⟨n.k, n.r, n.f, n.t + x.w, false⟩) (by show zeY (pre ++ [x]) = _; rw [hsn]; simp only [zeR]; rw [if_pos ⟨hm, hb⟩]) (zak [0, 1, 2] (by as_aux_lemma => kernel_rfl) rfl)
    ·
     have hne : ¬ (pk x = 2 ∧ zg7 n.k = false) := fun h => by rw [hb] at h; cases h.2
     refine zaT (zap (zad (zbb (k := 3) (cs := [.int .i64 (x.i : Int), .int .i64 (x.w : Int), .int .i32 (x.r : Int), .bool x.broken]) zgl rfl (by decide) rfl rfl rfl rfl (za9 (v := .int .i64 (pk x)) (vs := [.agg #[.int .i64 (x.i : Int), .int .i64 (x.w : Int), .int .i32 (x.r : Int), .bool x.broken]]) rfl (by decide) rfl rfl rfl zjn (zok _ _ _ _ (by omega) (by omega)) (zai rfl (by decide) rfl (zan (zaf (zap (zap (zad (zag rfl (by decide) rfl (zaz rfl (by decide) rfl rfl (zbi (congrArg Value.bool (show (((pk x) : Int) == 2) = true from (beq_iff_eq.2 hm))) zaW) (zag rfl (by decide) rfl ?_)))))))))))))
     refine zam zcZ rfl (by decide) rfl (show _ = 2 from rfl) (zam zcN rfl (by decide) rfl (show _ = 3 from rfl) (zaP (k := 1) zcx rfl (by decide) rfl rfl rfl (zaz rfl (by decide) rfl rfl (zbi (congrArg Value.bool (show (decide ((0 : Int) < (n.t : Int))) = true from (decide_eq_true ht0))) zcO) (zas (b := true) rfl (by decide) rfl rfl (zag rfl (by decide) rfl (zam zhn rfl (by decide) rfl (show _ = 0 from rfl) (zaP (k := 1) zkf rfl (by decide) rfl rfl rfl (za9 (v := .bool true) (vs := [.int .i64 n.k]) rfl (by decide) rfl rfl rfl zmV (zlQ _ _ hb) (zdZ rfl (by decide) rfl zcG (zas (b := true) rfl (by decide) rfl rfl (zan (zaf (za0 rfl ?_)))))))))))))
     refine zaI (zaf (zap (zap (zad (zam zcZ rfl (by decide) rfl (show _ = 2 from rfl) (zam zcN rfl (by decide) rfl (show _ = 3 from rfl) (zaP (k := 1) zcx rfl (by decide) rfl rfl rfl (zaz rfl (by decide) rfl rfl (zbi (congrArg Value.bool (show (decide ((0 : Int) < (n.t : Int))) = true from (decide_eq_true ht0))) zcO) (zag rfl (by decide) rfl (zaP (k := 0) zln rfl (by decide) rfl rfl rfl (zbb (k := 1) (cs := [.int .i64 n.k, .int .i32 (n.r : Int), .int .i64 (n.f : Int), .int .i64 (n.t : Int), .bool n.al]) zc4 rfl (by decide) rfl rfl rfl rfl ?_)))))))))))
     obtain ⟨q, hq⟩ := zka pre post x E n hinv hne
     refine zdw (hy.later hext) rfl (by decide) rfl (hxs ▸ hq) rfl (k := 2) rfl ?_ ?_
     ·
      -- yes
      refine zdZ rfl (by decide) rfl zcG (zas (b := true) rfl (by decide) rfl rfl (zan (zaf (za0 rfl (zaI (zaf (zad (zag rfl (by decide) rfl (zam zhm rfl (by decide) rfl (show _ = 2 from rfl) (zaP (k := 3) zg8 rfl (by decide) rfl rfl rfl (zam zeK rfl (by decide) rfl (show _ = 0 from rfl) (zaP (k := 3) zcx rfl (by decide) rfl rfl rfl (zam zeK rfl (by decide) rfl (show _ = 0 from rfl) ?_)))))))))))))
      refine zaP (k := 3) zcx rfl (by decide) rfl rfl rfl (zam zgu rfl (by decide) rfl (show _ = 1 from rfl) (zaP (k := 3) zcx rfl (by decide) rfl rfl rfl (zaz rfl (by decide) rfl rfl (zbs (r := (x.i : Int) + (x.w : Int)) (IntWalk.i64_in _ (by omega))) ?_)))
      refine zba (v := .agg #[.int .i64 (x.i : Int), .int .i64 ((x.i : Int) + (x.w : Int))]) (ps := [(0, .tmp 48), (1, .tmp 53)]) rfl (by decide) rfl (fun _ => by kernel_rfl) ?_
      refine zba (v := .agg #[.int .i64 (pk x), .int .i32 (x.r : Int), .int .i64 (x.i : Int), .int .i64 ((x.i : Int) + (x.w : Int)), .bool true]) (ps := [(0, .tmp 44), (1, .tmp 46), (2, .tmp 54), (3, .const (.bool true))]) rfl (by decide) rfl (fun _ => by kernel_rfl) ?_
      refine za8 (k := 1) (vs := [.int .i64 (pk x), .int .i32 (x.r : Int), .int .i64 (x.i : Int), .int .i64 ((x.i : Int) + (x.w : Int)), .bool true]) (l' := [.int .i64 (pk x), .int .i32 (x.r : Int), .int .i64 (x.i : Int), .int .i64 ((x.i : Int) + (x.w : Int)), .bool true]) zfw rfl rfl rfl rfl rfl (show _ ≤ _ by simp) rfl rfl (zan (zaw ?_))
      exact zcD (E ++ [n], some (zkb x)) (by show zeY (pre ++ [x]) = _; rw [hsn]; simp only [zeR]; rw [if_neg hne]) (zak [0, 1, 2] (by as_aux_lemma => kernel_rfl) rfl)
     ·
      -- no
      refine zdZ rfl (by decide) rfl zcG (zas (b := true) rfl (by decide) rfl rfl (zan (zaf (zaY rfl (zaE (zav (zay ?_)))))))
      exact zc1 (E, n, q) ⟨rfl, (hxs ▸ hq)⟩ (zak [2] (by as_aux_lemma => kernel_rfl) rfl)
   ·
    have hne : ¬ (pk x = 2 ∧ zg7 n.k = false) := fun h => hm h.1
    refine zaT (zap (zad (zbb (k := 3) (cs := [.int .i64 (x.i : Int), .int .i64 (x.w : Int), .int .i32 (x.r : Int), .bool x.broken]) zgl rfl (by decide) rfl rfl rfl rfl (za9 (v := .int .i64 (pk x)) (vs := [.agg #[.int .i64 (x.i : Int), .int .i64 (x.w : Int), .int .i32 (x.r : Int), .bool x.broken]]) rfl (by decide) rfl rfl rfl zjn (zok _ _ _ _ (by omega) (by omega)) (zai rfl (by decide) rfl (zan (zaf (zap (zap (zad (zag rfl (by decide) rfl (zaz rfl (by decide) rfl rfl (zbi (congrArg Value.bool (show (((pk x) : Int) == 2) = false from (beq_eq_false_iff_ne.2 hm))) zaW) (zag rfl (by decide) rfl ?_)))))))))))))
    refine zae rfl (by decide) (zae rfl (by decide) (zae rfl (by decide) (zae rfl (by decide) (zas (b := false) rfl (by decide) rfl rfl (zag rfl (by decide) rfl (zae rfl (by decide) (zae rfl (by decide) (zae rfl (by decide) (zae rfl (by decide) (zas (b := false) rfl (by decide) rfl rfl (zan (zaf (za0 rfl ?_)))))))))))))
    refine zaI (zaf (zap (zap (zad (zam zcZ rfl (by decide) rfl (show _ = 2 from rfl) (zam zcN rfl (by decide) rfl (show _ = 3 from rfl) (zaP (k := 1) zcx rfl (by decide) rfl rfl rfl (zaz rfl (by decide) rfl rfl (zbi (congrArg Value.bool (show (decide ((0 : Int) < (n.t : Int))) = true from (decide_eq_true ht0))) zcO) (zag rfl (by decide) rfl (zaP (k := 0) zln rfl (by decide) rfl rfl rfl (zbb (k := 1) (cs := [.int .i64 n.k, .int .i32 (n.r : Int), .int .i64 (n.f : Int), .int .i64 (n.t : Int), .bool n.al]) zc4 rfl (by decide) rfl rfl rfl rfl ?_)))))))))))
    obtain ⟨q, hq⟩ := zka pre post x E n hinv hne
    refine zdw (hy.later hext) rfl (by decide) rfl (hxs ▸ hq) rfl (k := 2) rfl ?_ ?_
    ·
     -- yes
     refine zdZ rfl (by decide) rfl zcG (zas (b := true) rfl (by decide) rfl rfl (zan (zaf (za0 rfl (zaI (zaf (zad (zag rfl (by decide) rfl (zam zhm rfl (by decide) rfl (show _ = 2 from rfl) (zaP (k := 3) zg8 rfl (by decide) rfl rfl rfl (zam zeK rfl (by decide) rfl (show _ = 0 from rfl) (zaP (k := 3) zcx rfl (by decide) rfl rfl rfl (zam zeK rfl (by decide) rfl (show _ = 0 from rfl) ?_)))))))))))))
     refine zaP (k := 3) zcx rfl (by decide) rfl rfl rfl (zam zgu rfl (by decide) rfl (show _ = 1 from rfl) (zaP (k := 3) zcx rfl (by decide) rfl rfl rfl (zaz rfl (by decide) rfl rfl (zbs (r := (x.i : Int) + (x.w : Int)) (IntWalk.i64_in _ (by omega))) ?_)))
     refine zba (v := .agg #[.int .i64 (x.i : Int), .int .i64 ((x.i : Int) + (x.w : Int))]) (ps := [(0, .tmp 48), (1, .tmp 53)]) rfl (by decide) rfl (fun _ => by kernel_rfl) ?_
     refine zba (v := .agg #[.int .i64 (pk x), .int .i32 (x.r : Int), .int .i64 (x.i : Int), .int .i64 ((x.i : Int) + (x.w : Int)), .bool true]) (ps := [(0, .tmp 44), (1, .tmp 46), (2, .tmp 54), (3, .const (.bool true))]) rfl (by decide) rfl (fun _ => by kernel_rfl) ?_
     refine za8 (k := 1) (vs := [.int .i64 (pk x), .int .i32 (x.r : Int), .int .i64 (x.i : Int), .int .i64 ((x.i : Int) + (x.w : Int)), .bool true]) (l' := [.int .i64 (pk x), .int .i32 (x.r : Int), .int .i64 (x.i : Int), .int .i64 ((x.i : Int) + (x.w : Int)), .bool true]) zfw rfl rfl rfl rfl rfl (show _ ≤ _ by simp) rfl rfl (zan (zaw ?_))
     exact zcD (E ++ [n], some (zkb x)) (by show zeY (pre ++ [x]) = _; rw [hsn]; simp only [zeR]; rw [if_neg hne]) (zak [0, 1, 2] (by as_aux_lemma => kernel_rfl) rfl)
    ·
     -- no
     refine zdZ rfl (by decide) rfl zcG (zas (b := true) rfl (by decide) rfl rfl (zan (zaf (zaY rfl (zaE (zav (zay ?_)))))))
     exact zc1 (E, n, q) ⟨rfl, (hxs ▸ hq)⟩ (zak [2] (by as_aux_lemma => kernel_rfl) rfl)
 ·
  rintro d b hinv
  show TX _ _ _ _ _ _ _ [emp, emp, emp, cells bp [.string s] 9, cells b1 [.func (.yield l) #[] #[]] 168, cells b2 [.int .i64 (uK b.2), .int .i32 (uR b.2), .int .i64 (uF b.2), .int .i64 (uT b.2), .bool (uA b.2)] 150, I b.1, zbJ d]
  obtain ⟨E, o⟩ := b
  have hinv : zeY (pcs s.data.toList) = (E, o) := hinv
  rcases o with _ | n
  ·
   show TX _ _ _ _ _ _ _ [emp, emp, emp, cells bp [.string s] 9, cells b1 [.func (.yield l) #[] #[]] 168, cells b2 [.int .i64 0, .int .i32 0, .int .i64 0, .int .i64 0, .bool false] 150, I E, zbJ d]
   refine zaw (zaf (zap (zad (zam zcZ rfl (by decide) rfl (show _ = 2 from rfl) (zam zcN rfl (by decide) rfl (show _ = 3 from rfl) (zaP (k := 5) zcx rfl (by decide) rfl rfl rfl (zaz rfl (by decide) rfl rfl (zbi (congrArg Value.bool (show (decide ((0 : Int) < 0)) = false from (by decide))) zcO) (zan (zaf (za0 rfl (zaI ?_)))))))))))
   have he : I (units (pcs s.data.toList)) = I E := by unfold units; rw [hinv]; rfl
   exact zfN (ds := [d]) (.inr rfl) (zak [7] (by as_aux_lemma => kernel_rfl) rfl) Tryd.results103 he (zak [6] (by as_aux_lemma => kernel_rfl) rfl)
  ·
   show TX _ _ _ _ _ _ _ [emp, emp, emp, cells bp [.string s] 9, cells b1 [.func (.yield l) #[] #[]] 168, cells b2 [.int .i64 n.k, .int .i32 (n.r : Int), .int .i64 (n.f : Int), .int .i64 (n.t : Int), .bool n.al] 150, I E, zbJ d]
   have hwf := zhu s.data.toList _ (pcs s.data.toList) [] (Nat.le_refl _) (by simp) E n hinv
   have ht0 : (0 : Int) < n.t := by have := hwf.1; omega
   refine zaw (zaf (zap (zad (zam zcZ rfl (by decide) rfl (show _ = 2 from rfl) (zam zcN rfl (by decide) rfl (show _ = 3 from rfl) (zaP (k := 5) zcx rfl (by decide) rfl rfl rfl (zaz rfl (by decide) rfl rfl (zbi (congrArg Value.bool (show (decide ((0 : Int) < (n.t : Int))) = true from (decide_eq_true ht0))) zcO) (zan (zaf (zaY rfl (zad (zaP (k := 4) zln rfl (by decide) rfl rfl rfl (zbb (k := 5) (cs := [.int .i64 n.k, .int .i32 (n.r : Int), .int .i64 (n.f : Int), .int .i64 (n.t : Int), .bool n.al]) zc4 rfl (by decide) rfl rfl rfl rfl ?_)))))))))))))
   refine zdw hy rfl (by decide) rfl (pre := E) (e := n) (post := []) (zgG _ E n hinv) rfl (k := 6) rfl ?_ ?_
   ·
    -- yes
    refine zan ?_
    have he : I (units (pcs s.data.toList)) = I (E ++ [n]) := by rw [zgG _ E n hinv]
    exact zfN (ds := [d]) (.inr rfl) (zak [7] (by as_aux_lemma => kernel_rfl) rfl) Tryd.results103 he (zak [6] (by as_aux_lemma => kernel_rfl) rfl)
   ·
    -- no
    refine zan ?_
    exact zfO (ds := [d]) E n [] (zgG _ E n hinv) (.inr rfl) (zak [7] (by as_aux_lemma => kernel_rfl) rfl) Tryd.results103 (zak [6] (by as_aux_lemma => kernel_rfl) rfl)
 ·
  rintro d c pre x post g hxs hX
  show TC _ _ _ _ _ _ _ _ _ [emp, emp, emp, cells bp [.string s] 9, X (g.1 ++ [g.2.1]), zbJ d]
  obtain ⟨E, n, q⟩ := g
  obtain ⟨rfl, hq⟩ := hX
  refine zaE (zay (zav ?_))
  exact zfO (ds := [d]) E n q hq (.inl rfl) (zak [5] (by as_aux_lemma => kernel_rfl) rfl) Tryd.results103 (zak [4] (by as_aux_lemma => kernel_rfl) rfl)

theorem zl2 (s : ByteArray) : Fn Tryd.prog 87 [.string s] [] (fun b : Nat => .func (.func 103) #[] #[.pointer (some ⟨b, 0, none⟩)]) (fun b => [cells b [.string s] 9]) := by
 refine Fn.intro Tryd.func87 rfl Tryd.ntmps87 (by simp) ?_
 intro w0 K
 refine zap (zad ?_)
 refine zdF rfl (by decide) rfl (fun b1 => ?_)
 refine zai rfl (by decide) rfl (zan (zaf (zap (zad (zdO (x1 := []) (x2 := [.tmp 1]) rfl (by decide) rfl rfl (zai rfl (by decide) rfl (zan (zaf (zaE ?_)))))))))
 exact zaM (rs := [.tmp 2]) b1 (.inl rfl) Tryd.results87 (.cons (.tmp rfl) .nil) rfl (zak [0] (by as_aux_lemma => kernel_rfl) rfl)
end Go.Proofs.YtgfkogafkhbgnaaDoor
namespace Go.Proofs.YtgfkogafkhbgnaaDoor
open Go.RowKit Go.Lib
set_option linter.unusedVariables false
set_option linter.unusedSimpArgs false
def scV (s : Sc) : List Value := [.int .i64 s.st, .int .i64 s.tk.k, .int .i64 s.tk.f, .int .i64 s.tk.t, .int .i64 s.h.k, .int .i32 s.h.r, .int .i64 s.h.f, .int .i64 s.h.t, .bool s.h.al]
def tkV (t : Tk) : List Value := [.int .i64 t.k, .int .i64 t.f, .int .i64 t.t]
def tkA (t : Tk) : List Value := [.agg (tkV t).toArray]
def zaA (s : Sc) (u : Un) : Sc := ⟨(zbM s.st u).1, s.tk, if (zbM s.st u).2 = 2 then u else s.h⟩
theorem Holds.fact {w0 w : World} {K : Nat → Prop} {L : List Asn} {p : Prop} (h : Holds w0 K L w) (hp : p) : Holds w0 K (L ++ [fact p]) w :=
  h.grow (C' := fun _ => False) (Ext.refl _ _) (sepL.one (A := Go.Proofs.YtgfkogafkhbgnaaDoor.fact p) ⟨fun _ h => h, hp⟩)
theorem zgX {P : Program} {F : Fence} {w0 : World} {K : Nat → Prop} {N : Nat} {σ : List (Nat × Value)} {L R As : List Asn} {fn : Func} {rs : List ResultVar} {vs : List Value} {β : Type} {V : β → Value} {Bs : β → List Asn} {e : Exit} {p : Prop} (b : β)
    (he : e = .ret ∨ e = .normal) (hrs : fn.results = rs.toArray) (hres : ResOks P σ L rs vs) (hv : zfy vs = V b) (hs : Splits L As R) (hp : p) (hB : Bs b = As ++ [fact p] := by rfl) :
    TX w0 K N [] (bodyPostM F 0 P fn (FR P V Bs w0 K)) e σ L := by
  intro a w ha hw
  have h1 := zev hrs hres ha hw
  have h2 : LeavesInM F 0 P fn a.tmps (FR P V Bs w0 K) a.defers .returning w := by
    rw [ha.2.1]
    exact ⟨zfy vs, h1, b, by rw [hv], by rw [hB]; exact (hw.weaken hs).fact hp⟩
  rcases he with rfl | rfl <;> exact h2
theorem zjU (b : Nat) (s : Sc) (u : Un) : Fn Tryd.prog 88 [.pointer (some ⟨b, 0, none⟩), .agg #[.int .i64 u.k, .int .i32 u.r, .int .i64 u.f, .int .i64 u.t, .bool u.al]] [cells b (scV s) 152] (fun _ : Unit => .int .i64 (zbM s.st u).2) (fun _ => [cells b (scV (zaA s u)) 152]) := by
 refine Fn.intro Tryd.func88 rfl Tryd.ntmps88 (by simp) ?_
 intro w0 K
 show TC _ _ _ _ _ _ _ _ _ [cells b [.int .i64 s.st, .int .i64 s.tk.k, .int .i64 (s.tk.f : Int), .int .i64 (s.tk.t : Int), .int .i64 s.h.k, .int .i32 (s.h.r : Int), .int .i64 (s.h.f : Int), .int .i64 (s.h.t : Int), .bool s.h.al] 152]
 refine zap (zad ?_)
 refine zdF rfl (by decide) rfl (fun b1 => ?_)
 refine zai rfl (by decide) rfl (zan (zaf (zap (zad (zam zhn rfl (by decide) rfl (show _ = 0 from rfl) (zaP (k := 1) zkf rfl (by decide) rfl rfl rfl (zai rfl (by decide) rfl (zan (zaf (zap (zap (zad (zag rfl (by decide) rfl ?_)))))))))))))
 refine zaC rfl (by decide) rfl (zam zbn rfl (by decide) rfl (show _ = 0 from rfl) (zaP (k := 0) zcx rfl (by decide) rfl rfl rfl (zan (zaf (zaT (zap (zap (zad (zaz rfl (by decide) rfl rfl zaW (zai rfl (by decide) rfl (zan (zaf ?_))))))))))))
 refine zaF rfl (fun h1 => ?_) (fun h1 => ?_)
 ·
  -- yes
  have h1 := beq_iff_eq.1 h1
  refine zaI (zaf ?_)
  refine zaF rfl (fun h2 => ?_) (fun h2 => ?_)
  ·
   -- yes
   have h2 := beq_iff_eq.1 h2
   refine zap (zap (zad (zag rfl (by decide) rfl (zaz rfl (by decide) rfl rfl zaW (zan (zaf ?_))))))
   refine zaF rfl (fun h3 => ?_) (fun h3 => ?_)
   ·
    -- yes
    have h3 := beq_iff_eq.1 h3
    refine zap (zad (zag rfl (by decide) rfl (zaC rfl (by decide) rfl (zam zbn rfl (by decide) rfl (show _ = 0 from rfl) ?_))))
    refine zaN (k := 0) (l' := [.int .i64 1, .int .i64 s.tk.k, .int .i64 (s.tk.f : Int), .int .i64 (s.tk.t : Int), .int .i64 s.h.k, .int .i32 (s.h.r : Int), .int .i64 (s.h.f : Int), .int .i64 (s.h.t : Int), .bool s.h.al]) zdW rfl rfl rfl rfl rfl (fun _ _ => rfl) rfl ?_
    refine zan (zaf (zap (zad (zai rfl (by decide) rfl (zan (zaf (zaE (zav (zay (zav ?_))))))))))
    have hfit : zbM s.st u = (1, 1) := by unfold zbM; simp_all <;> omega
    have hB : [.int .i64 1, .int .i64 s.tk.k, .int .i64 (s.tk.f : Int), .int .i64 (s.tk.t : Int), .int .i64 s.h.k, .int .i32 (s.h.r : Int), .int .i64 (s.h.f : Int), .int .i64 (s.h.t : Int), .bool s.h.al] = scV (zaA s u) := by unfold zaA; rw [hfit]; rfl
    refine za4 (k := 0) rfl (show cells b [.int .i64 1, .int .i64 s.tk.k, .int .i64 (s.tk.f : Int), .int .i64 (s.tk.t : Int), .int .i64 s.h.k, .int .i32 (s.h.r : Int), .int .i64 (s.h.f : Int), .int .i64 (s.h.t : Int), .bool s.h.al] 152 = cells b (scV (zaA s u)) 152 from (congrArg (fun z => cells b z 152) hB)) ?_
    show TX _ _ _ _ _ _ _ [cells b (scV (zaA s u)) 152, cells b1 [.int .i64 u.k, .int .i32 (u.r : Int), .int .i64 (u.f : Int), .int .i64 (u.t : Int), .bool u.al] 150]
    exact zaM (rs := [.tmp 4]) () (.inl rfl) Tryd.results88 (.cons (.tmp rfl) .nil) (by rw [hfit]; rfl) (zak [0] (by as_aux_lemma => kernel_rfl) rfl)
   ·
    -- no
    have h3 := beq_eq_false_iff_ne.1 h3
    refine zaI (zaf (zap (zad (zag rfl (by decide) rfl (zaC rfl (by decide) rfl (zam zbn rfl (by decide) rfl (show _ = 0 from rfl) (zaP (k := 0) zcx rfl (by decide) rfl rfl rfl (zaz rfl (by decide) rfl rfl zaW (zag rfl (by decide) rfl ?_)))))))))
    refine zaV (s := 25) rfl (fun h4 => ?_) (fun h4 => ?_)
    ·
     -- yes
     have h4 := beq_iff_eq.1 h4
     refine zbb (k := 1) (cs := [.int .i64 u.k, .int .i32 (u.r : Int), .int .i64 (u.f : Int), .int .i64 (u.t : Int), .bool u.al]) zc4 rfl (by decide) rfl rfl rfl rfl (za9 (v := .bool (zhc u)) (vs := [.agg #[.int .i64 u.k, .int .i32 (u.r : Int), .int .i64 (u.f : Int), .int .i64 (u.t : Int), .bool u.al]]) rfl (by decide) rfl rfl rfl zmU (zlA u) (zas (b := true) rfl (by decide) rfl rfl (zan (zaf ?_))))
     refine zaF rfl (fun h5 => ?_) (fun h5 => ?_)
     ·
      -- yes
      refine zap ?_
      refine zen (β := Unit) 6 5 _ [(0, 29, .pointer (some ⟨b, 0, none⟩)), (1, 30, .pointer (some ⟨b, 0, none⟩)), (2, 31, .agg #[.int .i64 u.k, .int .i32 (u.r : Int), .int .i64 (u.f : Int), .int .i64 (u.t : Int), .bool u.al]), (3, 32, .pointer (some ⟨b, 0, none⟩)), (4, 33, .pointer (some ⟨b, 0, none⟩))] (fun _b => []) (fun _b => [cells b [.int .i64 2, .int .i64 s.tk.k, .int .i64 (s.tk.f : Int), .int .i64 (s.tk.t : Int), .int .i64 s.h.k, .int .i32 (s.h.r : Int), .int .i64 (s.h.f : Int), .int .i64 (s.h.t : Int), .bool s.h.al] 152, cells b1 [.int .i64 u.k, .int .i32 (u.r : Int), .int .i64 (u.f : Int), .int .i64 (u.t : Int), .bool u.al] 150]) mixed (by as_aux_lemma => kernel_rfl) (by as_aux_lemma => kernel_rfl) rfl (by decide) (by decide) (by rfl) (by as_aux_lemma => kernel_rfl) (by as_aux_lemma => kernel_rfl) (DrawPreX.cons ?_ (DrawPreX.cons ?_ (DrawPreX.cons ?_ (DrawPreX.cons ?_ (DrawPreX.cons ?_ (zbo DrawPreX.nil)))))) (fun _b => (DrawPreX.cons ?_ (DrawPreX.cons ?_ (DrawPreX.cons ?_ (DrawPreX.cons ?_ (DrawPreX.cons ?_ (zbo DrawPreX.nil))))))) ?_ ?_
      ·
       intro D hn hd hcl hu hi
       refine zag rfl (by decide) (zaS (by rfl) rfl) ?_
       exact zar 0 hu hi rfl
      ·
       intro D hn hd hcl hu hi
       refine zag rfl (by decide) (zaS (by rfl) rfl) ?_
       exact zar 1 hu hi rfl
      ·
       intro D hn hd hcl hu hi
       refine zbb (k := 1) (cs := [.int .i64 u.k, .int .i32 (u.r : Int), .int .i64 (u.f : Int), .int .i64 (u.t : Int), .bool u.al]) zc4 rfl (by decide) (zaS (by rfl) rfl) rfl rfl rfl ?_
       exact zar 2 hu hi rfl
      ·
       intro D hn hd hcl hu hi
       refine zaC rfl (by decide) (zaj (m := 0) hu rfl (hd 0 (by decide))) ?_
       exact zar 3 hu hi rfl
      ·
       intro D hn hd hcl hu hi
       refine zam zbn rfl (by decide) (zaj (m := 3) hu rfl (hd 3 (by decide))) (show _ = 0 from rfl) ?_
       exact zar 4 hu hi rfl
      ·
       intro D hn hd hcl hu hi
       refine zag rfl (by decide) (zaS (by rfl) rfl) ?_
       exact zar 0 hu hi rfl
      ·
       intro D hn hd hcl hu hi
       refine zag rfl (by decide) (zaS (by rfl) rfl) ?_
       exact zar 1 hu hi rfl
      ·
       intro D hn hd hcl hu hi
       refine zbb (k := 1) (cs := [.int .i64 u.k, .int .i32 (u.r : Int), .int .i64 (u.f : Int), .int .i64 (u.t : Int), .bool u.al]) zc4 rfl (by decide) (zaS (by rfl) rfl) rfl rfl rfl ?_
       exact zar 2 hu hi rfl
      ·
       intro D hn hd hcl hu hi
       refine zaC rfl (by decide) (zaj (m := 0) hu rfl (hd 0 (by decide))) ?_
       exact zar 3 hu hi rfl
      ·
       intro D hn hd hcl hu hi
       refine zam zbn rfl (by decide) (zaj (m := 3) hu rfl (hd 3 (by decide))) (show _ = 0 from rfl) ?_
       exact zar 4 hu hi rfl
      ·
       intro D hn hd hcl
       refine zaN (k := 0) (l' := [.int .i64 2, .int .i64 s.tk.k, .int .i64 (s.tk.f : Int), .int .i64 (s.tk.t : Int), .int .i64 s.h.k, .int .i32 (s.h.r : Int), .int .i64 (s.h.f : Int), .int .i64 (s.h.t : Int), .bool s.h.al]) zdW rfl (zaj (m := 4) (by as_aux_lemma => kernel_rfl) rfl (hd 4 (by decide))) rfl rfl rfl (fun _ _ => rfl) rfl ?_
       exact fun a w ha hw => ⟨(), ha, hw⟩
      intro _b
      show TO _ _ _ _ _ _ _ _ _ _ [cells b [.int .i64 2, .int .i64 s.tk.k, .int .i64 (s.tk.f : Int), .int .i64 (s.tk.t : Int), .int .i64 s.h.k, .int .i32 (s.h.r : Int), .int .i64 (s.h.f : Int), .int .i64 (s.h.t : Int), .bool s.h.al] 152, cells b1 [.int .i64 u.k, .int .i32 (u.r : Int), .int .i64 (u.f : Int), .int .i64 (u.t : Int), .bool u.al] 150]
      refine zaC rfl (by decide) rfl (zam zeL rfl (by decide) rfl (show _ = 4 from rfl) (za8 (k := 0) (vs := [.int .i64 u.k, .int .i32 (u.r : Int), .int .i64 (u.f : Int), .int .i64 (u.t : Int), .bool u.al]) (l' := [.int .i64 2, .int .i64 s.tk.k, .int .i64 (s.tk.f : Int), .int .i64 (s.tk.t : Int), .int .i64 u.k, .int .i32 (u.r : Int), .int .i64 (u.f : Int), .int .i64 (u.t : Int), .bool u.al]) zfw rfl rfl rfl rfl rfl (show _ ≤ _ by simp) rfl rfl (zan (zaf (zap (zad (zai rfl (by decide) rfl (zan (zaf (zaE (zay (zav ?_))))))))))))
      have hfit : zbM s.st u = (2, 2) := by unfold zbM; simp_all <;> omega
      have hB : [.int .i64 2, .int .i64 s.tk.k, .int .i64 (s.tk.f : Int), .int .i64 (s.tk.t : Int), .int .i64 u.k, .int .i32 (u.r : Int), .int .i64 (u.f : Int), .int .i64 (u.t : Int), .bool u.al] = scV (zaA s u) := by unfold zaA; rw [hfit]; rfl
      refine za4 (k := 0) rfl (show cells b [.int .i64 2, .int .i64 s.tk.k, .int .i64 (s.tk.f : Int), .int .i64 (s.tk.t : Int), .int .i64 u.k, .int .i32 (u.r : Int), .int .i64 (u.f : Int), .int .i64 (u.t : Int), .bool u.al] 152 = cells b (scV (zaA s u)) 152 from (congrArg (fun z => cells b z 152) hB)) ?_
      show TX _ _ _ _ _ _ _ [cells b (scV (zaA s u)) 152, cells b1 [.int .i64 u.k, .int .i32 (u.r : Int), .int .i64 (u.f : Int), .int .i64 (u.t : Int), .bool u.al] 150]
      exact zaM (rs := [.tmp 4]) () (.inl rfl) Tryd.results88 (.cons (.tmp rfl) .nil) (by rw [hfit]; rfl) (zak [0] (by as_aux_lemma => kernel_rfl) rfl)
     ·
      -- no
      refine zaI (zaw (zaf (zap (zad (zai rfl (by decide) rfl (zan (zaf (zaE ?_))))))))
      have hfit : zbM s.st u = (s.st, 0) := by unfold zbM; simp_all <;> omega
      have hB : [.int .i64 s.st, .int .i64 s.tk.k, .int .i64 (s.tk.f : Int), .int .i64 (s.tk.t : Int), .int .i64 s.h.k, .int .i32 (s.h.r : Int), .int .i64 (s.h.f : Int), .int .i64 (s.h.t : Int), .bool s.h.al] = scV (zaA s u) := by unfold zaA; rw [hfit]; rfl
      refine za4 (k := 0) rfl (show cells b [.int .i64 s.st, .int .i64 s.tk.k, .int .i64 (s.tk.f : Int), .int .i64 (s.tk.t : Int), .int .i64 s.h.k, .int .i32 (s.h.r : Int), .int .i64 (s.h.f : Int), .int .i64 (s.h.t : Int), .bool s.h.al] 152 = cells b (scV (zaA s u)) 152 from (congrArg (fun z => cells b z 152) hB)) ?_
      show TX _ _ _ _ _ _ _ [cells b (scV (zaA s u)) 152, cells b1 [.int .i64 u.k, .int .i32 (u.r : Int), .int .i64 (u.f : Int), .int .i64 (u.t : Int), .bool u.al] 150]
      exact zaM (rs := [.tmp 4]) () (.inl rfl) Tryd.results88 (.cons (.tmp rfl) .nil) (by rw [hfit]; rfl) (zak [0] (by as_aux_lemma => kernel_rfl) rfl)
    ·
     -- no
     have h4 := beq_eq_false_iff_ne.1 h4
     refine zae rfl (by decide) (zae rfl (by decide) (zas (b := false) rfl (by decide) rfl rfl (zan (zaf (za0 rfl (zaI (zaw (zaf (zap (zad (zai rfl (by decide) rfl (zan (zaf ?_)))))))))))))
     refine zaE ?_
     have hfit : zbM s.st u = (s.st, 0) := by unfold zbM; simp_all <;> omega
     have hB : [.int .i64 s.st, .int .i64 s.tk.k, .int .i64 (s.tk.f : Int), .int .i64 (s.tk.t : Int), .int .i64 s.h.k, .int .i32 (s.h.r : Int), .int .i64 (s.h.f : Int), .int .i64 (s.h.t : Int), .bool s.h.al] = scV (zaA s u) := by unfold zaA; rw [hfit]; rfl
     refine za4 (k := 0) rfl (show cells b [.int .i64 s.st, .int .i64 s.tk.k, .int .i64 (s.tk.f : Int), .int .i64 (s.tk.t : Int), .int .i64 s.h.k, .int .i32 (s.h.r : Int), .int .i64 (s.h.f : Int), .int .i64 (s.h.t : Int), .bool s.h.al] 152 = cells b (scV (zaA s u)) 152 from (congrArg (fun z => cells b z 152) hB)) ?_
     show TX _ _ _ _ _ _ _ [cells b (scV (zaA s u)) 152, cells b1 [.int .i64 u.k, .int .i32 (u.r : Int), .int .i64 (u.f : Int), .int .i64 (u.t : Int), .bool u.al] 150]
     exact zaM (rs := [.tmp 4]) () (.inl rfl) Tryd.results88 (.cons (.tmp rfl) .nil) (by rw [hfit]; rfl) (zak [0] (by as_aux_lemma => kernel_rfl) rfl)
  ·
   -- no
   have h2 := beq_eq_false_iff_ne.1 h2
   refine zap (zap (zad (zaz rfl (by decide) rfl rfl zaW (zai rfl (by decide) rfl (zan (zaf ?_))))))
   refine zaF rfl (fun h6 => ?_) (fun h6 => ?_)
   ·
    -- yes
    have h6 := beq_iff_eq.1 h6
    refine zaI (zaf ?_)
    refine zaF rfl (fun h7 => ?_) (fun h7 => ?_)
    ·
     -- yes
     have h7 := beq_iff_eq.1 h7
     refine zap (zap (zad (zag rfl (by decide) rfl (zaz rfl (by decide) rfl rfl zaW (zan (zaf ?_))))))
     refine zaF rfl (fun h8 => ?_) (fun h8 => ?_)
     ·
      -- yes
      have h8 := beq_iff_eq.1 h8
      refine zap (zad (zag rfl (by decide) rfl (zaC rfl (by decide) rfl (zam zbn rfl (by decide) rfl (show _ = 0 from rfl) ?_))))
      refine zaN (k := 0) (l' := [.int .i64 3, .int .i64 s.tk.k, .int .i64 (s.tk.f : Int), .int .i64 (s.tk.t : Int), .int .i64 s.h.k, .int .i32 (s.h.r : Int), .int .i64 (s.h.f : Int), .int .i64 (s.h.t : Int), .bool s.h.al]) zdW rfl rfl rfl rfl rfl (fun _ _ => rfl) rfl ?_
      refine zan (zaf (zap (zad (zai rfl (by decide) rfl (zan (zaf (zaE (zav (zay (zav ?_))))))))))
      have hfit : zbM s.st u = (3, 1) := by unfold zbM; simp_all <;> omega
      have hB : [.int .i64 3, .int .i64 s.tk.k, .int .i64 (s.tk.f : Int), .int .i64 (s.tk.t : Int), .int .i64 s.h.k, .int .i32 (s.h.r : Int), .int .i64 (s.h.f : Int), .int .i64 (s.h.t : Int), .bool s.h.al] = scV (zaA s u) := by unfold zaA; rw [hfit]; rfl
      refine za4 (k := 0) rfl (show cells b [.int .i64 3, .int .i64 s.tk.k, .int .i64 (s.tk.f : Int), .int .i64 (s.tk.t : Int), .int .i64 s.h.k, .int .i32 (s.h.r : Int), .int .i64 (s.h.f : Int), .int .i64 (s.h.t : Int), .bool s.h.al] 152 = cells b (scV (zaA s u)) 152 from (congrArg (fun z => cells b z 152) hB)) ?_
      show TX _ _ _ _ _ _ _ [cells b (scV (zaA s u)) 152, cells b1 [.int .i64 u.k, .int .i32 (u.r : Int), .int .i64 (u.f : Int), .int .i64 (u.t : Int), .bool u.al] 150]
      exact zaM (rs := [.tmp 4]) () (.inl rfl) Tryd.results88 (.cons (.tmp rfl) .nil) (by rw [hfit]; rfl) (zak [0] (by as_aux_lemma => kernel_rfl) rfl)
     ·
      -- no
      have h8 := beq_eq_false_iff_ne.1 h8
      refine zaI (zaf (zap (zad (zag rfl (by decide) rfl (zaC rfl (by decide) rfl (zam zbn rfl (by decide) rfl (show _ = 0 from rfl) (zaP (k := 0) zcx rfl (by decide) rfl rfl rfl (zaz rfl (by decide) rfl rfl zaW (zag rfl (by decide) rfl ?_)))))))))
      refine zaV (s := 49) rfl (fun h9 => ?_) (fun h9 => ?_)
      ·
       -- yes
       have h9 := beq_iff_eq.1 h9
       refine zbb (k := 1) (cs := [.int .i64 u.k, .int .i32 (u.r : Int), .int .i64 (u.f : Int), .int .i64 (u.t : Int), .bool u.al]) zc4 rfl (by decide) rfl rfl rfl rfl (za9 (v := .bool (dot u)) (vs := [.agg #[.int .i64 u.k, .int .i32 (u.r : Int), .int .i64 (u.f : Int), .int .i64 (u.t : Int), .bool u.al]]) rfl (by decide) rfl rfl rfl zkt (zmt u) (zas (b := true) rfl (by decide) rfl rfl (zan (zaf ?_))))
       refine zaF rfl (fun h10 => ?_) (fun h10 => ?_)
       ·
        -- yes
        refine zap ?_
        refine zen (β := Unit) 6 5 _ [(0, 53, .pointer (some ⟨b, 0, none⟩)), (1, 54, .pointer (some ⟨b, 0, none⟩)), (2, 55, .agg #[.int .i64 u.k, .int .i32 (u.r : Int), .int .i64 (u.f : Int), .int .i64 (u.t : Int), .bool u.al]), (3, 56, .pointer (some ⟨b, 0, none⟩)), (4, 57, .pointer (some ⟨b, 0, none⟩))] (fun _b => []) (fun _b => [cells b [.int .i64 4, .int .i64 s.tk.k, .int .i64 (s.tk.f : Int), .int .i64 (s.tk.t : Int), .int .i64 s.h.k, .int .i32 (s.h.r : Int), .int .i64 (s.h.f : Int), .int .i64 (s.h.t : Int), .bool s.h.al] 152, cells b1 [.int .i64 u.k, .int .i32 (u.r : Int), .int .i64 (u.f : Int), .int .i64 (u.t : Int), .bool u.al] 150]) mixed (by as_aux_lemma => kernel_rfl) (by as_aux_lemma => kernel_rfl) rfl (by decide) (by decide) (by rfl) (by as_aux_lemma => kernel_rfl) (by as_aux_lemma => kernel_rfl) (DrawPreX.cons ?_ (DrawPreX.cons ?_ (DrawPreX.cons ?_ (DrawPreX.cons ?_ (DrawPreX.cons ?_ (zbo DrawPreX.nil)))))) (fun _b => (DrawPreX.cons ?_ (DrawPreX.cons ?_ (DrawPreX.cons ?_ (DrawPreX.cons ?_ (DrawPreX.cons ?_ (zbo DrawPreX.nil))))))) ?_ ?_
        ·
         intro D hn hd hcl hu hi
         refine zag rfl (by decide) (zaS (by rfl) rfl) ?_
         exact zar 0 hu hi rfl
        ·
         intro D hn hd hcl hu hi
         refine zag rfl (by decide) (zaS (by rfl) rfl) ?_
         exact zar 1 hu hi rfl
        ·
         intro D hn hd hcl hu hi
         refine zbb (k := 1) (cs := [.int .i64 u.k, .int .i32 (u.r : Int), .int .i64 (u.f : Int), .int .i64 (u.t : Int), .bool u.al]) zc4 rfl (by decide) (zaS (by rfl) rfl) rfl rfl rfl ?_
         exact zar 2 hu hi rfl
        ·
         intro D hn hd hcl hu hi
         refine zaC rfl (by decide) (zaj (m := 0) hu rfl (hd 0 (by decide))) ?_
         exact zar 3 hu hi rfl
        ·
         intro D hn hd hcl hu hi
         refine zam zbn rfl (by decide) (zaj (m := 3) hu rfl (hd 3 (by decide))) (show _ = 0 from rfl) ?_
         exact zar 4 hu hi rfl
        ·
         intro D hn hd hcl hu hi
         refine zag rfl (by decide) (zaS (by rfl) rfl) ?_
         exact zar 0 hu hi rfl
        ·
         intro D hn hd hcl hu hi
         refine zag rfl (by decide) (zaS (by rfl) rfl) ?_
         exact zar 1 hu hi rfl
        ·
         intro D hn hd hcl hu hi
         refine zbb (k := 1) (cs := [.int .i64 u.k, .int .i32 (u.r : Int), .int .i64 (u.f : Int), .int .i64 (u.t : Int), .bool u.al]) zc4 rfl (by decide) (zaS (by rfl) rfl) rfl rfl rfl ?_
         exact zar 2 hu hi rfl
        ·
         intro D hn hd hcl hu hi
         refine zaC rfl (by decide) (zaj (m := 0) hu rfl (hd 0 (by decide))) ?_
         exact zar 3 hu hi rfl
        ·
         intro D hn hd hcl hu hi
         refine zam zbn rfl (by decide) (zaj (m := 3) hu rfl (hd 3 (by decide))) (show _ = 0 from rfl) ?_
         exact zar 4 hu hi rfl
        ·
         intro D hn hd hcl
         refine zaN (k := 0) (l' := [.int .i64 4, .int .i64 s.tk.k, .int .i64 (s.tk.f : Int), .int .i64 (s.tk.t : Int), .int .i64 s.h.k, .int .i32 (s.h.r : Int), .int .i64 (s.h.f : Int), .int .i64 (s.h.t : Int), .bool s.h.al]) zdW rfl (zaj (m := 4) (by as_aux_lemma => kernel_rfl) rfl (hd 4 (by decide))) rfl rfl rfl (fun _ _ => rfl) rfl ?_
         exact fun a w ha hw => ⟨(), ha, hw⟩
        intro _b
        show TO _ _ _ _ _ _ _ _ _ _ [cells b [.int .i64 4, .int .i64 s.tk.k, .int .i64 (s.tk.f : Int), .int .i64 (s.tk.t : Int), .int .i64 s.h.k, .int .i32 (s.h.r : Int), .int .i64 (s.h.f : Int), .int .i64 (s.h.t : Int), .bool s.h.al] 152, cells b1 [.int .i64 u.k, .int .i32 (u.r : Int), .int .i64 (u.f : Int), .int .i64 (u.t : Int), .bool u.al] 150]
        refine zaC rfl (by decide) rfl (zam zeL rfl (by decide) rfl (show _ = 4 from rfl) (za8 (k := 0) (vs := [.int .i64 u.k, .int .i32 (u.r : Int), .int .i64 (u.f : Int), .int .i64 (u.t : Int), .bool u.al]) (l' := [.int .i64 4, .int .i64 s.tk.k, .int .i64 (s.tk.f : Int), .int .i64 (s.tk.t : Int), .int .i64 u.k, .int .i32 (u.r : Int), .int .i64 (u.f : Int), .int .i64 (u.t : Int), .bool u.al]) zfw rfl rfl rfl rfl rfl (show _ ≤ _ by simp) rfl rfl (zan (zaf (zap (zad (zai rfl (by decide) rfl (zan (zaf (zaE (zay (zav ?_))))))))))))
        have hfit : zbM s.st u = (4, 2) := by unfold zbM; simp_all <;> omega
        have hB : [.int .i64 4, .int .i64 s.tk.k, .int .i64 (s.tk.f : Int), .int .i64 (s.tk.t : Int), .int .i64 u.k, .int .i32 (u.r : Int), .int .i64 (u.f : Int), .int .i64 (u.t : Int), .bool u.al] = scV (zaA s u) := by unfold zaA; rw [hfit]; rfl
        refine za4 (k := 0) rfl (show cells b [.int .i64 4, .int .i64 s.tk.k, .int .i64 (s.tk.f : Int), .int .i64 (s.tk.t : Int), .int .i64 u.k, .int .i32 (u.r : Int), .int .i64 (u.f : Int), .int .i64 (u.t : Int), .bool u.al] 152 = cells b (scV (zaA s u)) 152 from (congrArg (fun z => cells b z 152) hB)) ?_
        show TX _ _ _ _ _ _ _ [cells b (scV (zaA s u)) 152, cells b1 [.int .i64 u.k, .int .i32 (u.r : Int), .int .i64 (u.f : Int), .int .i64 (u.t : Int), .bool u.al] 150]
        exact zaM (rs := [.tmp 4]) () (.inl rfl) Tryd.results88 (.cons (.tmp rfl) .nil) (by rw [hfit]; rfl) (zak [0] (by as_aux_lemma => kernel_rfl) rfl)
       ·
        -- no
        refine zaI (zaw (zaf (zap (zad (zai rfl (by decide) rfl (zan (zaf (zaE ?_))))))))
        have hfit : zbM s.st u = (s.st, 0) := by unfold zbM; simp_all <;> omega
        have hB : [.int .i64 s.st, .int .i64 s.tk.k, .int .i64 (s.tk.f : Int), .int .i64 (s.tk.t : Int), .int .i64 s.h.k, .int .i32 (s.h.r : Int), .int .i64 (s.h.f : Int), .int .i64 (s.h.t : Int), .bool s.h.al] = scV (zaA s u) := by unfold zaA; rw [hfit]; rfl
        refine za4 (k := 0) rfl (show cells b [.int .i64 s.st, .int .i64 s.tk.k, .int .i64 (s.tk.f : Int), .int .i64 (s.tk.t : Int), .int .i64 s.h.k, .int .i32 (s.h.r : Int), .int .i64 (s.h.f : Int), .int .i64 (s.h.t : Int), .bool s.h.al] 152 = cells b (scV (zaA s u)) 152 from (congrArg (fun z => cells b z 152) hB)) ?_
        show TX _ _ _ _ _ _ _ [cells b (scV (zaA s u)) 152, cells b1 [.int .i64 u.k, .int .i32 (u.r : Int), .int .i64 (u.f : Int), .int .i64 (u.t : Int), .bool u.al] 150]
        exact zaM (rs := [.tmp 4]) () (.inl rfl) Tryd.results88 (.cons (.tmp rfl) .nil) (by rw [hfit]; rfl) (zak [0] (by as_aux_lemma => kernel_rfl) rfl)
      ·
       -- no
       have h9 := beq_eq_false_iff_ne.1 h9
       refine zae rfl (by decide) (zae rfl (by decide) (zas (b := false) rfl (by decide) rfl rfl (zan (zaf (za0 rfl (zaI (zaw (zaf (zap (zad (zai rfl (by decide) rfl (zan (zaf ?_)))))))))))))
       refine zaE ?_
       have hfit : zbM s.st u = (s.st, 0) := by unfold zbM; simp_all <;> omega
       have hB : [.int .i64 s.st, .int .i64 s.tk.k, .int .i64 (s.tk.f : Int), .int .i64 (s.tk.t : Int), .int .i64 s.h.k, .int .i32 (s.h.r : Int), .int .i64 (s.h.f : Int), .int .i64 (s.h.t : Int), .bool s.h.al] = scV (zaA s u) := by unfold zaA; rw [hfit]; rfl
       refine za4 (k := 0) rfl (show cells b [.int .i64 s.st, .int .i64 s.tk.k, .int .i64 (s.tk.f : Int), .int .i64 (s.tk.t : Int), .int .i64 s.h.k, .int .i32 (s.h.r : Int), .int .i64 (s.h.f : Int), .int .i64 (s.h.t : Int), .bool s.h.al] 152 = cells b (scV (zaA s u)) 152 from (congrArg (fun z => cells b z 152) hB)) ?_
       show TX _ _ _ _ _ _ _ [cells b (scV (zaA s u)) 152, cells b1 [.int .i64 u.k, .int .i32 (u.r : Int), .int .i64 (u.f : Int), .int .i64 (u.t : Int), .bool u.al] 150]
       exact zaM (rs := [.tmp 4]) () (.inl rfl) Tryd.results88 (.cons (.tmp rfl) .nil) (by rw [hfit]; rfl) (zak [0] (by as_aux_lemma => kernel_rfl) rfl)
    ·
     -- no
     have h7 := beq_eq_false_iff_ne.1 h7
     refine zap (zad (zaz rfl (by decide) rfl rfl zaW (zai rfl (by decide) rfl (zan (zaf ?_)))))
     refine zaF rfl (fun h11 => ?_) (fun h11 => ?_)
     ·
      -- yes
      have h11 := beq_iff_eq.1 h11
      refine zap (zad (zag rfl (by decide) rfl (zaz rfl (by decide) rfl rfl zaW (zan (zaf ?_)))))
      refine zaF rfl (fun h12 => ?_) (fun h12 => ?_)
      ·
       -- yes
       have h12 := beq_iff_eq.1 h12
       refine zap (zad (zai rfl (by decide) rfl (zan (zaf (zaE (zay (zav ?_)))))))
       have hfit : zbM s.st u = (s.st, 1) := by unfold zbM; simp_all <;> omega
       have hB : [.int .i64 s.st, .int .i64 s.tk.k, .int .i64 (s.tk.f : Int), .int .i64 (s.tk.t : Int), .int .i64 s.h.k, .int .i32 (s.h.r : Int), .int .i64 (s.h.f : Int), .int .i64 (s.h.t : Int), .bool s.h.al] = scV (zaA s u) := by unfold zaA; rw [hfit]; rfl
       refine za4 (k := 0) rfl (show cells b [.int .i64 s.st, .int .i64 s.tk.k, .int .i64 (s.tk.f : Int), .int .i64 (s.tk.t : Int), .int .i64 s.h.k, .int .i32 (s.h.r : Int), .int .i64 (s.h.f : Int), .int .i64 (s.h.t : Int), .bool s.h.al] 152 = cells b (scV (zaA s u)) 152 from (congrArg (fun z => cells b z 152) hB)) ?_
       show TX _ _ _ _ _ _ _ [cells b (scV (zaA s u)) 152, cells b1 [.int .i64 u.k, .int .i32 (u.r : Int), .int .i64 (u.f : Int), .int .i64 (u.t : Int), .bool u.al] 150]
       exact zaM (rs := [.tmp 4]) () (.inl rfl) Tryd.results88 (.cons (.tmp rfl) .nil) (by rw [hfit]; rfl) (zak [0] (by as_aux_lemma => kernel_rfl) rfl)
      ·
       -- no
       have h12 := beq_eq_false_iff_ne.1 h12
       refine zaI (zaw (zaf (zap (zad (zai rfl (by decide) rfl (zan (zaf (zaE ?_))))))))
       have hfit : zbM s.st u = (s.st, 0) := by unfold zbM; simp_all <;> omega
       have hB : [.int .i64 s.st, .int .i64 s.tk.k, .int .i64 (s.tk.f : Int), .int .i64 (s.tk.t : Int), .int .i64 s.h.k, .int .i32 (s.h.r : Int), .int .i64 (s.h.f : Int), .int .i64 (s.h.t : Int), .bool s.h.al] = scV (zaA s u) := by unfold zaA; rw [hfit]; rfl
       refine za4 (k := 0) rfl (show cells b [.int .i64 s.st, .int .i64 s.tk.k, .int .i64 (s.tk.f : Int), .int .i64 (s.tk.t : Int), .int .i64 s.h.k, .int .i32 (s.h.r : Int), .int .i64 (s.h.f : Int), .int .i64 (s.h.t : Int), .bool s.h.al] 152 = cells b (scV (zaA s u)) 152 from (congrArg (fun z => cells b z 152) hB)) ?_
       show TX _ _ _ _ _ _ _ [cells b (scV (zaA s u)) 152, cells b1 [.int .i64 u.k, .int .i32 (u.r : Int), .int .i64 (u.f : Int), .int .i64 (u.t : Int), .bool u.al] 150]
       exact zaM (rs := [.tmp 4]) () (.inl rfl) Tryd.results88 (.cons (.tmp rfl) .nil) (by rw [hfit]; rfl) (zak [0] (by as_aux_lemma => kernel_rfl) rfl)
     ·
      -- no
      have h11 := beq_eq_false_iff_ne.1 h11
      refine zap (zad (zaz rfl (by decide) rfl rfl zaW (zai rfl (by decide) rfl (zan (zaf ?_)))))
      refine zaF rfl (fun h13 => ?_) (fun h13 => ?_)
      ·
       -- yes
       have h13 := beq_iff_eq.1 h13
       refine zap (zad (zag rfl (by decide) rfl (zaz rfl (by decide) rfl rfl zaW (zan (zaf ?_)))))
       refine zaF rfl (fun h14 => ?_) (fun h14 => ?_)
       ·
        -- yes
        have h14 := beq_iff_eq.1 h14
        refine zap (zad (zai rfl (by decide) rfl (zan (zaf (zaE (zay (zav ?_)))))))
        have hfit : zbM s.st u = (s.st, 1) := by unfold zbM; simp_all <;> omega
        have hB : [.int .i64 s.st, .int .i64 s.tk.k, .int .i64 (s.tk.f : Int), .int .i64 (s.tk.t : Int), .int .i64 s.h.k, .int .i32 (s.h.r : Int), .int .i64 (s.h.f : Int), .int .i64 (s.h.t : Int), .bool s.h.al] = scV (zaA s u) := by unfold zaA; rw [hfit]; rfl
        refine za4 (k := 0) rfl (show cells b [.int .i64 s.st, .int .i64 s.tk.k, .int .i64 (s.tk.f : Int), .int .i64 (s.tk.t : Int), .int .i64 s.h.k, .int .i32 (s.h.r : Int), .int .i64 (s.h.f : Int), .int .i64 (s.h.t : Int), .bool s.h.al] 152 = cells b (scV (zaA s u)) 152 from (congrArg (fun z => cells b z 152) hB)) ?_
        show TX _ _ _ _ _ _ _ [cells b (scV (zaA s u)) 152, cells b1 [.int .i64 u.k, .int .i32 (u.r : Int), .int .i64 (u.f : Int), .int .i64 (u.t : Int), .bool u.al] 150]
        exact zaM (rs := [.tmp 4]) () (.inl rfl) Tryd.results88 (.cons (.tmp rfl) .nil) (by rw [hfit]; rfl) (zak [0] (by as_aux_lemma => kernel_rfl) rfl)
       ·
        -- no
        have h14 := beq_eq_false_iff_ne.1 h14
        refine zaI (zaw (zaf (zap (zad (zai rfl (by decide) rfl (zan (zaf (zaE ?_))))))))
        have hfit : zbM s.st u = (s.st, 0) := by unfold zbM; simp_all <;> omega
        have hB : [.int .i64 s.st, .int .i64 s.tk.k, .int .i64 (s.tk.f : Int), .int .i64 (s.tk.t : Int), .int .i64 s.h.k, .int .i32 (s.h.r : Int), .int .i64 (s.h.f : Int), .int .i64 (s.h.t : Int), .bool s.h.al] = scV (zaA s u) := by unfold zaA; rw [hfit]; rfl
        refine za4 (k := 0) rfl (show cells b [.int .i64 s.st, .int .i64 s.tk.k, .int .i64 (s.tk.f : Int), .int .i64 (s.tk.t : Int), .int .i64 s.h.k, .int .i32 (s.h.r : Int), .int .i64 (s.h.f : Int), .int .i64 (s.h.t : Int), .bool s.h.al] 152 = cells b (scV (zaA s u)) 152 from (congrArg (fun z => cells b z 152) hB)) ?_
        show TX _ _ _ _ _ _ _ [cells b (scV (zaA s u)) 152, cells b1 [.int .i64 u.k, .int .i32 (u.r : Int), .int .i64 (u.f : Int), .int .i64 (u.t : Int), .bool u.al] 150]
        exact zaM (rs := [.tmp 4]) () (.inl rfl) Tryd.results88 (.cons (.tmp rfl) .nil) (by rw [hfit]; rfl) (zak [0] (by as_aux_lemma => kernel_rfl) rfl)
      ·
       -- no
       have h13 := beq_eq_false_iff_ne.1 h13
       refine zap (zad (zaz rfl (by decide) rfl rfl zaW (zai rfl (by decide) rfl (zan (zaf ?_)))))
       refine zaF rfl (fun h15 => ?_) (fun h15 => ?_)
       ·
        -- yes
        have h15 := beq_iff_eq.1 h15
        refine zap (zad (zag rfl (by decide) rfl (zaz rfl (by decide) rfl rfl zaW (zag rfl (by decide) rfl ?_))))
        refine zaV (s := 72) rfl (fun h16 => ?_) (fun h16 => ?_)
        ·
         -- yes
         have h16 := beq_iff_eq.1 h16
         refine zam zeM rfl (by decide) rfl (show _ = 1 from rfl) (zaP (k := 1) zg8 rfl (by decide) rfl rfl rfl (zaz rfl (by decide) rfl rfl zaW (zas (b := true) rfl (by decide) rfl rfl (zan (zaf ?_)))))
         refine zaF rfl (fun h17 => ?_) (fun h17 => ?_)
         ·
          -- yes
          have h17 := beq_iff_eq.1 h17
          refine zap (zad (zag rfl (by decide) rfl (zaC rfl (by decide) rfl (zam zbn rfl (by decide) rfl (show _ = 0 from rfl) ?_))))
          refine zaN (k := 0) (l' := [.int .i64 7, .int .i64 s.tk.k, .int .i64 (s.tk.f : Int), .int .i64 (s.tk.t : Int), .int .i64 s.h.k, .int .i32 (s.h.r : Int), .int .i64 (s.h.f : Int), .int .i64 (s.h.t : Int), .bool s.h.al]) zdW rfl rfl rfl rfl rfl (fun _ _ => rfl) rfl ?_
          refine zan (zaf (zap (zad (zai rfl (by decide) rfl (zan (zaf (zaE (zay (zav ?_)))))))))
          have hfit : zbM s.st u = (7, 1) := by unfold zbM; simp_all <;> omega
          have hB : [.int .i64 7, .int .i64 s.tk.k, .int .i64 (s.tk.f : Int), .int .i64 (s.tk.t : Int), .int .i64 s.h.k, .int .i32 (s.h.r : Int), .int .i64 (s.h.f : Int), .int .i64 (s.h.t : Int), .bool s.h.al] = scV (zaA s u) := by unfold zaA; rw [hfit]; rfl
          refine za4 (k := 0) rfl (show cells b [.int .i64 7, .int .i64 s.tk.k, .int .i64 (s.tk.f : Int), .int .i64 (s.tk.t : Int), .int .i64 s.h.k, .int .i32 (s.h.r : Int), .int .i64 (s.h.f : Int), .int .i64 (s.h.t : Int), .bool s.h.al] 152 = cells b (scV (zaA s u)) 152 from (congrArg (fun z => cells b z 152) hB)) ?_
          show TX _ _ _ _ _ _ _ [cells b (scV (zaA s u)) 152, cells b1 [.int .i64 u.k, .int .i32 (u.r : Int), .int .i64 (u.f : Int), .int .i64 (u.t : Int), .bool u.al] 150]
          exact zaM (rs := [.tmp 4]) () (.inl rfl) Tryd.results88 (.cons (.tmp rfl) .nil) (by rw [hfit]; rfl) (zak [0] (by as_aux_lemma => kernel_rfl) rfl)
         ·
          -- no
          have h17 := beq_eq_false_iff_ne.1 h17
          refine zaI (zaw (zaf (zap (zad (zai rfl (by decide) rfl (zan (zaf (zaE ?_))))))))
          have hfit : zbM s.st u = (s.st, 0) := by unfold zbM; simp_all <;> omega
          have hB : [.int .i64 s.st, .int .i64 s.tk.k, .int .i64 (s.tk.f : Int), .int .i64 (s.tk.t : Int), .int .i64 s.h.k, .int .i32 (s.h.r : Int), .int .i64 (s.h.f : Int), .int .i64 (s.h.t : Int), .bool s.h.al] = scV (zaA s u) := by unfold zaA; rw [hfit]; rfl
          refine za4 (k := 0) rfl (show cells b [.int .i64 s.st, .int .i64 s.tk.k, .int .i64 (s.tk.f : Int), .int .i64 (s.tk.t : Int), .int .i64 s.h.k, .int .i32 (s.h.r : Int), .int .i64 (s.h.f : Int), .int .i64 (s.h.t : Int), .bool s.h.al] 152 = cells b (scV (zaA s u)) 152 from (congrArg (fun z => cells b z 152) hB)) ?_
          show TX _ _ _ _ _ _ _ [cells b (scV (zaA s u)) 152, cells b1 [.int .i64 u.k, .int .i32 (u.r : Int), .int .i64 (u.f : Int), .int .i64 (u.t : Int), .bool u.al] 150]
          exact zaM (rs := [.tmp 4]) () (.inl rfl) Tryd.results88 (.cons (.tmp rfl) .nil) (by rw [hfit]; rfl) (zak [0] (by as_aux_lemma => kernel_rfl) rfl)
        ·
         -- no
         have h16 := beq_eq_false_iff_ne.1 h16
         refine zae rfl (by decide) (zae rfl (by decide) (zae rfl (by decide) (zas (b := false) rfl (by decide) rfl rfl (zan (zaf (za0 rfl (zaI (zaw (zaf (zap (zad (zai rfl (by decide) rfl (zan ?_)))))))))))))
         refine zaf (zaE ?_)
         have hfit : zbM s.st u = (s.st, 0) := by unfold zbM; simp_all <;> omega
         have hB : [.int .i64 s.st, .int .i64 s.tk.k, .int .i64 (s.tk.f : Int), .int .i64 (s.tk.t : Int), .int .i64 s.h.k, .int .i32 (s.h.r : Int), .int .i64 (s.h.f : Int), .int .i64 (s.h.t : Int), .bool s.h.al] = scV (zaA s u) := by unfold zaA; rw [hfit]; rfl
         refine za4 (k := 0) rfl (show cells b [.int .i64 s.st, .int .i64 s.tk.k, .int .i64 (s.tk.f : Int), .int .i64 (s.tk.t : Int), .int .i64 s.h.k, .int .i32 (s.h.r : Int), .int .i64 (s.h.f : Int), .int .i64 (s.h.t : Int), .bool s.h.al] 152 = cells b (scV (zaA s u)) 152 from (congrArg (fun z => cells b z 152) hB)) ?_
         show TX _ _ _ _ _ _ _ [cells b (scV (zaA s u)) 152, cells b1 [.int .i64 u.k, .int .i32 (u.r : Int), .int .i64 (u.f : Int), .int .i64 (u.t : Int), .bool u.al] 150]
         exact zaM (rs := [.tmp 4]) () (.inl rfl) Tryd.results88 (.cons (.tmp rfl) .nil) (by rw [hfit]; rfl) (zak [0] (by as_aux_lemma => kernel_rfl) rfl)
       ·
        -- no
        have h15 := beq_eq_false_iff_ne.1 h15
        refine zaI (zaw (zaf (zap (zad (zai rfl (by decide) rfl (zan (zaf (zaE ?_))))))))
        have hfit : zbM s.st u = (s.st, 0) := by unfold zbM; simp_all <;> omega
        have hB : [.int .i64 s.st, .int .i64 s.tk.k, .int .i64 (s.tk.f : Int), .int .i64 (s.tk.t : Int), .int .i64 s.h.k, .int .i32 (s.h.r : Int), .int .i64 (s.h.f : Int), .int .i64 (s.h.t : Int), .bool s.h.al] = scV (zaA s u) := by unfold zaA; rw [hfit]; rfl
        refine za4 (k := 0) rfl (show cells b [.int .i64 s.st, .int .i64 s.tk.k, .int .i64 (s.tk.f : Int), .int .i64 (s.tk.t : Int), .int .i64 s.h.k, .int .i32 (s.h.r : Int), .int .i64 (s.h.f : Int), .int .i64 (s.h.t : Int), .bool s.h.al] 152 = cells b (scV (zaA s u)) 152 from (congrArg (fun z => cells b z 152) hB)) ?_
        show TX _ _ _ _ _ _ _ [cells b (scV (zaA s u)) 152, cells b1 [.int .i64 u.k, .int .i32 (u.r : Int), .int .i64 (u.f : Int), .int .i64 (u.t : Int), .bool u.al] 150]
        exact zaM (rs := [.tmp 4]) () (.inl rfl) Tryd.results88 (.cons (.tmp rfl) .nil) (by rw [hfit]; rfl) (zak [0] (by as_aux_lemma => kernel_rfl) rfl)
   ·
    -- no
    have h6 := beq_eq_false_iff_ne.1 h6
    refine zad (zaz rfl (by decide) rfl rfl zaW (zai rfl (by decide) rfl (zan (zaf ?_))))
    refine zaF rfl (fun h18 => ?_) (fun h18 => ?_)
    ·
     -- yes
     have h18 := beq_iff_eq.1 h18
     refine zap (zap (zad (zag rfl (by decide) rfl (zaz rfl (by decide) rfl rfl zaW (zan (zaf ?_))))))
     refine zaF rfl (fun h19 => ?_) (fun h19 => ?_)
     ·
      -- yes
      have h19 := beq_iff_eq.1 h19
      refine zap (zad (zag rfl (by decide) rfl (zaC rfl (by decide) rfl (zam zbn rfl (by decide) rfl (show _ = 0 from rfl) ?_))))
      refine zaN (k := 0) (l' := [.int .i64 3, .int .i64 s.tk.k, .int .i64 (s.tk.f : Int), .int .i64 (s.tk.t : Int), .int .i64 s.h.k, .int .i32 (s.h.r : Int), .int .i64 (s.h.f : Int), .int .i64 (s.h.t : Int), .bool s.h.al]) zdW rfl rfl rfl rfl rfl (fun _ _ => rfl) rfl ?_
      refine zan (zaf (zap (zad (zai rfl (by decide) rfl (zan (zaf (zaE (zav (zay (zav ?_))))))))))
      have hfit : zbM s.st u = (3, 1) := by unfold zbM; simp_all <;> omega
      have hB : [.int .i64 3, .int .i64 s.tk.k, .int .i64 (s.tk.f : Int), .int .i64 (s.tk.t : Int), .int .i64 s.h.k, .int .i32 (s.h.r : Int), .int .i64 (s.h.f : Int), .int .i64 (s.h.t : Int), .bool s.h.al] = scV (zaA s u) := by unfold zaA; rw [hfit]; rfl
      refine za4 (k := 0) rfl (show cells b [.int .i64 3, .int .i64 s.tk.k, .int .i64 (s.tk.f : Int), .int .i64 (s.tk.t : Int), .int .i64 s.h.k, .int .i32 (s.h.r : Int), .int .i64 (s.h.f : Int), .int .i64 (s.h.t : Int), .bool s.h.al] 152 = cells b (scV (zaA s u)) 152 from (congrArg (fun z => cells b z 152) hB)) ?_
      show TX _ _ _ _ _ _ _ [cells b (scV (zaA s u)) 152, cells b1 [.int .i64 u.k, .int .i32 (u.r : Int), .int .i64 (u.f : Int), .int .i64 (u.t : Int), .bool u.al] 150]
      exact zaM (rs := [.tmp 4]) () (.inl rfl) Tryd.results88 (.cons (.tmp rfl) .nil) (by rw [hfit]; rfl) (zak [0] (by as_aux_lemma => kernel_rfl) rfl)
     ·
      -- no
      have h19 := beq_eq_false_iff_ne.1 h19
      refine zaI (zaf (zap (zad (zag rfl (by decide) rfl (zaC rfl (by decide) rfl (zam zbn rfl (by decide) rfl (show _ = 0 from rfl) (zaP (k := 0) zcx rfl (by decide) rfl rfl rfl (zaz rfl (by decide) rfl rfl zaW (zag rfl (by decide) rfl ?_)))))))))
      refine zaV (s := 49) rfl (fun h20 => ?_) (fun h20 => ?_)
      ·
       -- yes
       have h20 := beq_iff_eq.1 h20
       refine zbb (k := 1) (cs := [.int .i64 u.k, .int .i32 (u.r : Int), .int .i64 (u.f : Int), .int .i64 (u.t : Int), .bool u.al]) zc4 rfl (by decide) rfl rfl rfl rfl (za9 (v := .bool (dot u)) (vs := [.agg #[.int .i64 u.k, .int .i32 (u.r : Int), .int .i64 (u.f : Int), .int .i64 (u.t : Int), .bool u.al]]) rfl (by decide) rfl rfl rfl zkt (zmt u) (zas (b := true) rfl (by decide) rfl rfl (zan (zaf ?_))))
       refine zaF rfl (fun h21 => ?_) (fun h21 => ?_)
       ·
        -- yes
        refine zap ?_
        refine zen (β := Unit) 6 5 _ [(0, 53, .pointer (some ⟨b, 0, none⟩)), (1, 54, .pointer (some ⟨b, 0, none⟩)), (2, 55, .agg #[.int .i64 u.k, .int .i32 (u.r : Int), .int .i64 (u.f : Int), .int .i64 (u.t : Int), .bool u.al]), (3, 56, .pointer (some ⟨b, 0, none⟩)), (4, 57, .pointer (some ⟨b, 0, none⟩))] (fun _b => []) (fun _b => [cells b [.int .i64 4, .int .i64 s.tk.k, .int .i64 (s.tk.f : Int), .int .i64 (s.tk.t : Int), .int .i64 s.h.k, .int .i32 (s.h.r : Int), .int .i64 (s.h.f : Int), .int .i64 (s.h.t : Int), .bool s.h.al] 152, cells b1 [.int .i64 u.k, .int .i32 (u.r : Int), .int .i64 (u.f : Int), .int .i64 (u.t : Int), .bool u.al] 150]) mixed (by as_aux_lemma => kernel_rfl) (by as_aux_lemma => kernel_rfl) rfl (by decide) (by decide) (by rfl) (by as_aux_lemma => kernel_rfl) (by as_aux_lemma => kernel_rfl) (DrawPreX.cons ?_ (DrawPreX.cons ?_ (DrawPreX.cons ?_ (DrawPreX.cons ?_ (DrawPreX.cons ?_ (zbo DrawPreX.nil)))))) (fun _b => (DrawPreX.cons ?_ (DrawPreX.cons ?_ (DrawPreX.cons ?_ (DrawPreX.cons ?_ (DrawPreX.cons ?_ (zbo DrawPreX.nil))))))) ?_ ?_
        ·
         intro D hn hd hcl hu hi
         refine zag rfl (by decide) (zaS (by rfl) rfl) ?_
         exact zar 0 hu hi rfl
        ·
         intro D hn hd hcl hu hi
         refine zag rfl (by decide) (zaS (by rfl) rfl) ?_
         exact zar 1 hu hi rfl
        ·
         intro D hn hd hcl hu hi
         refine zbb (k := 1) (cs := [.int .i64 u.k, .int .i32 (u.r : Int), .int .i64 (u.f : Int), .int .i64 (u.t : Int), .bool u.al]) zc4 rfl (by decide) (zaS (by rfl) rfl) rfl rfl rfl ?_
         exact zar 2 hu hi rfl
        ·
         intro D hn hd hcl hu hi
         refine zaC rfl (by decide) (zaj (m := 0) hu rfl (hd 0 (by decide))) ?_
         exact zar 3 hu hi rfl
        ·
         intro D hn hd hcl hu hi
         refine zam zbn rfl (by decide) (zaj (m := 3) hu rfl (hd 3 (by decide))) (show _ = 0 from rfl) ?_
         exact zar 4 hu hi rfl
        ·
         intro D hn hd hcl hu hi
         refine zag rfl (by decide) (zaS (by rfl) rfl) ?_
         exact zar 0 hu hi rfl
        ·
         intro D hn hd hcl hu hi
         refine zag rfl (by decide) (zaS (by rfl) rfl) ?_
         exact zar 1 hu hi rfl
        ·
         intro D hn hd hcl hu hi
         refine zbb (k := 1) (cs := [.int .i64 u.k, .int .i32 (u.r : Int), .int .i64 (u.f : Int), .int .i64 (u.t : Int), .bool u.al]) zc4 rfl (by decide) (zaS (by rfl) rfl) rfl rfl rfl ?_
         exact zar 2 hu hi rfl
        ·
         intro D hn hd hcl hu hi
         refine zaC rfl (by decide) (zaj (m := 0) hu rfl (hd 0 (by decide))) ?_
         exact zar 3 hu hi rfl
        ·
         intro D hn hd hcl hu hi
         refine zam zbn rfl (by decide) (zaj (m := 3) hu rfl (hd 3 (by decide))) (show _ = 0 from rfl) ?_
         exact zar 4 hu hi rfl
        ·
         intro D hn hd hcl
         refine zaN (k := 0) (l' := [.int .i64 4, .int .i64 s.tk.k, .int .i64 (s.tk.f : Int), .int .i64 (s.tk.t : Int), .int .i64 s.h.k, .int .i32 (s.h.r : Int), .int .i64 (s.h.f : Int), .int .i64 (s.h.t : Int), .bool s.h.al]) zdW rfl (zaj (m := 4) (by as_aux_lemma => kernel_rfl) rfl (hd 4 (by decide))) rfl rfl rfl (fun _ _ => rfl) rfl ?_
         exact fun a w ha hw => ⟨(), ha, hw⟩
        intro _b
        show TO _ _ _ _ _ _ _ _ _ _ [cells b [.int .i64 4, .int .i64 s.tk.k, .int .i64 (s.tk.f : Int), .int .i64 (s.tk.t : Int), .int .i64 s.h.k, .int .i32 (s.h.r : Int), .int .i64 (s.h.f : Int), .int .i64 (s.h.t : Int), .bool s.h.al] 152, cells b1 [.int .i64 u.k, .int .i32 (u.r : Int), .int .i64 (u.f : Int), .int .i64 (u.t : Int), .bool u.al] 150]
        refine zaC rfl (by decide) rfl (zam zeL rfl (by decide) rfl (show _ = 4 from rfl) (za8 (k := 0) (vs := [.int .i64 u.k, .int .i32 (u.r : Int), .int .i64 (u.f : Int), .int .i64 (u.t : Int), .bool u.al]) (l' := [.int .i64 4, .int .i64 s.tk.k, .int .i64 (s.tk.f : Int), .int .i64 (s.tk.t : Int), .int .i64 u.k, .int .i32 (u.r : Int), .int .i64 (u.f : Int), .int .i64 (u.t : Int), .bool u.al]) zfw rfl rfl rfl rfl rfl (show _ ≤ _ by simp) rfl rfl (zan (zaf (zap (zad (zai rfl (by decide) rfl (zan (zaf (zaE (zay (zav ?_))))))))))))
        have hfit : zbM s.st u = (4, 2) := by unfold zbM; simp_all <;> omega
        have hB : [.int .i64 4, .int .i64 s.tk.k, .int .i64 (s.tk.f : Int), .int .i64 (s.tk.t : Int), .int .i64 u.k, .int .i32 (u.r : Int), .int .i64 (u.f : Int), .int .i64 (u.t : Int), .bool u.al] = scV (zaA s u) := by unfold zaA; rw [hfit]; rfl
        refine za4 (k := 0) rfl (show cells b [.int .i64 4, .int .i64 s.tk.k, .int .i64 (s.tk.f : Int), .int .i64 (s.tk.t : Int), .int .i64 u.k, .int .i32 (u.r : Int), .int .i64 (u.f : Int), .int .i64 (u.t : Int), .bool u.al] 152 = cells b (scV (zaA s u)) 152 from (congrArg (fun z => cells b z 152) hB)) ?_
        show TX _ _ _ _ _ _ _ [cells b (scV (zaA s u)) 152, cells b1 [.int .i64 u.k, .int .i32 (u.r : Int), .int .i64 (u.f : Int), .int .i64 (u.t : Int), .bool u.al] 150]
        exact zaM (rs := [.tmp 4]) () (.inl rfl) Tryd.results88 (.cons (.tmp rfl) .nil) (by rw [hfit]; rfl) (zak [0] (by as_aux_lemma => kernel_rfl) rfl)
       ·
        -- no
        refine zaI (zaw (zaf (zap (zad (zai rfl (by decide) rfl (zan (zaf (zaE ?_))))))))
        have hfit : zbM s.st u = (s.st, 0) := by unfold zbM; simp_all <;> omega
        have hB : [.int .i64 s.st, .int .i64 s.tk.k, .int .i64 (s.tk.f : Int), .int .i64 (s.tk.t : Int), .int .i64 s.h.k, .int .i32 (s.h.r : Int), .int .i64 (s.h.f : Int), .int .i64 (s.h.t : Int), .bool s.h.al] = scV (zaA s u) := by unfold zaA; rw [hfit]; rfl
        refine za4 (k := 0) rfl (show cells b [.int .i64 s.st, .int .i64 s.tk.k, .int .i64 (s.tk.f : Int), .int .i64 (s.tk.t : Int), .int .i64 s.h.k, .int .i32 (s.h.r : Int), .int .i64 (s.h.f : Int), .int .i64 (s.h.t : Int), .bool s.h.al] 152 = cells b (scV (zaA s u)) 152 from (congrArg (fun z => cells b z 152) hB)) ?_
        show TX _ _ _ _ _ _ _ [cells b (scV (zaA s u)) 152, cells b1 [.int .i64 u.k, .int .i32 (u.r : Int), .int .i64 (u.f : Int), .int .i64 (u.t : Int), .bool u.al] 150]
        exact zaM (rs := [.tmp 4]) () (.inl rfl) Tryd.results88 (.cons (.tmp rfl) .nil) (by rw [hfit]; rfl) (zak [0] (by as_aux_lemma => kernel_rfl) rfl)
      ·
       -- no
       have h20 := beq_eq_false_iff_ne.1 h20
       refine zae rfl (by decide) (zae rfl (by decide) (zas (b := false) rfl (by decide) rfl rfl (zan (zaf (za0 rfl (zaI (zaw (zaf (zap (zad (zai rfl (by decide) rfl (zan (zaf ?_)))))))))))))
       refine zaE ?_
       have hfit : zbM s.st u = (s.st, 0) := by unfold zbM; simp_all <;> omega
       have hB : [.int .i64 s.st, .int .i64 s.tk.k, .int .i64 (s.tk.f : Int), .int .i64 (s.tk.t : Int), .int .i64 s.h.k, .int .i32 (s.h.r : Int), .int .i64 (s.h.f : Int), .int .i64 (s.h.t : Int), .bool s.h.al] = scV (zaA s u) := by unfold zaA; rw [hfit]; rfl
       refine za4 (k := 0) rfl (show cells b [.int .i64 s.st, .int .i64 s.tk.k, .int .i64 (s.tk.f : Int), .int .i64 (s.tk.t : Int), .int .i64 s.h.k, .int .i32 (s.h.r : Int), .int .i64 (s.h.f : Int), .int .i64 (s.h.t : Int), .bool s.h.al] 152 = cells b (scV (zaA s u)) 152 from (congrArg (fun z => cells b z 152) hB)) ?_
       show TX _ _ _ _ _ _ _ [cells b (scV (zaA s u)) 152, cells b1 [.int .i64 u.k, .int .i32 (u.r : Int), .int .i64 (u.f : Int), .int .i64 (u.t : Int), .bool u.al] 150]
       exact zaM (rs := [.tmp 4]) () (.inl rfl) Tryd.results88 (.cons (.tmp rfl) .nil) (by rw [hfit]; rfl) (zak [0] (by as_aux_lemma => kernel_rfl) rfl)
    ·
     -- no
     have h18 := beq_eq_false_iff_ne.1 h18
     refine zap (zad (zaz rfl (by decide) rfl rfl zaW (zai rfl (by decide) rfl (zan (zaf ?_)))))
     refine zaF rfl (fun h22 => ?_) (fun h22 => ?_)
     ·
      -- yes
      have h22 := beq_iff_eq.1 h22
      refine zap (zad (zag rfl (by decide) rfl (zaz rfl (by decide) rfl rfl zaW (zan (zaf ?_)))))
      refine zaF rfl (fun h23 => ?_) (fun h23 => ?_)
      ·
       -- yes
       have h23 := beq_iff_eq.1 h23
       refine zap (zad (zai rfl (by decide) rfl (zan (zaf (zaE (zay (zav ?_)))))))
       have hfit : zbM s.st u = (s.st, 1) := by unfold zbM; simp_all <;> omega
       have hB : [.int .i64 s.st, .int .i64 s.tk.k, .int .i64 (s.tk.f : Int), .int .i64 (s.tk.t : Int), .int .i64 s.h.k, .int .i32 (s.h.r : Int), .int .i64 (s.h.f : Int), .int .i64 (s.h.t : Int), .bool s.h.al] = scV (zaA s u) := by unfold zaA; rw [hfit]; rfl
       refine za4 (k := 0) rfl (show cells b [.int .i64 s.st, .int .i64 s.tk.k, .int .i64 (s.tk.f : Int), .int .i64 (s.tk.t : Int), .int .i64 s.h.k, .int .i32 (s.h.r : Int), .int .i64 (s.h.f : Int), .int .i64 (s.h.t : Int), .bool s.h.al] 152 = cells b (scV (zaA s u)) 152 from (congrArg (fun z => cells b z 152) hB)) ?_
       show TX _ _ _ _ _ _ _ [cells b (scV (zaA s u)) 152, cells b1 [.int .i64 u.k, .int .i32 (u.r : Int), .int .i64 (u.f : Int), .int .i64 (u.t : Int), .bool u.al] 150]
       exact zaM (rs := [.tmp 4]) () (.inl rfl) Tryd.results88 (.cons (.tmp rfl) .nil) (by rw [hfit]; rfl) (zak [0] (by as_aux_lemma => kernel_rfl) rfl)
      ·
       -- no
       have h23 := beq_eq_false_iff_ne.1 h23
       refine zaI (zaw (zaf (zap (zad (zai rfl (by decide) rfl (zan (zaf (zaE ?_))))))))
       have hfit : zbM s.st u = (s.st, 0) := by unfold zbM; simp_all <;> omega
       have hB : [.int .i64 s.st, .int .i64 s.tk.k, .int .i64 (s.tk.f : Int), .int .i64 (s.tk.t : Int), .int .i64 s.h.k, .int .i32 (s.h.r : Int), .int .i64 (s.h.f : Int), .int .i64 (s.h.t : Int), .bool s.h.al] = scV (zaA s u) := by unfold zaA; rw [hfit]; rfl
       refine za4 (k := 0) rfl (show cells b [.int .i64 s.st, .int .i64 s.tk.k, .int .i64 (s.tk.f : Int), .int .i64 (s.tk.t : Int), .int .i64 s.h.k, .int .i32 (s.h.r : Int), .int .i64 (s.h.f : Int), .int .i64 (s.h.t : Int), .bool s.h.al] 152 = cells b (scV (zaA s u)) 152 from (congrArg (fun z => cells b z 152) hB)) ?_
       show TX _ _ _ _ _ _ _ [cells b (scV (zaA s u)) 152, cells b1 [.int .i64 u.k, .int .i32 (u.r : Int), .int .i64 (u.f : Int), .int .i64 (u.t : Int), .bool u.al] 150]
       exact zaM (rs := [.tmp 4]) () (.inl rfl) Tryd.results88 (.cons (.tmp rfl) .nil) (by rw [hfit]; rfl) (zak [0] (by as_aux_lemma => kernel_rfl) rfl)
     ·
      -- no
      have h22 := beq_eq_false_iff_ne.1 h22
      refine zap (zad (zaz rfl (by decide) rfl rfl zaW (zai rfl (by decide) rfl (zan (zaf ?_)))))
      refine zaF rfl (fun h24 => ?_) (fun h24 => ?_)
      ·
       -- yes
       have h24 := beq_iff_eq.1 h24
       refine zap (zad (zag rfl (by decide) rfl (zaz rfl (by decide) rfl rfl zaW (zan (zaf ?_)))))
       refine zaF rfl (fun h25 => ?_) (fun h25 => ?_)
       ·
        -- yes
        have h25 := beq_iff_eq.1 h25
        refine zap (zad (zai rfl (by decide) rfl (zan (zaf (zaE (zay (zav ?_)))))))
        have hfit : zbM s.st u = (s.st, 1) := by unfold zbM; simp_all <;> omega
        have hB : [.int .i64 s.st, .int .i64 s.tk.k, .int .i64 (s.tk.f : Int), .int .i64 (s.tk.t : Int), .int .i64 s.h.k, .int .i32 (s.h.r : Int), .int .i64 (s.h.f : Int), .int .i64 (s.h.t : Int), .bool s.h.al] = scV (zaA s u) := by unfold zaA; rw [hfit]; rfl
        refine za4 (k := 0) rfl (show cells b [.int .i64 s.st, .int .i64 s.tk.k, .int .i64 (s.tk.f : Int), .int .i64 (s.tk.t : Int), .int .i64 s.h.k, .int .i32 (s.h.r : Int), .int .i64 (s.h.f : Int), .int .i64 (s.h.t : Int), .bool s.h.al] 152 = cells b (scV (zaA s u)) 152 from (congrArg (fun z => cells b z 152) hB)) ?_
        show TX _ _ _ _ _ _ _ [cells b (scV (zaA s u)) 152, cells b1 [.int .i64 u.k, .int .i32 (u.r : Int), .int .i64 (u.f : Int), .int .i64 (u.t : Int), .bool u.al] 150]
        exact zaM (rs := [.tmp 4]) () (.inl rfl) Tryd.results88 (.cons (.tmp rfl) .nil) (by rw [hfit]; rfl) (zak [0] (by as_aux_lemma => kernel_rfl) rfl)
       ·
        -- no
        have h25 := beq_eq_false_iff_ne.1 h25
        refine zaI (zaw (zaf (zap (zad (zai rfl (by decide) rfl (zan (zaf (zaE ?_))))))))
        have hfit : zbM s.st u = (s.st, 0) := by unfold zbM; simp_all <;> omega
        have hB : [.int .i64 s.st, .int .i64 s.tk.k, .int .i64 (s.tk.f : Int), .int .i64 (s.tk.t : Int), .int .i64 s.h.k, .int .i32 (s.h.r : Int), .int .i64 (s.h.f : Int), .int .i64 (s.h.t : Int), .bool s.h.al] = scV (zaA s u) := by unfold zaA; rw [hfit]; rfl
        refine za4 (k := 0) rfl (show cells b [.int .i64 s.st, .int .i64 s.tk.k, .int .i64 (s.tk.f : Int), .int .i64 (s.tk.t : Int), .int .i64 s.h.k, .int .i32 (s.h.r : Int), .int .i64 (s.h.f : Int), .int .i64 (s.h.t : Int), .bool s.h.al] 152 = cells b (scV (zaA s u)) 152 from (congrArg (fun z => cells b z 152) hB)) ?_
        show TX _ _ _ _ _ _ _ [cells b (scV (zaA s u)) 152, cells b1 [.int .i64 u.k, .int .i32 (u.r : Int), .int .i64 (u.f : Int), .int .i64 (u.t : Int), .bool u.al] 150]
        exact zaM (rs := [.tmp 4]) () (.inl rfl) Tryd.results88 (.cons (.tmp rfl) .nil) (by rw [hfit]; rfl) (zak [0] (by as_aux_lemma => kernel_rfl) rfl)
      ·
       -- no
       have h24 := beq_eq_false_iff_ne.1 h24
       refine zap (zad (zaz rfl (by decide) rfl rfl zaW (zai rfl (by decide) rfl (zan (zaf ?_)))))
       refine zaF rfl (fun h26 => ?_) (fun h26 => ?_)
       ·
        -- yes
        have h26 := beq_iff_eq.1 h26
        refine zap (zad (zag rfl (by decide) rfl (zaz rfl (by decide) rfl rfl zaW (zag rfl (by decide) rfl ?_))))
        refine zaV (s := 72) rfl (fun h27 => ?_) (fun h27 => ?_)
        ·
         -- yes
         have h27 := beq_iff_eq.1 h27
         refine zam zeM rfl (by decide) rfl (show _ = 1 from rfl) (zaP (k := 1) zg8 rfl (by decide) rfl rfl rfl (zaz rfl (by decide) rfl rfl zaW (zas (b := true) rfl (by decide) rfl rfl (zan (zaf ?_)))))
         refine zaF rfl (fun h28 => ?_) (fun h28 => ?_)
         ·
          -- yes
          have h28 := beq_iff_eq.1 h28
          refine zap (zad (zag rfl (by decide) rfl (zaC rfl (by decide) rfl (zam zbn rfl (by decide) rfl (show _ = 0 from rfl) ?_))))
          refine zaN (k := 0) (l' := [.int .i64 7, .int .i64 s.tk.k, .int .i64 (s.tk.f : Int), .int .i64 (s.tk.t : Int), .int .i64 s.h.k, .int .i32 (s.h.r : Int), .int .i64 (s.h.f : Int), .int .i64 (s.h.t : Int), .bool s.h.al]) zdW rfl rfl rfl rfl rfl (fun _ _ => rfl) rfl ?_
          refine zan (zaf (zap (zad (zai rfl (by decide) rfl (zan (zaf (zaE (zay (zav ?_)))))))))
          have hfit : zbM s.st u = (7, 1) := by unfold zbM; simp_all <;> omega
          have hB : [.int .i64 7, .int .i64 s.tk.k, .int .i64 (s.tk.f : Int), .int .i64 (s.tk.t : Int), .int .i64 s.h.k, .int .i32 (s.h.r : Int), .int .i64 (s.h.f : Int), .int .i64 (s.h.t : Int), .bool s.h.al] = scV (zaA s u) := by unfold zaA; rw [hfit]; rfl
          refine za4 (k := 0) rfl (show cells b [.int .i64 7, .int .i64 s.tk.k, .int .i64 (s.tk.f : Int), .int .i64 (s.tk.t : Int), .int .i64 s.h.k, .int .i32 (s.h.r : Int), .int .i64 (s.h.f : Int), .int .i64 (s.h.t : Int), .bool s.h.al] 152 = cells b (scV (zaA s u)) 152 from (congrArg (fun z => cells b z 152) hB)) ?_
          show TX _ _ _ _ _ _ _ [cells b (scV (zaA s u)) 152, cells b1 [.int .i64 u.k, .int .i32 (u.r : Int), .int .i64 (u.f : Int), .int .i64 (u.t : Int), .bool u.al] 150]
          exact zaM (rs := [.tmp 4]) () (.inl rfl) Tryd.results88 (.cons (.tmp rfl) .nil) (by rw [hfit]; rfl) (zak [0] (by as_aux_lemma => kernel_rfl) rfl)
         ·
          -- no
          have h28 := beq_eq_false_iff_ne.1 h28
          refine zaI (zaw (zaf (zap (zad (zai rfl (by decide) rfl (zan (zaf (zaE ?_))))))))
          have hfit : zbM s.st u = (s.st, 0) := by unfold zbM; simp_all <;> omega
          have hB : [.int .i64 s.st, .int .i64 s.tk.k, .int .i64 (s.tk.f : Int), .int .i64 (s.tk.t : Int), .int .i64 s.h.k, .int .i32 (s.h.r : Int), .int .i64 (s.h.f : Int), .int .i64 (s.h.t : Int), .bool s.h.al] = scV (zaA s u) := by unfold zaA; rw [hfit]; rfl
          refine za4 (k := 0) rfl (show cells b [.int .i64 s.st, .int .i64 s.tk.k, .int .i64 (s.tk.f : Int), .int .i64 (s.tk.t : Int), .int .i64 s.h.k, .int .i32 (s.h.r : Int), .int .i64 (s.h.f : Int), .int .i64 (s.h.t : Int), .bool s.h.al] 152 = cells b (scV (zaA s u)) 152 from (congrArg (fun z => cells b z 152) hB)) ?_
          show TX _ _ _ _ _ _ _ [cells b (scV (zaA s u)) 152, cells b1 [.int .i64 u.k, .int .i32 (u.r : Int), .int .i64 (u.f : Int), .int .i64 (u.t : Int), .bool u.al] 150]
          exact zaM (rs := [.tmp 4]) () (.inl rfl) Tryd.results88 (.cons (.tmp rfl) .nil) (by rw [hfit]; rfl) (zak [0] (by as_aux_lemma => kernel_rfl) rfl)
        ·
         -- no
         have h27 := beq_eq_false_iff_ne.1 h27
         refine zae rfl (by decide) (zae rfl (by decide) (zae rfl (by decide) (zas (b := false) rfl (by decide) rfl rfl (zan (zaf (za0 rfl (zaI (zaw (zaf (zap (zad (zai rfl (by decide) rfl (zan ?_)))))))))))))
         refine zaf (zaE ?_)
         have hfit : zbM s.st u = (s.st, 0) := by unfold zbM; simp_all <;> omega
         have hB : [.int .i64 s.st, .int .i64 s.tk.k, .int .i64 (s.tk.f : Int), .int .i64 (s.tk.t : Int), .int .i64 s.h.k, .int .i32 (s.h.r : Int), .int .i64 (s.h.f : Int), .int .i64 (s.h.t : Int), .bool s.h.al] = scV (zaA s u) := by unfold zaA; rw [hfit]; rfl
         refine za4 (k := 0) rfl (show cells b [.int .i64 s.st, .int .i64 s.tk.k, .int .i64 (s.tk.f : Int), .int .i64 (s.tk.t : Int), .int .i64 s.h.k, .int .i32 (s.h.r : Int), .int .i64 (s.h.f : Int), .int .i64 (s.h.t : Int), .bool s.h.al] 152 = cells b (scV (zaA s u)) 152 from (congrArg (fun z => cells b z 152) hB)) ?_
         show TX _ _ _ _ _ _ _ [cells b (scV (zaA s u)) 152, cells b1 [.int .i64 u.k, .int .i32 (u.r : Int), .int .i64 (u.f : Int), .int .i64 (u.t : Int), .bool u.al] 150]
         exact zaM (rs := [.tmp 4]) () (.inl rfl) Tryd.results88 (.cons (.tmp rfl) .nil) (by rw [hfit]; rfl) (zak [0] (by as_aux_lemma => kernel_rfl) rfl)
       ·
        -- no
        have h26 := beq_eq_false_iff_ne.1 h26
        refine zaI (zaw (zaf (zap (zad (zai rfl (by decide) rfl (zan (zaf (zaE ?_))))))))
        have hfit : zbM s.st u = (s.st, 0) := by unfold zbM; simp_all <;> omega
        have hB : [.int .i64 s.st, .int .i64 s.tk.k, .int .i64 (s.tk.f : Int), .int .i64 (s.tk.t : Int), .int .i64 s.h.k, .int .i32 (s.h.r : Int), .int .i64 (s.h.f : Int), .int .i64 (s.h.t : Int), .bool s.h.al] = scV (zaA s u) := by unfold zaA; rw [hfit]; rfl
        refine za4 (k := 0) rfl (show cells b [.int .i64 s.st, .int .i64 s.tk.k, .int .i64 (s.tk.f : Int), .int .i64 (s.tk.t : Int), .int .i64 s.h.k, .int .i32 (s.h.r : Int), .int .i64 (s.h.f : Int), .int .i64 (s.h.t : Int), .bool s.h.al] 152 = cells b (scV (zaA s u)) 152 from (congrArg (fun z => cells b z 152) hB)) ?_
        show TX _ _ _ _ _ _ _ [cells b (scV (zaA s u)) 152, cells b1 [.int .i64 u.k, .int .i32 (u.r : Int), .int .i64 (u.f : Int), .int .i64 (u.t : Int), .bool u.al] 150]
        exact zaM (rs := [.tmp 4]) () (.inl rfl) Tryd.results88 (.cons (.tmp rfl) .nil) (by rw [hfit]; rfl) (zak [0] (by as_aux_lemma => kernel_rfl) rfl)
 ·
  -- no
  have h1 := beq_eq_false_iff_ne.1 h1
  refine zad (zaz rfl (by decide) rfl rfl zaW (zai rfl (by decide) rfl (zan (zaf ?_))))
  refine zaF rfl (fun h29 => ?_) (fun h29 => ?_)
  ·
   -- yes
   have h29 := beq_iff_eq.1 h29
   refine zap (zap (zad (zag rfl (by decide) rfl (zaz rfl (by decide) rfl rfl zaW (zan (zaf ?_))))))
   refine zaF rfl (fun h30 => ?_) (fun h30 => ?_)
   ·
    -- yes
    have h30 := beq_iff_eq.1 h30
    refine zap (zad (zag rfl (by decide) rfl (zaC rfl (by decide) rfl (zam zbn rfl (by decide) rfl (show _ = 0 from rfl) ?_))))
    refine zaN (k := 0) (l' := [.int .i64 1, .int .i64 s.tk.k, .int .i64 (s.tk.f : Int), .int .i64 (s.tk.t : Int), .int .i64 s.h.k, .int .i32 (s.h.r : Int), .int .i64 (s.h.f : Int), .int .i64 (s.h.t : Int), .bool s.h.al]) zdW rfl rfl rfl rfl rfl (fun _ _ => rfl) rfl ?_
    refine zan (zaf (zap (zad (zai rfl (by decide) rfl (zan (zaf (zaE (zav (zay (zav ?_))))))))))
    have hfit : zbM s.st u = (1, 1) := by unfold zbM; simp_all <;> omega
    have hB : [.int .i64 1, .int .i64 s.tk.k, .int .i64 (s.tk.f : Int), .int .i64 (s.tk.t : Int), .int .i64 s.h.k, .int .i32 (s.h.r : Int), .int .i64 (s.h.f : Int), .int .i64 (s.h.t : Int), .bool s.h.al] = scV (zaA s u) := by unfold zaA; rw [hfit]; rfl
    refine za4 (k := 0) rfl (show cells b [.int .i64 1, .int .i64 s.tk.k, .int .i64 (s.tk.f : Int), .int .i64 (s.tk.t : Int), .int .i64 s.h.k, .int .i32 (s.h.r : Int), .int .i64 (s.h.f : Int), .int .i64 (s.h.t : Int), .bool s.h.al] 152 = cells b (scV (zaA s u)) 152 from (congrArg (fun z => cells b z 152) hB)) ?_
    show TX _ _ _ _ _ _ _ [cells b (scV (zaA s u)) 152, cells b1 [.int .i64 u.k, .int .i32 (u.r : Int), .int .i64 (u.f : Int), .int .i64 (u.t : Int), .bool u.al] 150]
    exact zaM (rs := [.tmp 4]) () (.inl rfl) Tryd.results88 (.cons (.tmp rfl) .nil) (by rw [hfit]; rfl) (zak [0] (by as_aux_lemma => kernel_rfl) rfl)
   ·
    -- no
    have h30 := beq_eq_false_iff_ne.1 h30
    refine zaI (zaf (zap (zad (zag rfl (by decide) rfl (zaC rfl (by decide) rfl (zam zbn rfl (by decide) rfl (show _ = 0 from rfl) (zaP (k := 0) zcx rfl (by decide) rfl rfl rfl (zaz rfl (by decide) rfl rfl zaW (zag rfl (by decide) rfl ?_)))))))))
    refine zaV (s := 25) rfl (fun h31 => ?_) (fun h31 => ?_)
    ·
     -- yes
     have h31 := beq_iff_eq.1 h31
     refine zbb (k := 1) (cs := [.int .i64 u.k, .int .i32 (u.r : Int), .int .i64 (u.f : Int), .int .i64 (u.t : Int), .bool u.al]) zc4 rfl (by decide) rfl rfl rfl rfl (za9 (v := .bool (zhc u)) (vs := [.agg #[.int .i64 u.k, .int .i32 (u.r : Int), .int .i64 (u.f : Int), .int .i64 (u.t : Int), .bool u.al]]) rfl (by decide) rfl rfl rfl zmU (zlA u) (zas (b := true) rfl (by decide) rfl rfl (zan (zaf ?_))))
     refine zaF rfl (fun h32 => ?_) (fun h32 => ?_)
     ·
      -- yes
      refine zap ?_
      refine zen (β := Unit) 6 5 _ [(0, 29, .pointer (some ⟨b, 0, none⟩)), (1, 30, .pointer (some ⟨b, 0, none⟩)), (2, 31, .agg #[.int .i64 u.k, .int .i32 (u.r : Int), .int .i64 (u.f : Int), .int .i64 (u.t : Int), .bool u.al]), (3, 32, .pointer (some ⟨b, 0, none⟩)), (4, 33, .pointer (some ⟨b, 0, none⟩))] (fun _b => []) (fun _b => [cells b [.int .i64 2, .int .i64 s.tk.k, .int .i64 (s.tk.f : Int), .int .i64 (s.tk.t : Int), .int .i64 s.h.k, .int .i32 (s.h.r : Int), .int .i64 (s.h.f : Int), .int .i64 (s.h.t : Int), .bool s.h.al] 152, cells b1 [.int .i64 u.k, .int .i32 (u.r : Int), .int .i64 (u.f : Int), .int .i64 (u.t : Int), .bool u.al] 150]) mixed (by as_aux_lemma => kernel_rfl) (by as_aux_lemma => kernel_rfl) rfl (by decide) (by decide) (by rfl) (by as_aux_lemma => kernel_rfl) (by as_aux_lemma => kernel_rfl) (DrawPreX.cons ?_ (DrawPreX.cons ?_ (DrawPreX.cons ?_ (DrawPreX.cons ?_ (DrawPreX.cons ?_ (zbo DrawPreX.nil)))))) (fun _b => (DrawPreX.cons ?_ (DrawPreX.cons ?_ (DrawPreX.cons ?_ (DrawPreX.cons ?_ (DrawPreX.cons ?_ (zbo DrawPreX.nil))))))) ?_ ?_
      ·
       intro D hn hd hcl hu hi
       refine zag rfl (by decide) (zaS (by rfl) rfl) ?_
       exact zar 0 hu hi rfl
      ·
       intro D hn hd hcl hu hi
       refine zag rfl (by decide) (zaS (by rfl) rfl) ?_
       exact zar 1 hu hi rfl
      ·
       intro D hn hd hcl hu hi
       refine zbb (k := 1) (cs := [.int .i64 u.k, .int .i32 (u.r : Int), .int .i64 (u.f : Int), .int .i64 (u.t : Int), .bool u.al]) zc4 rfl (by decide) (zaS (by rfl) rfl) rfl rfl rfl ?_
       exact zar 2 hu hi rfl
      ·
       intro D hn hd hcl hu hi
       refine zaC rfl (by decide) (zaj (m := 0) hu rfl (hd 0 (by decide))) ?_
       exact zar 3 hu hi rfl
      ·
       intro D hn hd hcl hu hi
       refine zam zbn rfl (by decide) (zaj (m := 3) hu rfl (hd 3 (by decide))) (show _ = 0 from rfl) ?_
       exact zar 4 hu hi rfl
      ·
       intro D hn hd hcl hu hi
       refine zag rfl (by decide) (zaS (by rfl) rfl) ?_
       exact zar 0 hu hi rfl
      ·
       intro D hn hd hcl hu hi
       refine zag rfl (by decide) (zaS (by rfl) rfl) ?_
       exact zar 1 hu hi rfl
      ·
       intro D hn hd hcl hu hi
       refine zbb (k := 1) (cs := [.int .i64 u.k, .int .i32 (u.r : Int), .int .i64 (u.f : Int), .int .i64 (u.t : Int), .bool u.al]) zc4 rfl (by decide) (zaS (by rfl) rfl) rfl rfl rfl ?_
       exact zar 2 hu hi rfl
      ·
       intro D hn hd hcl hu hi
       refine zaC rfl (by decide) (zaj (m := 0) hu rfl (hd 0 (by decide))) ?_
       exact zar 3 hu hi rfl
      ·
       intro D hn hd hcl hu hi
       refine zam zbn rfl (by decide) (zaj (m := 3) hu rfl (hd 3 (by decide))) (show _ = 0 from rfl) ?_
       exact zar 4 hu hi rfl
      ·
       intro D hn hd hcl
       refine zaN (k := 0) (l' := [.int .i64 2, .int .i64 s.tk.k, .int .i64 (s.tk.f : Int), .int .i64 (s.tk.t : Int), .int .i64 s.h.k, .int .i32 (s.h.r : Int), .int .i64 (s.h.f : Int), .int .i64 (s.h.t : Int), .bool s.h.al]) zdW rfl (zaj (m := 4) (by as_aux_lemma => kernel_rfl) rfl (hd 4 (by decide))) rfl rfl rfl (fun _ _ => rfl) rfl ?_
       exact fun a w ha hw => ⟨(), ha, hw⟩
      intro _b
      show TO _ _ _ _ _ _ _ _ _ _ [cells b [.int .i64 2, .int .i64 s.tk.k, .int .i64 (s.tk.f : Int), .int .i64 (s.tk.t : Int), .int .i64 s.h.k, .int .i32 (s.h.r : Int), .int .i64 (s.h.f : Int), .int .i64 (s.h.t : Int), .bool s.h.al] 152, cells b1 [.int .i64 u.k, .int .i32 (u.r : Int), .int .i64 (u.f : Int), .int .i64 (u.t : Int), .bool u.al] 150]
      refine zaC rfl (by decide) rfl (zam zeL rfl (by decide) rfl (show _ = 4 from rfl) (za8 (k := 0) (vs := [.int .i64 u.k, .int .i32 (u.r : Int), .int .i64 (u.f : Int), .int .i64 (u.t : Int), .bool u.al]) (l' := [.int .i64 2, .int .i64 s.tk.k, .int .i64 (s.tk.f : Int), .int .i64 (s.tk.t : Int), .int .i64 u.k, .int .i32 (u.r : Int), .int .i64 (u.f : Int), .int .i64 (u.t : Int), .bool u.al]) zfw rfl rfl rfl rfl rfl (show _ ≤ _ by simp) rfl rfl (zan (zaf (zap (zad (zai rfl (by decide) rfl (zan (zaf (zaE (zay (zav ?_))))))))))))
      have hfit : zbM s.st u = (2, 2) := by unfold zbM; simp_all <;> omega
      have hB : [.int .i64 2, .int .i64 s.tk.k, .int .i64 (s.tk.f : Int), .int .i64 (s.tk.t : Int), .int .i64 u.k, .int .i32 (u.r : Int), .int .i64 (u.f : Int), .int .i64 (u.t : Int), .bool u.al] = scV (zaA s u) := by unfold zaA; rw [hfit]; rfl
      refine za4 (k := 0) rfl (show cells b [.int .i64 2, .int .i64 s.tk.k, .int .i64 (s.tk.f : Int), .int .i64 (s.tk.t : Int), .int .i64 u.k, .int .i32 (u.r : Int), .int .i64 (u.f : Int), .int .i64 (u.t : Int), .bool u.al] 152 = cells b (scV (zaA s u)) 152 from (congrArg (fun z => cells b z 152) hB)) ?_
      show TX _ _ _ _ _ _ _ [cells b (scV (zaA s u)) 152, cells b1 [.int .i64 u.k, .int .i32 (u.r : Int), .int .i64 (u.f : Int), .int .i64 (u.t : Int), .bool u.al] 150]
      exact zaM (rs := [.tmp 4]) () (.inl rfl) Tryd.results88 (.cons (.tmp rfl) .nil) (by rw [hfit]; rfl) (zak [0] (by as_aux_lemma => kernel_rfl) rfl)
     ·
      -- no
      refine zaI (zaw (zaf (zap (zad (zai rfl (by decide) rfl (zan (zaf (zaE ?_))))))))
      have hfit : zbM s.st u = (s.st, 0) := by unfold zbM; simp_all <;> omega
      have hB : [.int .i64 s.st, .int .i64 s.tk.k, .int .i64 (s.tk.f : Int), .int .i64 (s.tk.t : Int), .int .i64 s.h.k, .int .i32 (s.h.r : Int), .int .i64 (s.h.f : Int), .int .i64 (s.h.t : Int), .bool s.h.al] = scV (zaA s u) := by unfold zaA; rw [hfit]; rfl
      refine za4 (k := 0) rfl (show cells b [.int .i64 s.st, .int .i64 s.tk.k, .int .i64 (s.tk.f : Int), .int .i64 (s.tk.t : Int), .int .i64 s.h.k, .int .i32 (s.h.r : Int), .int .i64 (s.h.f : Int), .int .i64 (s.h.t : Int), .bool s.h.al] 152 = cells b (scV (zaA s u)) 152 from (congrArg (fun z => cells b z 152) hB)) ?_
      show TX _ _ _ _ _ _ _ [cells b (scV (zaA s u)) 152, cells b1 [.int .i64 u.k, .int .i32 (u.r : Int), .int .i64 (u.f : Int), .int .i64 (u.t : Int), .bool u.al] 150]
      exact zaM (rs := [.tmp 4]) () (.inl rfl) Tryd.results88 (.cons (.tmp rfl) .nil) (by rw [hfit]; rfl) (zak [0] (by as_aux_lemma => kernel_rfl) rfl)
    ·
     -- no
     have h31 := beq_eq_false_iff_ne.1 h31
     refine zae rfl (by decide) (zae rfl (by decide) (zas (b := false) rfl (by decide) rfl rfl (zan (zaf (za0 rfl (zaI (zaw (zaf (zap (zad (zai rfl (by decide) rfl (zan (zaf ?_)))))))))))))
     refine zaE ?_
     have hfit : zbM s.st u = (s.st, 0) := by unfold zbM; simp_all <;> omega
     have hB : [.int .i64 s.st, .int .i64 s.tk.k, .int .i64 (s.tk.f : Int), .int .i64 (s.tk.t : Int), .int .i64 s.h.k, .int .i32 (s.h.r : Int), .int .i64 (s.h.f : Int), .int .i64 (s.h.t : Int), .bool s.h.al] = scV (zaA s u) := by unfold zaA; rw [hfit]; rfl
     refine za4 (k := 0) rfl (show cells b [.int .i64 s.st, .int .i64 s.tk.k, .int .i64 (s.tk.f : Int), .int .i64 (s.tk.t : Int), .int .i64 s.h.k, .int .i32 (s.h.r : Int), .int .i64 (s.h.f : Int), .int .i64 (s.h.t : Int), .bool s.h.al] 152 = cells b (scV (zaA s u)) 152 from (congrArg (fun z => cells b z 152) hB)) ?_
     show TX _ _ _ _ _ _ _ [cells b (scV (zaA s u)) 152, cells b1 [.int .i64 u.k, .int .i32 (u.r : Int), .int .i64 (u.f : Int), .int .i64 (u.t : Int), .bool u.al] 150]
     exact zaM (rs := [.tmp 4]) () (.inl rfl) Tryd.results88 (.cons (.tmp rfl) .nil) (by rw [hfit]; rfl) (zak [0] (by as_aux_lemma => kernel_rfl) rfl)
  ·
   -- no
   have h29 := beq_eq_false_iff_ne.1 h29
   refine zap (zap (zad (zaz rfl (by decide) rfl rfl zaW (zai rfl (by decide) rfl (zan (zaf ?_))))))
   refine zaF rfl (fun h33 => ?_) (fun h33 => ?_)
   ·
    -- yes
    have h33 := beq_iff_eq.1 h33
    refine zaI (zaf ?_)
    refine zaF rfl (fun h34 => ?_) (fun h34 => ?_)
    ·
     -- yes
     have h34 := beq_iff_eq.1 h34
     refine zap (zap (zad (zag rfl (by decide) rfl (zaz rfl (by decide) rfl rfl zaW (zan (zaf ?_))))))
     refine zaF rfl (fun h35 => ?_) (fun h35 => ?_)
     ·
      -- yes
      have h35 := beq_iff_eq.1 h35
      refine zap (zad (zag rfl (by decide) rfl (zaC rfl (by decide) rfl (zam zbn rfl (by decide) rfl (show _ = 0 from rfl) ?_))))
      refine zaN (k := 0) (l' := [.int .i64 3, .int .i64 s.tk.k, .int .i64 (s.tk.f : Int), .int .i64 (s.tk.t : Int), .int .i64 s.h.k, .int .i32 (s.h.r : Int), .int .i64 (s.h.f : Int), .int .i64 (s.h.t : Int), .bool s.h.al]) zdW rfl rfl rfl rfl rfl (fun _ _ => rfl) rfl ?_
      refine zan (zaf (zap (zad (zai rfl (by decide) rfl (zan (zaf (zaE (zav (zay (zav ?_))))))))))
      have hfit : zbM s.st u = (3, 1) := by unfold zbM; simp_all <;> omega
      have hB : [.int .i64 3, .int .i64 s.tk.k, .int .i64 (s.tk.f : Int), .int .i64 (s.tk.t : Int), .int .i64 s.h.k, .int .i32 (s.h.r : Int), .int .i64 (s.h.f : Int), .int .i64 (s.h.t : Int), .bool s.h.al] = scV (zaA s u) := by unfold zaA; rw [hfit]; rfl
      refine za4 (k := 0) rfl (show cells b [.int .i64 3, .int .i64 s.tk.k, .int .i64 (s.tk.f : Int), .int .i64 (s.tk.t : Int), .int .i64 s.h.k, .int .i32 (s.h.r : Int), .int .i64 (s.h.f : Int), .int .i64 (s.h.t : Int), .bool s.h.al] 152 = cells b (scV (zaA s u)) 152 from (congrArg (fun z => cells b z 152) hB)) ?_
      show TX _ _ _ _ _ _ _ [cells b (scV (zaA s u)) 152, cells b1 [.int .i64 u.k, .int .i32 (u.r : Int), .int .i64 (u.f : Int), .int .i64 (u.t : Int), .bool u.al] 150]
      exact zaM (rs := [.tmp 4]) () (.inl rfl) Tryd.results88 (.cons (.tmp rfl) .nil) (by rw [hfit]; rfl) (zak [0] (by as_aux_lemma => kernel_rfl) rfl)
     ·
      -- no
      have h35 := beq_eq_false_iff_ne.1 h35
      refine zaI (zaf (zap (zad (zag rfl (by decide) rfl (zaC rfl (by decide) rfl (zam zbn rfl (by decide) rfl (show _ = 0 from rfl) (zaP (k := 0) zcx rfl (by decide) rfl rfl rfl (zaz rfl (by decide) rfl rfl zaW (zag rfl (by decide) rfl ?_)))))))))
      refine zaV (s := 49) rfl (fun h36 => ?_) (fun h36 => ?_)
      ·
       -- yes
       have h36 := beq_iff_eq.1 h36
       refine zbb (k := 1) (cs := [.int .i64 u.k, .int .i32 (u.r : Int), .int .i64 (u.f : Int), .int .i64 (u.t : Int), .bool u.al]) zc4 rfl (by decide) rfl rfl rfl rfl (za9 (v := .bool (dot u)) (vs := [.agg #[.int .i64 u.k, .int .i32 (u.r : Int), .int .i64 (u.f : Int), .int .i64 (u.t : Int), .bool u.al]]) rfl (by decide) rfl rfl rfl zkt (zmt u) (zas (b := true) rfl (by decide) rfl rfl (zan (zaf ?_))))
       refine zaF rfl (fun h37 => ?_) (fun h37 => ?_)
       ·
        -- yes
        refine zap ?_
        refine zen (β := Unit) 6 5 _ [(0, 53, .pointer (some ⟨b, 0, none⟩)), (1, 54, .pointer (some ⟨b, 0, none⟩)), (2, 55, .agg #[.int .i64 u.k, .int .i32 (u.r : Int), .int .i64 (u.f : Int), .int .i64 (u.t : Int), .bool u.al]), (3, 56, .pointer (some ⟨b, 0, none⟩)), (4, 57, .pointer (some ⟨b, 0, none⟩))] (fun _b => []) (fun _b => [cells b [.int .i64 4, .int .i64 s.tk.k, .int .i64 (s.tk.f : Int), .int .i64 (s.tk.t : Int), .int .i64 s.h.k, .int .i32 (s.h.r : Int), .int .i64 (s.h.f : Int), .int .i64 (s.h.t : Int), .bool s.h.al] 152, cells b1 [.int .i64 u.k, .int .i32 (u.r : Int), .int .i64 (u.f : Int), .int .i64 (u.t : Int), .bool u.al] 150]) mixed (by as_aux_lemma => kernel_rfl) (by as_aux_lemma => kernel_rfl) rfl (by decide) (by decide) (by rfl) (by as_aux_lemma => kernel_rfl) (by as_aux_lemma => kernel_rfl) (DrawPreX.cons ?_ (DrawPreX.cons ?_ (DrawPreX.cons ?_ (DrawPreX.cons ?_ (DrawPreX.cons ?_ (zbo DrawPreX.nil)))))) (fun _b => (DrawPreX.cons ?_ (DrawPreX.cons ?_ (DrawPreX.cons ?_ (DrawPreX.cons ?_ (DrawPreX.cons ?_ (zbo DrawPreX.nil))))))) ?_ ?_
        ·
         intro D hn hd hcl hu hi
         refine zag rfl (by decide) (zaS (by rfl) rfl) ?_
         exact zar 0 hu hi rfl
        ·
         intro D hn hd hcl hu hi
         refine zag rfl (by decide) (zaS (by rfl) rfl) ?_
         exact zar 1 hu hi rfl
        ·
         intro D hn hd hcl hu hi
         refine zbb (k := 1) (cs := [.int .i64 u.k, .int .i32 (u.r : Int), .int .i64 (u.f : Int), .int .i64 (u.t : Int), .bool u.al]) zc4 rfl (by decide) (zaS (by rfl) rfl) rfl rfl rfl ?_
         exact zar 2 hu hi rfl
        ·
         intro D hn hd hcl hu hi
         refine zaC rfl (by decide) (zaj (m := 0) hu rfl (hd 0 (by decide))) ?_
         exact zar 3 hu hi rfl
        ·
         intro D hn hd hcl hu hi
         refine zam zbn rfl (by decide) (zaj (m := 3) hu rfl (hd 3 (by decide))) (show _ = 0 from rfl) ?_
         exact zar 4 hu hi rfl
        ·
         intro D hn hd hcl hu hi
         refine zag rfl (by decide) (zaS (by rfl) rfl) ?_
         exact zar 0 hu hi rfl
        ·
         intro D hn hd hcl hu hi
         refine zag rfl (by decide) (zaS (by rfl) rfl) ?_
         exact zar 1 hu hi rfl
        ·
         intro D hn hd hcl hu hi
         refine zbb (k := 1) (cs := [.int .i64 u.k, .int .i32 (u.r : Int), .int .i64 (u.f : Int), .int .i64 (u.t : Int), .bool u.al]) zc4 rfl (by decide) (zaS (by rfl) rfl) rfl rfl rfl ?_
         exact zar 2 hu hi rfl
        ·
         intro D hn hd hcl hu hi
         refine zaC rfl (by decide) (zaj (m := 0) hu rfl (hd 0 (by decide))) ?_
         exact zar 3 hu hi rfl
        ·
         intro D hn hd hcl hu hi
         refine zam zbn rfl (by decide) (zaj (m := 3) hu rfl (hd 3 (by decide))) (show _ = 0 from rfl) ?_
         exact zar 4 hu hi rfl
        ·
         intro D hn hd hcl
         refine zaN (k := 0) (l' := [.int .i64 4, .int .i64 s.tk.k, .int .i64 (s.tk.f : Int), .int .i64 (s.tk.t : Int), .int .i64 s.h.k, .int .i32 (s.h.r : Int), .int .i64 (s.h.f : Int), .int .i64 (s.h.t : Int), .bool s.h.al]) zdW rfl (zaj (m := 4) (by as_aux_lemma => kernel_rfl) rfl (hd 4 (by decide))) rfl rfl rfl (fun _ _ => rfl) rfl ?_
         exact fun a w ha hw => ⟨(), ha, hw⟩
        intro _b
        show TO _ _ _ _ _ _ _ _ _ _ [cells b [.int .i64 4, .int .i64 s.tk.k, .int .i64 (s.tk.f : Int), .int .i64 (s.tk.t : Int), .int .i64 s.h.k, .int .i32 (s.h.r : Int), .int .i64 (s.h.f : Int), .int .i64 (s.h.t : Int), .bool s.h.al] 152, cells b1 [.int .i64 u.k, .int .i32 (u.r : Int), .int .i64 (u.f : Int), .int .i64 (u.t : Int), .bool u.al] 150]
        refine zaC rfl (by decide) rfl (zam zeL rfl (by decide) rfl (show _ = 4 from rfl) (za8 (k := 0) (vs := [.int .i64 u.k, .int .i32 (u.r : Int), .int .i64 (u.f : Int), .int .i64 (u.t : Int), .bool u.al]) (l' := [.int .i64 4, .int .i64 s.tk.k, .int .i64 (s.tk.f : Int), .int .i64 (s.tk.t : Int), .int .i64 u.k, .int .i32 (u.r : Int), .int .i64 (u.f : Int), .int .i64 (u.t : Int), .bool u.al]) zfw rfl rfl rfl rfl rfl (show _ ≤ _ by simp) rfl rfl (zan (zaf (zap (zad (zai rfl (by decide) rfl (zan (zaf (zaE (zay (zav ?_))))))))))))
        have hfit : zbM s.st u = (4, 2) := by unfold zbM; simp_all <;> omega
        have hB : [.int .i64 4, .int .i64 s.tk.k, .int .i64 (s.tk.f : Int), .int .i64 (s.tk.t : Int), .int .i64 u.k, .int .i32 (u.r : Int), .int .i64 (u.f : Int), .int .i64 (u.t : Int), .bool u.al] = scV (zaA s u) := by unfold zaA; rw [hfit]; rfl
        refine za4 (k := 0) rfl (show cells b [.int .i64 4, .int .i64 s.tk.k, .int .i64 (s.tk.f : Int), .int .i64 (s.tk.t : Int), .int .i64 u.k, .int .i32 (u.r : Int), .int .i64 (u.f : Int), .int .i64 (u.t : Int), .bool u.al] 152 = cells b (scV (zaA s u)) 152 from (congrArg (fun z => cells b z 152) hB)) ?_
        show TX _ _ _ _ _ _ _ [cells b (scV (zaA s u)) 152, cells b1 [.int .i64 u.k, .int .i32 (u.r : Int), .int .i64 (u.f : Int), .int .i64 (u.t : Int), .bool u.al] 150]
        exact zaM (rs := [.tmp 4]) () (.inl rfl) Tryd.results88 (.cons (.tmp rfl) .nil) (by rw [hfit]; rfl) (zak [0] (by as_aux_lemma => kernel_rfl) rfl)
       ·
        -- no
        refine zaI (zaw (zaf (zap (zad (zai rfl (by decide) rfl (zan (zaf (zaE ?_))))))))
        have hfit : zbM s.st u = (s.st, 0) := by unfold zbM; simp_all <;> omega
        have hB : [.int .i64 s.st, .int .i64 s.tk.k, .int .i64 (s.tk.f : Int), .int .i64 (s.tk.t : Int), .int .i64 s.h.k, .int .i32 (s.h.r : Int), .int .i64 (s.h.f : Int), .int .i64 (s.h.t : Int), .bool s.h.al] = scV (zaA s u) := by unfold zaA; rw [hfit]; rfl
        refine za4 (k := 0) rfl (show cells b [.int .i64 s.st, .int .i64 s.tk.k, .int .i64 (s.tk.f : Int), .int .i64 (s.tk.t : Int), .int .i64 s.h.k, .int .i32 (s.h.r : Int), .int .i64 (s.h.f : Int), .int .i64 (s.h.t : Int), .bool s.h.al] 152 = cells b (scV (zaA s u)) 152 from (congrArg (fun z => cells b z 152) hB)) ?_
        show TX _ _ _ _ _ _ _ [cells b (scV (zaA s u)) 152, cells b1 [.int .i64 u.k, .int .i32 (u.r : Int), .int .i64 (u.f : Int), .int .i64 (u.t : Int), .bool u.al] 150]
        exact zaM (rs := [.tmp 4]) () (.inl rfl) Tryd.results88 (.cons (.tmp rfl) .nil) (by rw [hfit]; rfl) (zak [0] (by as_aux_lemma => kernel_rfl) rfl)
      ·
       -- no
       have h36 := beq_eq_false_iff_ne.1 h36
       refine zae rfl (by decide) (zae rfl (by decide) (zas (b := false) rfl (by decide) rfl rfl (zan (zaf (za0 rfl (zaI (zaw (zaf (zap (zad (zai rfl (by decide) rfl (zan (zaf ?_)))))))))))))
       refine zaE ?_
       have hfit : zbM s.st u = (s.st, 0) := by unfold zbM; simp_all <;> omega
       have hB : [.int .i64 s.st, .int .i64 s.tk.k, .int .i64 (s.tk.f : Int), .int .i64 (s.tk.t : Int), .int .i64 s.h.k, .int .i32 (s.h.r : Int), .int .i64 (s.h.f : Int), .int .i64 (s.h.t : Int), .bool s.h.al] = scV (zaA s u) := by unfold zaA; rw [hfit]; rfl
       refine za4 (k := 0) rfl (show cells b [.int .i64 s.st, .int .i64 s.tk.k, .int .i64 (s.tk.f : Int), .int .i64 (s.tk.t : Int), .int .i64 s.h.k, .int .i32 (s.h.r : Int), .int .i64 (s.h.f : Int), .int .i64 (s.h.t : Int), .bool s.h.al] 152 = cells b (scV (zaA s u)) 152 from (congrArg (fun z => cells b z 152) hB)) ?_
       show TX _ _ _ _ _ _ _ [cells b (scV (zaA s u)) 152, cells b1 [.int .i64 u.k, .int .i32 (u.r : Int), .int .i64 (u.f : Int), .int .i64 (u.t : Int), .bool u.al] 150]
       exact zaM (rs := [.tmp 4]) () (.inl rfl) Tryd.results88 (.cons (.tmp rfl) .nil) (by rw [hfit]; rfl) (zak [0] (by as_aux_lemma => kernel_rfl) rfl)
    ·
     -- no
     have h34 := beq_eq_false_iff_ne.1 h34
     refine zap (zad (zaz rfl (by decide) rfl rfl zaW (zai rfl (by decide) rfl (zan (zaf ?_)))))
     refine zaF rfl (fun h38 => ?_) (fun h38 => ?_)
     ·
      -- yes
      have h38 := beq_iff_eq.1 h38
      refine zap (zad (zag rfl (by decide) rfl (zaz rfl (by decide) rfl rfl zaW (zan (zaf ?_)))))
      refine zaF rfl (fun h39 => ?_) (fun h39 => ?_)
      ·
       -- yes
       have h39 := beq_iff_eq.1 h39
       refine zap (zad (zai rfl (by decide) rfl (zan (zaf (zaE (zay (zav ?_)))))))
       have hfit : zbM s.st u = (s.st, 1) := by unfold zbM; simp_all <;> omega
       have hB : [.int .i64 s.st, .int .i64 s.tk.k, .int .i64 (s.tk.f : Int), .int .i64 (s.tk.t : Int), .int .i64 s.h.k, .int .i32 (s.h.r : Int), .int .i64 (s.h.f : Int), .int .i64 (s.h.t : Int), .bool s.h.al] = scV (zaA s u) := by unfold zaA; rw [hfit]; rfl
       refine za4 (k := 0) rfl (show cells b [.int .i64 s.st, .int .i64 s.tk.k, .int .i64 (s.tk.f : Int), .int .i64 (s.tk.t : Int), .int .i64 s.h.k, .int .i32 (s.h.r : Int), .int .i64 (s.h.f : Int), .int .i64 (s.h.t : Int), .bool s.h.al] 152 = cells b (scV (zaA s u)) 152 from (congrArg (fun z => cells b z 152) hB)) ?_
       show TX _ _ _ _ _ _ _ [cells b (scV (zaA s u)) 152, cells b1 [.int .i64 u.k, .int .i32 (u.r : Int), .int .i64 (u.f : Int), .int .i64 (u.t : Int), .bool u.al] 150]
       exact zaM (rs := [.tmp 4]) () (.inl rfl) Tryd.results88 (.cons (.tmp rfl) .nil) (by rw [hfit]; rfl) (zak [0] (by as_aux_lemma => kernel_rfl) rfl)
      ·
       -- no
       have h39 := beq_eq_false_iff_ne.1 h39
       refine zaI (zaw (zaf (zap (zad (zai rfl (by decide) rfl (zan (zaf (zaE ?_))))))))
       have hfit : zbM s.st u = (s.st, 0) := by unfold zbM; simp_all <;> omega
       have hB : [.int .i64 s.st, .int .i64 s.tk.k, .int .i64 (s.tk.f : Int), .int .i64 (s.tk.t : Int), .int .i64 s.h.k, .int .i32 (s.h.r : Int), .int .i64 (s.h.f : Int), .int .i64 (s.h.t : Int), .bool s.h.al] = scV (zaA s u) := by unfold zaA; rw [hfit]; rfl
       refine za4 (k := 0) rfl (show cells b [.int .i64 s.st, .int .i64 s.tk.k, .int .i64 (s.tk.f : Int), .int .i64 (s.tk.t : Int), .int .i64 s.h.k, .int .i32 (s.h.r : Int), .int .i64 (s.h.f : Int), .int .i64 (s.h.t : Int), .bool s.h.al] 152 = cells b (scV (zaA s u)) 152 from (congrArg (fun z => cells b z 152) hB)) ?_
       show TX _ _ _ _ _ _ _ [cells b (scV (zaA s u)) 152, cells b1 [.int .i64 u.k, .int .i32 (u.r : Int), .int .i64 (u.f : Int), .int .i64 (u.t : Int), .bool u.al] 150]
       exact zaM (rs := [.tmp 4]) () (.inl rfl) Tryd.results88 (.cons (.tmp rfl) .nil) (by rw [hfit]; rfl) (zak [0] (by as_aux_lemma => kernel_rfl) rfl)
     ·
      -- no
      have h38 := beq_eq_false_iff_ne.1 h38
      refine zap (zad (zaz rfl (by decide) rfl rfl zaW (zai rfl (by decide) rfl (zan (zaf ?_)))))
      refine zaF rfl (fun h40 => ?_) (fun h40 => ?_)
      ·
       -- yes
       have h40 := beq_iff_eq.1 h40
       refine zap (zad (zag rfl (by decide) rfl (zaz rfl (by decide) rfl rfl zaW (zan (zaf ?_)))))
       refine zaF rfl (fun h41 => ?_) (fun h41 => ?_)
       ·
        -- yes
        have h41 := beq_iff_eq.1 h41
        refine zap (zad (zai rfl (by decide) rfl (zan (zaf (zaE (zay (zav ?_)))))))
        have hfit : zbM s.st u = (s.st, 1) := by unfold zbM; simp_all <;> omega
        have hB : [.int .i64 s.st, .int .i64 s.tk.k, .int .i64 (s.tk.f : Int), .int .i64 (s.tk.t : Int), .int .i64 s.h.k, .int .i32 (s.h.r : Int), .int .i64 (s.h.f : Int), .int .i64 (s.h.t : Int), .bool s.h.al] = scV (zaA s u) := by unfold zaA; rw [hfit]; rfl
        refine za4 (k := 0) rfl (show cells b [.int .i64 s.st, .int .i64 s.tk.k, .int .i64 (s.tk.f : Int), .int .i64 (s.tk.t : Int), .int .i64 s.h.k, .int .i32 (s.h.r : Int), .int .i64 (s.h.f : Int), .int .i64 (s.h.t : Int), .bool s.h.al] 152 = cells b (scV (zaA s u)) 152 from (congrArg (fun z => cells b z 152) hB)) ?_
        show TX _ _ _ _ _ _ _ [cells b (scV (zaA s u)) 152, cells b1 [.int .i64 u.k, .int .i32 (u.r : Int), .int .i64 (u.f : Int), .int .i64 (u.t : Int), .bool u.al] 150]
        exact zaM (rs := [.tmp 4]) () (.inl rfl) Tryd.results88 (.cons (.tmp rfl) .nil) (by rw [hfit]; rfl) (zak [0] (by as_aux_lemma => kernel_rfl) rfl)
       ·
        -- no
        have h41 := beq_eq_false_iff_ne.1 h41
        refine zaI (zaw (zaf (zap (zad (zai rfl (by decide) rfl (zan (zaf (zaE ?_))))))))
        have hfit : zbM s.st u = (s.st, 0) := by unfold zbM; simp_all <;> omega
        have hB : [.int .i64 s.st, .int .i64 s.tk.k, .int .i64 (s.tk.f : Int), .int .i64 (s.tk.t : Int), .int .i64 s.h.k, .int .i32 (s.h.r : Int), .int .i64 (s.h.f : Int), .int .i64 (s.h.t : Int), .bool s.h.al] = scV (zaA s u) := by unfold zaA; rw [hfit]; rfl
        refine za4 (k := 0) rfl (show cells b [.int .i64 s.st, .int .i64 s.tk.k, .int .i64 (s.tk.f : Int), .int .i64 (s.tk.t : Int), .int .i64 s.h.k, .int .i32 (s.h.r : Int), .int .i64 (s.h.f : Int), .int .i64 (s.h.t : Int), .bool s.h.al] 152 = cells b (scV (zaA s u)) 152 from (congrArg (fun z => cells b z 152) hB)) ?_
        show TX _ _ _ _ _ _ _ [cells b (scV (zaA s u)) 152, cells b1 [.int .i64 u.k, .int .i32 (u.r : Int), .int .i64 (u.f : Int), .int .i64 (u.t : Int), .bool u.al] 150]
        exact zaM (rs := [.tmp 4]) () (.inl rfl) Tryd.results88 (.cons (.tmp rfl) .nil) (by rw [hfit]; rfl) (zak [0] (by as_aux_lemma => kernel_rfl) rfl)
      ·
       -- no
       have h40 := beq_eq_false_iff_ne.1 h40
       refine zap (zad (zaz rfl (by decide) rfl rfl zaW (zai rfl (by decide) rfl (zan (zaf ?_)))))
       refine zaF rfl (fun h42 => ?_) (fun h42 => ?_)
       ·
        -- yes
        have h42 := beq_iff_eq.1 h42
        refine zap (zad (zag rfl (by decide) rfl (zaz rfl (by decide) rfl rfl zaW (zag rfl (by decide) rfl ?_))))
        refine zaV (s := 72) rfl (fun h43 => ?_) (fun h43 => ?_)
        ·
         -- yes
         have h43 := beq_iff_eq.1 h43
         refine zam zeM rfl (by decide) rfl (show _ = 1 from rfl) (zaP (k := 1) zg8 rfl (by decide) rfl rfl rfl (zaz rfl (by decide) rfl rfl zaW (zas (b := true) rfl (by decide) rfl rfl (zan (zaf ?_)))))
         refine zaF rfl (fun h44 => ?_) (fun h44 => ?_)
         ·
          -- yes
          have h44 := beq_iff_eq.1 h44
          refine zap (zad (zag rfl (by decide) rfl (zaC rfl (by decide) rfl (zam zbn rfl (by decide) rfl (show _ = 0 from rfl) ?_))))
          refine zaN (k := 0) (l' := [.int .i64 7, .int .i64 s.tk.k, .int .i64 (s.tk.f : Int), .int .i64 (s.tk.t : Int), .int .i64 s.h.k, .int .i32 (s.h.r : Int), .int .i64 (s.h.f : Int), .int .i64 (s.h.t : Int), .bool s.h.al]) zdW rfl rfl rfl rfl rfl (fun _ _ => rfl) rfl ?_
          refine zan (zaf (zap (zad (zai rfl (by decide) rfl (zan (zaf (zaE (zay (zav ?_)))))))))
          have hfit : zbM s.st u = (7, 1) := by unfold zbM; simp_all <;> omega
          have hB : [.int .i64 7, .int .i64 s.tk.k, .int .i64 (s.tk.f : Int), .int .i64 (s.tk.t : Int), .int .i64 s.h.k, .int .i32 (s.h.r : Int), .int .i64 (s.h.f : Int), .int .i64 (s.h.t : Int), .bool s.h.al] = scV (zaA s u) := by unfold zaA; rw [hfit]; rfl
          refine za4 (k := 0) rfl (show cells b [.int .i64 7, .int .i64 s.tk.k, .int .i64 (s.tk.f : Int), .int .i64 (s.tk.t : Int), .int .i64 s.h.k, .int .i32 (s.h.r : Int), .int .i64 (s.h.f : Int), .int .i64 (s.h.t : Int), .bool s.h.al] 152 = cells b (scV (zaA s u)) 152 from (congrArg (fun z => cells b z 152) hB)) ?_
          show TX _ _ _ _ _ _ _ [cells b (scV (zaA s u)) 152, cells b1 [.int .i64 u.k, .int .i32 (u.r : Int), .int .i64 (u.f : Int), .int .i64 (u.t : Int), .bool u.al] 150]
          exact zaM (rs := [.tmp 4]) () (.inl rfl) Tryd.results88 (.cons (.tmp rfl) .nil) (by rw [hfit]; rfl) (zak [0] (by as_aux_lemma => kernel_rfl) rfl)
         ·
          -- no
          have h44 := beq_eq_false_iff_ne.1 h44
          refine zaI (zaw (zaf (zap (zad (zai rfl (by decide) rfl (zan (zaf (zaE ?_))))))))
          have hfit : zbM s.st u = (s.st, 0) := by unfold zbM; simp_all <;> omega
          have hB : [.int .i64 s.st, .int .i64 s.tk.k, .int .i64 (s.tk.f : Int), .int .i64 (s.tk.t : Int), .int .i64 s.h.k, .int .i32 (s.h.r : Int), .int .i64 (s.h.f : Int), .int .i64 (s.h.t : Int), .bool s.h.al] = scV (zaA s u) := by unfold zaA; rw [hfit]; rfl
          refine za4 (k := 0) rfl (show cells b [.int .i64 s.st, .int .i64 s.tk.k, .int .i64 (s.tk.f : Int), .int .i64 (s.tk.t : Int), .int .i64 s.h.k, .int .i32 (s.h.r : Int), .int .i64 (s.h.f : Int), .int .i64 (s.h.t : Int), .bool s.h.al] 152 = cells b (scV (zaA s u)) 152 from (congrArg (fun z => cells b z 152) hB)) ?_
          show TX _ _ _ _ _ _ _ [cells b (scV (zaA s u)) 152, cells b1 [.int .i64 u.k, .int .i32 (u.r : Int), .int .i64 (u.f : Int), .int .i64 (u.t : Int), .bool u.al] 150]
          exact zaM (rs := [.tmp 4]) () (.inl rfl) Tryd.results88 (.cons (.tmp rfl) .nil) (by rw [hfit]; rfl) (zak [0] (by as_aux_lemma => kernel_rfl) rfl)
        ·
         -- no
         have h43 := beq_eq_false_iff_ne.1 h43
         refine zae rfl (by decide) (zae rfl (by decide) (zae rfl (by decide) (zas (b := false) rfl (by decide) rfl rfl (zan (zaf (za0 rfl (zaI (zaw (zaf (zap (zad (zai rfl (by decide) rfl (zan ?_)))))))))))))
         refine zaf (zaE ?_)
         have hfit : zbM s.st u = (s.st, 0) := by unfold zbM; simp_all <;> omega
         have hB : [.int .i64 s.st, .int .i64 s.tk.k, .int .i64 (s.tk.f : Int), .int .i64 (s.tk.t : Int), .int .i64 s.h.k, .int .i32 (s.h.r : Int), .int .i64 (s.h.f : Int), .int .i64 (s.h.t : Int), .bool s.h.al] = scV (zaA s u) := by unfold zaA; rw [hfit]; rfl
         refine za4 (k := 0) rfl (show cells b [.int .i64 s.st, .int .i64 s.tk.k, .int .i64 (s.tk.f : Int), .int .i64 (s.tk.t : Int), .int .i64 s.h.k, .int .i32 (s.h.r : Int), .int .i64 (s.h.f : Int), .int .i64 (s.h.t : Int), .bool s.h.al] 152 = cells b (scV (zaA s u)) 152 from (congrArg (fun z => cells b z 152) hB)) ?_
         show TX _ _ _ _ _ _ _ [cells b (scV (zaA s u)) 152, cells b1 [.int .i64 u.k, .int .i32 (u.r : Int), .int .i64 (u.f : Int), .int .i64 (u.t : Int), .bool u.al] 150]
         exact zaM (rs := [.tmp 4]) () (.inl rfl) Tryd.results88 (.cons (.tmp rfl) .nil) (by rw [hfit]; rfl) (zak [0] (by as_aux_lemma => kernel_rfl) rfl)
       ·
        -- no
        have h42 := beq_eq_false_iff_ne.1 h42
        refine zaI (zaw (zaf (zap (zad (zai rfl (by decide) rfl (zan (zaf (zaE ?_))))))))
        have hfit : zbM s.st u = (s.st, 0) := by unfold zbM; simp_all <;> omega
        have hB : [.int .i64 s.st, .int .i64 s.tk.k, .int .i64 (s.tk.f : Int), .int .i64 (s.tk.t : Int), .int .i64 s.h.k, .int .i32 (s.h.r : Int), .int .i64 (s.h.f : Int), .int .i64 (s.h.t : Int), .bool s.h.al] = scV (zaA s u) := by unfold zaA; rw [hfit]; rfl
        refine za4 (k := 0) rfl (show cells b [.int .i64 s.st, .int .i64 s.tk.k, .int .i64 (s.tk.f : Int), .int .i64 (s.tk.t : Int), .int .i64 s.h.k, .int .i32 (s.h.r : Int), .int .i64 (s.h.f : Int), .int .i64 (s.h.t : Int), .bool s.h.al] 152 = cells b (scV (zaA s u)) 152 from (congrArg (fun z => cells b z 152) hB)) ?_
        show TX _ _ _ _ _ _ _ [cells b (scV (zaA s u)) 152, cells b1 [.int .i64 u.k, .int .i32 (u.r : Int), .int .i64 (u.f : Int), .int .i64 (u.t : Int), .bool u.al] 150]
        exact zaM (rs := [.tmp 4]) () (.inl rfl) Tryd.results88 (.cons (.tmp rfl) .nil) (by rw [hfit]; rfl) (zak [0] (by as_aux_lemma => kernel_rfl) rfl)
   ·
    -- no
    have h33 := beq_eq_false_iff_ne.1 h33
    refine zad (zaz rfl (by decide) rfl rfl zaW (zai rfl (by decide) rfl (zan (zaf ?_))))
    refine zaF rfl (fun h45 => ?_) (fun h45 => ?_)
    ·
     -- yes
     have h45 := beq_iff_eq.1 h45
     refine zap (zap (zad (zag rfl (by decide) rfl (zaz rfl (by decide) rfl rfl zaW (zan (zaf ?_))))))
     refine zaF rfl (fun h46 => ?_) (fun h46 => ?_)
     ·
      -- yes
      have h46 := beq_iff_eq.1 h46
      refine zap (zad (zag rfl (by decide) rfl (zaC rfl (by decide) rfl (zam zbn rfl (by decide) rfl (show _ = 0 from rfl) ?_))))
      refine zaN (k := 0) (l' := [.int .i64 3, .int .i64 s.tk.k, .int .i64 (s.tk.f : Int), .int .i64 (s.tk.t : Int), .int .i64 s.h.k, .int .i32 (s.h.r : Int), .int .i64 (s.h.f : Int), .int .i64 (s.h.t : Int), .bool s.h.al]) zdW rfl rfl rfl rfl rfl (fun _ _ => rfl) rfl ?_
      refine zan (zaf (zap (zad (zai rfl (by decide) rfl (zan (zaf (zaE (zav (zay (zav ?_))))))))))
      have hfit : zbM s.st u = (3, 1) := by unfold zbM; simp_all <;> omega
      have hB : [.int .i64 3, .int .i64 s.tk.k, .int .i64 (s.tk.f : Int), .int .i64 (s.tk.t : Int), .int .i64 s.h.k, .int .i32 (s.h.r : Int), .int .i64 (s.h.f : Int), .int .i64 (s.h.t : Int), .bool s.h.al] = scV (zaA s u) := by unfold zaA; rw [hfit]; rfl
      refine za4 (k := 0) rfl (show cells b [.int .i64 3, .int .i64 s.tk.k, .int .i64 (s.tk.f : Int), .int .i64 (s.tk.t : Int), .int .i64 s.h.k, .int .i32 (s.h.r : Int), .int .i64 (s.h.f : Int), .int .i64 (s.h.t : Int), .bool s.h.al] 152 = cells b (scV (zaA s u)) 152 from (congrArg (fun z => cells b z 152) hB)) ?_
      show TX _ _ _ _ _ _ _ [cells b (scV (zaA s u)) 152, cells b1 [.int .i64 u.k, .int .i32 (u.r : Int), .int .i64 (u.f : Int), .int .i64 (u.t : Int), .bool u.al] 150]
      exact zaM (rs := [.tmp 4]) () (.inl rfl) Tryd.results88 (.cons (.tmp rfl) .nil) (by rw [hfit]; rfl) (zak [0] (by as_aux_lemma => kernel_rfl) rfl)
     ·
      -- no
      have h46 := beq_eq_false_iff_ne.1 h46
      refine zaI (zaf (zap (zad (zag rfl (by decide) rfl (zaC rfl (by decide) rfl (zam zbn rfl (by decide) rfl (show _ = 0 from rfl) (zaP (k := 0) zcx rfl (by decide) rfl rfl rfl (zaz rfl (by decide) rfl rfl zaW (zag rfl (by decide) rfl ?_)))))))))
      refine zaV (s := 49) rfl (fun h47 => ?_) (fun h47 => ?_)
      ·
       -- yes
       have h47 := beq_iff_eq.1 h47
       refine zbb (k := 1) (cs := [.int .i64 u.k, .int .i32 (u.r : Int), .int .i64 (u.f : Int), .int .i64 (u.t : Int), .bool u.al]) zc4 rfl (by decide) rfl rfl rfl rfl (za9 (v := .bool (dot u)) (vs := [.agg #[.int .i64 u.k, .int .i32 (u.r : Int), .int .i64 (u.f : Int), .int .i64 (u.t : Int), .bool u.al]]) rfl (by decide) rfl rfl rfl zkt (zmt u) (zas (b := true) rfl (by decide) rfl rfl (zan (zaf ?_))))
       refine zaF rfl (fun h48 => ?_) (fun h48 => ?_)
       ·
        -- yes
        refine zap ?_
        refine zen (β := Unit) 6 5 _ [(0, 53, .pointer (some ⟨b, 0, none⟩)), (1, 54, .pointer (some ⟨b, 0, none⟩)), (2, 55, .agg #[.int .i64 u.k, .int .i32 (u.r : Int), .int .i64 (u.f : Int), .int .i64 (u.t : Int), .bool u.al]), (3, 56, .pointer (some ⟨b, 0, none⟩)), (4, 57, .pointer (some ⟨b, 0, none⟩))] (fun _b => []) (fun _b => [cells b [.int .i64 4, .int .i64 s.tk.k, .int .i64 (s.tk.f : Int), .int .i64 (s.tk.t : Int), .int .i64 s.h.k, .int .i32 (s.h.r : Int), .int .i64 (s.h.f : Int), .int .i64 (s.h.t : Int), .bool s.h.al] 152, cells b1 [.int .i64 u.k, .int .i32 (u.r : Int), .int .i64 (u.f : Int), .int .i64 (u.t : Int), .bool u.al] 150]) mixed (by as_aux_lemma => kernel_rfl) (by as_aux_lemma => kernel_rfl) rfl (by decide) (by decide) (by rfl) (by as_aux_lemma => kernel_rfl) (by as_aux_lemma => kernel_rfl) (DrawPreX.cons ?_ (DrawPreX.cons ?_ (DrawPreX.cons ?_ (DrawPreX.cons ?_ (DrawPreX.cons ?_ (zbo DrawPreX.nil)))))) (fun _b => (DrawPreX.cons ?_ (DrawPreX.cons ?_ (DrawPreX.cons ?_ (DrawPreX.cons ?_ (DrawPreX.cons ?_ (zbo DrawPreX.nil))))))) ?_ ?_
        ·
         intro D hn hd hcl hu hi
         refine zag rfl (by decide) (zaS (by rfl) rfl) ?_
         exact zar 0 hu hi rfl
        ·
         intro D hn hd hcl hu hi
         refine zag rfl (by decide) (zaS (by rfl) rfl) ?_
         exact zar 1 hu hi rfl
        ·
         intro D hn hd hcl hu hi
         refine zbb (k := 1) (cs := [.int .i64 u.k, .int .i32 (u.r : Int), .int .i64 (u.f : Int), .int .i64 (u.t : Int), .bool u.al]) zc4 rfl (by decide) (zaS (by rfl) rfl) rfl rfl rfl ?_
         exact zar 2 hu hi rfl
        ·
         intro D hn hd hcl hu hi
         refine zaC rfl (by decide) (zaj (m := 0) hu rfl (hd 0 (by decide))) ?_
         exact zar 3 hu hi rfl
        ·
         intro D hn hd hcl hu hi
         refine zam zbn rfl (by decide) (zaj (m := 3) hu rfl (hd 3 (by decide))) (show _ = 0 from rfl) ?_
         exact zar 4 hu hi rfl
        ·
         intro D hn hd hcl hu hi
         refine zag rfl (by decide) (zaS (by rfl) rfl) ?_
         exact zar 0 hu hi rfl
        ·
         intro D hn hd hcl hu hi
         refine zag rfl (by decide) (zaS (by rfl) rfl) ?_
         exact zar 1 hu hi rfl
        ·
         intro D hn hd hcl hu hi
         refine zbb (k := 1) (cs := [.int .i64 u.k, .int .i32 (u.r : Int), .int .i64 (u.f : Int), .int .i64 (u.t : Int), .bool u.al]) zc4 rfl (by decide) (zaS (by rfl) rfl) rfl rfl rfl ?_
         exact zar 2 hu hi rfl
        ·
         intro D hn hd hcl hu hi
         refine zaC rfl (by decide) (zaj (m := 0) hu rfl (hd 0 (by decide))) ?_
         exact zar 3 hu hi rfl
        ·
         intro D hn hd hcl hu hi
         refine zam zbn rfl (by decide) (zaj (m := 3) hu rfl (hd 3 (by decide))) (show _ = 0 from rfl) ?_
         exact zar 4 hu hi rfl
        ·
         intro D hn hd hcl
         refine zaN (k := 0) (l' := [.int .i64 4, .int .i64 s.tk.k, .int .i64 (s.tk.f : Int), .int .i64 (s.tk.t : Int), .int .i64 s.h.k, .int .i32 (s.h.r : Int), .int .i64 (s.h.f : Int), .int .i64 (s.h.t : Int), .bool s.h.al]) zdW rfl (zaj (m := 4) (by as_aux_lemma => kernel_rfl) rfl (hd 4 (by decide))) rfl rfl rfl (fun _ _ => rfl) rfl ?_
         exact fun a w ha hw => ⟨(), ha, hw⟩
        intro _b
        show TO _ _ _ _ _ _ _ _ _ _ [cells b [.int .i64 4, .int .i64 s.tk.k, .int .i64 (s.tk.f : Int), .int .i64 (s.tk.t : Int), .int .i64 s.h.k, .int .i32 (s.h.r : Int), .int .i64 (s.h.f : Int), .int .i64 (s.h.t : Int), .bool s.h.al] 152, cells b1 [.int .i64 u.k, .int .i32 (u.r : Int), .int .i64 (u.f : Int), .int .i64 (u.t : Int), .bool u.al] 150]
        refine zaC rfl (by decide) rfl (zam zeL rfl (by decide) rfl (show _ = 4 from rfl) (za8 (k := 0) (vs := [.int .i64 u.k, .int .i32 (u.r : Int), .int .i64 (u.f : Int), .int .i64 (u.t : Int), .bool u.al]) (l' := [.int .i64 4, .int .i64 s.tk.k, .int .i64 (s.tk.f : Int), .int .i64 (s.tk.t : Int), .int .i64 u.k, .int .i32 (u.r : Int), .int .i64 (u.f : Int), .int .i64 (u.t : Int), .bool u.al]) zfw rfl rfl rfl rfl rfl (show _ ≤ _ by simp) rfl rfl (zan (zaf (zap (zad (zai rfl (by decide) rfl (zan (zaf (zaE (zay (zav ?_))))))))))))
        have hfit : zbM s.st u = (4, 2) := by unfold zbM; simp_all <;> omega
        have hB : [.int .i64 4, .int .i64 s.tk.k, .int .i64 (s.tk.f : Int), .int .i64 (s.tk.t : Int), .int .i64 u.k, .int .i32 (u.r : Int), .int .i64 (u.f : Int), .int .i64 (u.t : Int), .bool u.al] = scV (zaA s u) := by unfold zaA; rw [hfit]; rfl
        refine za4 (k := 0) rfl (show cells b [.int .i64 4, .int .i64 s.tk.k, .int .i64 (s.tk.f : Int), .int .i64 (s.tk.t : Int), .int .i64 u.k, .int .i32 (u.r : Int), .int .i64 (u.f : Int), .int .i64 (u.t : Int), .bool u.al] 152 = cells b (scV (zaA s u)) 152 from (congrArg (fun z => cells b z 152) hB)) ?_
        show TX _ _ _ _ _ _ _ [cells b (scV (zaA s u)) 152, cells b1 [.int .i64 u.k, .int .i32 (u.r : Int), .int .i64 (u.f : Int), .int .i64 (u.t : Int), .bool u.al] 150]
        exact zaM (rs := [.tmp 4]) () (.inl rfl) Tryd.results88 (.cons (.tmp rfl) .nil) (by rw [hfit]; rfl) (zak [0] (by as_aux_lemma => kernel_rfl) rfl)
       ·
        -- no
        refine zaI (zaw (zaf (zap (zad (zai rfl (by decide) rfl (zan (zaf (zaE ?_))))))))
        have hfit : zbM s.st u = (s.st, 0) := by unfold zbM; simp_all <;> omega
        have hB : [.int .i64 s.st, .int .i64 s.tk.k, .int .i64 (s.tk.f : Int), .int .i64 (s.tk.t : Int), .int .i64 s.h.k, .int .i32 (s.h.r : Int), .int .i64 (s.h.f : Int), .int .i64 (s.h.t : Int), .bool s.h.al] = scV (zaA s u) := by unfold zaA; rw [hfit]; rfl
        refine za4 (k := 0) rfl (show cells b [.int .i64 s.st, .int .i64 s.tk.k, .int .i64 (s.tk.f : Int), .int .i64 (s.tk.t : Int), .int .i64 s.h.k, .int .i32 (s.h.r : Int), .int .i64 (s.h.f : Int), .int .i64 (s.h.t : Int), .bool s.h.al] 152 = cells b (scV (zaA s u)) 152 from (congrArg (fun z => cells b z 152) hB)) ?_
        show TX _ _ _ _ _ _ _ [cells b (scV (zaA s u)) 152, cells b1 [.int .i64 u.k, .int .i32 (u.r : Int), .int .i64 (u.f : Int), .int .i64 (u.t : Int), .bool u.al] 150]
        exact zaM (rs := [.tmp 4]) () (.inl rfl) Tryd.results88 (.cons (.tmp rfl) .nil) (by rw [hfit]; rfl) (zak [0] (by as_aux_lemma => kernel_rfl) rfl)
      ·
       -- no
       have h47 := beq_eq_false_iff_ne.1 h47
       refine zae rfl (by decide) (zae rfl (by decide) (zas (b := false) rfl (by decide) rfl rfl (zan (zaf (za0 rfl (zaI (zaw (zaf (zap (zad (zai rfl (by decide) rfl (zan (zaf ?_)))))))))))))
       refine zaE ?_
       have hfit : zbM s.st u = (s.st, 0) := by unfold zbM; simp_all <;> omega
       have hB : [.int .i64 s.st, .int .i64 s.tk.k, .int .i64 (s.tk.f : Int), .int .i64 (s.tk.t : Int), .int .i64 s.h.k, .int .i32 (s.h.r : Int), .int .i64 (s.h.f : Int), .int .i64 (s.h.t : Int), .bool s.h.al] = scV (zaA s u) := by unfold zaA; rw [hfit]; rfl
       refine za4 (k := 0) rfl (show cells b [.int .i64 s.st, .int .i64 s.tk.k, .int .i64 (s.tk.f : Int), .int .i64 (s.tk.t : Int), .int .i64 s.h.k, .int .i32 (s.h.r : Int), .int .i64 (s.h.f : Int), .int .i64 (s.h.t : Int), .bool s.h.al] 152 = cells b (scV (zaA s u)) 152 from (congrArg (fun z => cells b z 152) hB)) ?_
       show TX _ _ _ _ _ _ _ [cells b (scV (zaA s u)) 152, cells b1 [.int .i64 u.k, .int .i32 (u.r : Int), .int .i64 (u.f : Int), .int .i64 (u.t : Int), .bool u.al] 150]
       exact zaM (rs := [.tmp 4]) () (.inl rfl) Tryd.results88 (.cons (.tmp rfl) .nil) (by rw [hfit]; rfl) (zak [0] (by as_aux_lemma => kernel_rfl) rfl)
    ·
     -- no
     have h45 := beq_eq_false_iff_ne.1 h45
     refine zap (zad (zaz rfl (by decide) rfl rfl zaW (zai rfl (by decide) rfl (zan (zaf ?_)))))
     refine zaF rfl (fun h49 => ?_) (fun h49 => ?_)
     ·
      -- yes
      have h49 := beq_iff_eq.1 h49
      refine zap (zad (zag rfl (by decide) rfl (zaz rfl (by decide) rfl rfl zaW (zan (zaf ?_)))))
      refine zaF rfl (fun h50 => ?_) (fun h50 => ?_)
      ·
       -- yes
       have h50 := beq_iff_eq.1 h50
       refine zap (zad (zai rfl (by decide) rfl (zan (zaf (zaE (zay (zav ?_)))))))
       have hfit : zbM s.st u = (s.st, 1) := by unfold zbM; simp_all <;> omega
       have hB : [.int .i64 s.st, .int .i64 s.tk.k, .int .i64 (s.tk.f : Int), .int .i64 (s.tk.t : Int), .int .i64 s.h.k, .int .i32 (s.h.r : Int), .int .i64 (s.h.f : Int), .int .i64 (s.h.t : Int), .bool s.h.al] = scV (zaA s u) := by unfold zaA; rw [hfit]; rfl
       refine za4 (k := 0) rfl (show cells b [.int .i64 s.st, .int .i64 s.tk.k, .int .i64 (s.tk.f : Int), .int .i64 (s.tk.t : Int), .int .i64 s.h.k, .int .i32 (s.h.r : Int), .int .i64 (s.h.f : Int), .int .i64 (s.h.t : Int), .bool s.h.al] 152 = cells b (scV (zaA s u)) 152 from (congrArg (fun z => cells b z 152) hB)) ?_
       show TX _ _ _ _ _ _ _ [cells b (scV (zaA s u)) 152, cells b1 [.int .i64 u.k, .int .i32 (u.r : Int), .int .i64 (u.f : Int), .int .i64 (u.t : Int), .bool u.al] 150]
       exact zaM (rs := [.tmp 4]) () (.inl rfl) Tryd.results88 (.cons (.tmp rfl) .nil) (by rw [hfit]; rfl) (zak [0] (by as_aux_lemma => kernel_rfl) rfl)
      ·
       -- no
       have h50 := beq_eq_false_iff_ne.1 h50
       refine zaI (zaw (zaf (zap (zad (zai rfl (by decide) rfl (zan (zaf (zaE ?_))))))))
       have hfit : zbM s.st u = (s.st, 0) := by unfold zbM; simp_all <;> omega
       have hB : [.int .i64 s.st, .int .i64 s.tk.k, .int .i64 (s.tk.f : Int), .int .i64 (s.tk.t : Int), .int .i64 s.h.k, .int .i32 (s.h.r : Int), .int .i64 (s.h.f : Int), .int .i64 (s.h.t : Int), .bool s.h.al] = scV (zaA s u) := by unfold zaA; rw [hfit]; rfl
       refine za4 (k := 0) rfl (show cells b [.int .i64 s.st, .int .i64 s.tk.k, .int .i64 (s.tk.f : Int), .int .i64 (s.tk.t : Int), .int .i64 s.h.k, .int .i32 (s.h.r : Int), .int .i64 (s.h.f : Int), .int .i64 (s.h.t : Int), .bool s.h.al] 152 = cells b (scV (zaA s u)) 152 from (congrArg (fun z => cells b z 152) hB)) ?_
       show TX _ _ _ _ _ _ _ [cells b (scV (zaA s u)) 152, cells b1 [.int .i64 u.k, .int .i32 (u.r : Int), .int .i64 (u.f : Int), .int .i64 (u.t : Int), .bool u.al] 150]
       exact zaM (rs := [.tmp 4]) () (.inl rfl) Tryd.results88 (.cons (.tmp rfl) .nil) (by rw [hfit]; rfl) (zak [0] (by as_aux_lemma => kernel_rfl) rfl)
     ·
      -- no
      have h49 := beq_eq_false_iff_ne.1 h49
      refine zap (zad (zaz rfl (by decide) rfl rfl zaW (zai rfl (by decide) rfl (zan (zaf ?_)))))
      refine zaF rfl (fun h51 => ?_) (fun h51 => ?_)
      ·
       -- yes
       have h51 := beq_iff_eq.1 h51
       refine zap (zad (zag rfl (by decide) rfl (zaz rfl (by decide) rfl rfl zaW (zan (zaf ?_)))))
       refine zaF rfl (fun h52 => ?_) (fun h52 => ?_)
       ·
        -- yes
        have h52 := beq_iff_eq.1 h52
        refine zap (zad (zai rfl (by decide) rfl (zan (zaf (zaE (zay (zav ?_)))))))
        have hfit : zbM s.st u = (s.st, 1) := by unfold zbM; simp_all <;> omega
        have hB : [.int .i64 s.st, .int .i64 s.tk.k, .int .i64 (s.tk.f : Int), .int .i64 (s.tk.t : Int), .int .i64 s.h.k, .int .i32 (s.h.r : Int), .int .i64 (s.h.f : Int), .int .i64 (s.h.t : Int), .bool s.h.al] = scV (zaA s u) := by unfold zaA; rw [hfit]; rfl
        refine za4 (k := 0) rfl (show cells b [.int .i64 s.st, .int .i64 s.tk.k, .int .i64 (s.tk.f : Int), .int .i64 (s.tk.t : Int), .int .i64 s.h.k, .int .i32 (s.h.r : Int), .int .i64 (s.h.f : Int), .int .i64 (s.h.t : Int), .bool s.h.al] 152 = cells b (scV (zaA s u)) 152 from (congrArg (fun z => cells b z 152) hB)) ?_
        show TX _ _ _ _ _ _ _ [cells b (scV (zaA s u)) 152, cells b1 [.int .i64 u.k, .int .i32 (u.r : Int), .int .i64 (u.f : Int), .int .i64 (u.t : Int), .bool u.al] 150]
        exact zaM (rs := [.tmp 4]) () (.inl rfl) Tryd.results88 (.cons (.tmp rfl) .nil) (by rw [hfit]; rfl) (zak [0] (by as_aux_lemma => kernel_rfl) rfl)
       ·
        -- no
        have h52 := beq_eq_false_iff_ne.1 h52
        refine zaI (zaw (zaf (zap (zad (zai rfl (by decide) rfl (zan (zaf (zaE ?_))))))))
        have hfit : zbM s.st u = (s.st, 0) := by unfold zbM; simp_all <;> omega
        have hB : [.int .i64 s.st, .int .i64 s.tk.k, .int .i64 (s.tk.f : Int), .int .i64 (s.tk.t : Int), .int .i64 s.h.k, .int .i32 (s.h.r : Int), .int .i64 (s.h.f : Int), .int .i64 (s.h.t : Int), .bool s.h.al] = scV (zaA s u) := by unfold zaA; rw [hfit]; rfl
        refine za4 (k := 0) rfl (show cells b [.int .i64 s.st, .int .i64 s.tk.k, .int .i64 (s.tk.f : Int), .int .i64 (s.tk.t : Int), .int .i64 s.h.k, .int .i32 (s.h.r : Int), .int .i64 (s.h.f : Int), .int .i64 (s.h.t : Int), .bool s.h.al] 152 = cells b (scV (zaA s u)) 152 from (congrArg (fun z => cells b z 152) hB)) ?_
        show TX _ _ _ _ _ _ _ [cells b (scV (zaA s u)) 152, cells b1 [.int .i64 u.k, .int .i32 (u.r : Int), .int .i64 (u.f : Int), .int .i64 (u.t : Int), .bool u.al] 150]
        exact zaM (rs := [.tmp 4]) () (.inl rfl) Tryd.results88 (.cons (.tmp rfl) .nil) (by rw [hfit]; rfl) (zak [0] (by as_aux_lemma => kernel_rfl) rfl)
      ·
       -- no
       have h51 := beq_eq_false_iff_ne.1 h51
       refine zap (zad (zaz rfl (by decide) rfl rfl zaW (zai rfl (by decide) rfl (zan (zaf ?_)))))
       refine zaF rfl (fun h53 => ?_) (fun h53 => ?_)
       ·
        -- yes
        have h53 := beq_iff_eq.1 h53
        refine zap (zad (zag rfl (by decide) rfl (zaz rfl (by decide) rfl rfl zaW (zag rfl (by decide) rfl ?_))))
        refine zaV (s := 72) rfl (fun h54 => ?_) (fun h54 => ?_)
        ·
         -- yes
         have h54 := beq_iff_eq.1 h54
         refine zam zeM rfl (by decide) rfl (show _ = 1 from rfl) (zaP (k := 1) zg8 rfl (by decide) rfl rfl rfl (zaz rfl (by decide) rfl rfl zaW (zas (b := true) rfl (by decide) rfl rfl (zan (zaf ?_)))))
         refine zaF rfl (fun h55 => ?_) (fun h55 => ?_)
         ·
          -- yes
          have h55 := beq_iff_eq.1 h55
          refine zap (zad (zag rfl (by decide) rfl (zaC rfl (by decide) rfl (zam zbn rfl (by decide) rfl (show _ = 0 from rfl) ?_))))
          refine zaN (k := 0) (l' := [.int .i64 7, .int .i64 s.tk.k, .int .i64 (s.tk.f : Int), .int .i64 (s.tk.t : Int), .int .i64 s.h.k, .int .i32 (s.h.r : Int), .int .i64 (s.h.f : Int), .int .i64 (s.h.t : Int), .bool s.h.al]) zdW rfl rfl rfl rfl rfl (fun _ _ => rfl) rfl ?_
          refine zan (zaf (zap (zad (zai rfl (by decide) rfl (zan (zaf (zaE (zay (zav ?_)))))))))
          have hfit : zbM s.st u = (7, 1) := by unfold zbM; simp_all <;> omega
          have hB : [.int .i64 7, .int .i64 s.tk.k, .int .i64 (s.tk.f : Int), .int .i64 (s.tk.t : Int), .int .i64 s.h.k, .int .i32 (s.h.r : Int), .int .i64 (s.h.f : Int), .int .i64 (s.h.t : Int), .bool s.h.al] = scV (zaA s u) := by unfold zaA; rw [hfit]; rfl
          refine za4 (k := 0) rfl (show cells b [.int .i64 7, .int .i64 s.tk.k, .int .i64 (s.tk.f : Int), .int .i64 (s.tk.t : Int), .int .i64 s.h.k, .int .i32 (s.h.r : Int), .int .i64 (s.h.f : Int), .int .i64 (s.h.t : Int), .bool s.h.al] 152 = cells b (scV (zaA s u)) 152 from (congrArg (fun z => cells b z 152) hB)) ?_
          show TX _ _ _ _ _ _ _ [cells b (scV (zaA s u)) 152, cells b1 [.int .i64 u.k, .int .i32 (u.r : Int), .int .i64 (u.f : Int), .int .i64 (u.t : Int), .bool u.al] 150]
          exact zaM (rs := [.tmp 4]) () (.inl rfl) Tryd.results88 (.cons (.tmp rfl) .nil) (by rw [hfit]; rfl) (zak [0] (by as_aux_lemma => kernel_rfl) rfl)
         ·
          -- no
          have h55 := beq_eq_false_iff_ne.1 h55
          refine zaI (zaw (zaf (zap (zad (zai rfl (by decide) rfl (zan (zaf (zaE ?_))))))))
          have hfit : zbM s.st u = (s.st, 0) := by unfold zbM; simp_all <;> omega
          have hB : [.int .i64 s.st, .int .i64 s.tk.k, .int .i64 (s.tk.f : Int), .int .i64 (s.tk.t : Int), .int .i64 s.h.k, .int .i32 (s.h.r : Int), .int .i64 (s.h.f : Int), .int .i64 (s.h.t : Int), .bool s.h.al] = scV (zaA s u) := by unfold zaA; rw [hfit]; rfl
          refine za4 (k := 0) rfl (show cells b [.int .i64 s.st, .int .i64 s.tk.k, .int .i64 (s.tk.f : Int), .int .i64 (s.tk.t : Int), .int .i64 s.h.k, .int .i32 (s.h.r : Int), .int .i64 (s.h.f : Int), .int .i64 (s.h.t : Int), .bool s.h.al] 152 = cells b (scV (zaA s u)) 152 from (congrArg (fun z => cells b z 152) hB)) ?_
          show TX _ _ _ _ _ _ _ [cells b (scV (zaA s u)) 152, cells b1 [.int .i64 u.k, .int .i32 (u.r : Int), .int .i64 (u.f : Int), .int .i64 (u.t : Int), .bool u.al] 150]
          exact zaM (rs := [.tmp 4]) () (.inl rfl) Tryd.results88 (.cons (.tmp rfl) .nil) (by rw [hfit]; rfl) (zak [0] (by as_aux_lemma => kernel_rfl) rfl)
        ·
         -- no
         have h54 := beq_eq_false_iff_ne.1 h54
         refine zae rfl (by decide) (zae rfl (by decide) (zae rfl (by decide) (zas (b := false) rfl (by decide) rfl rfl (zan (zaf (za0 rfl (zaI (zaw (zaf (zap (zad (zai rfl (by decide) rfl (zan ?_)))))))))))))
         refine zaf (zaE ?_)
         have hfit : zbM s.st u = (s.st, 0) := by unfold zbM; simp_all <;> omega
         have hB : [.int .i64 s.st, .int .i64 s.tk.k, .int .i64 (s.tk.f : Int), .int .i64 (s.tk.t : Int), .int .i64 s.h.k, .int .i32 (s.h.r : Int), .int .i64 (s.h.f : Int), .int .i64 (s.h.t : Int), .bool s.h.al] = scV (zaA s u) := by unfold zaA; rw [hfit]; rfl
         refine za4 (k := 0) rfl (show cells b [.int .i64 s.st, .int .i64 s.tk.k, .int .i64 (s.tk.f : Int), .int .i64 (s.tk.t : Int), .int .i64 s.h.k, .int .i32 (s.h.r : Int), .int .i64 (s.h.f : Int), .int .i64 (s.h.t : Int), .bool s.h.al] 152 = cells b (scV (zaA s u)) 152 from (congrArg (fun z => cells b z 152) hB)) ?_
         show TX _ _ _ _ _ _ _ [cells b (scV (zaA s u)) 152, cells b1 [.int .i64 u.k, .int .i32 (u.r : Int), .int .i64 (u.f : Int), .int .i64 (u.t : Int), .bool u.al] 150]
         exact zaM (rs := [.tmp 4]) () (.inl rfl) Tryd.results88 (.cons (.tmp rfl) .nil) (by rw [hfit]; rfl) (zak [0] (by as_aux_lemma => kernel_rfl) rfl)
       ·
        -- no
        have h53 := beq_eq_false_iff_ne.1 h53
        refine zaI (zaw (zaf (zap (zad (zai rfl (by decide) rfl (zan (zaf (zaE ?_))))))))
        have hfit : zbM s.st u = (s.st, 0) := by unfold zbM; simp_all <;> omega
        have hB : [.int .i64 s.st, .int .i64 s.tk.k, .int .i64 (s.tk.f : Int), .int .i64 (s.tk.t : Int), .int .i64 s.h.k, .int .i32 (s.h.r : Int), .int .i64 (s.h.f : Int), .int .i64 (s.h.t : Int), .bool s.h.al] = scV (zaA s u) := by unfold zaA; rw [hfit]; rfl
        refine za4 (k := 0) rfl (show cells b [.int .i64 s.st, .int .i64 s.tk.k, .int .i64 (s.tk.f : Int), .int .i64 (s.tk.t : Int), .int .i64 s.h.k, .int .i32 (s.h.r : Int), .int .i64 (s.h.f : Int), .int .i64 (s.h.t : Int), .bool s.h.al] 152 = cells b (scV (zaA s u)) 152 from (congrArg (fun z => cells b z 152) hB)) ?_
        show TX _ _ _ _ _ _ _ [cells b (scV (zaA s u)) 152, cells b1 [.int .i64 u.k, .int .i32 (u.r : Int), .int .i64 (u.f : Int), .int .i64 (u.t : Int), .bool u.al] 150]
        exact zaM (rs := [.tmp 4]) () (.inl rfl) Tryd.results88 (.cons (.tmp rfl) .nil) (by rw [hfit]; rfl) (zak [0] (by as_aux_lemma => kernel_rfl) rfl)

theorem zmx (b : Nat) (s : Sc) (u : Un) : Fn Tryd.prog 90 [.pointer (some ⟨b, 0, none⟩), .agg #[.int .i64 u.k, .int .i32 u.r, .int .i64 u.f, .int .i64 u.t, .bool u.al]] [cells b (scV s) 152] (fun _ : Unit => .tuple #[]) (fun _ => [cells b (scV (began s u)) 152]) := by
 refine Fn.intro Tryd.func90 rfl Tryd.ntmps90 (by simp) ?_
 intro w0 K
 show TC _ _ _ _ _ _ _ _ _ [cells b [.int .i64 s.st, .int .i64 s.tk.k, .int .i64 (s.tk.f : Int), .int .i64 (s.tk.t : Int), .int .i64 s.h.k, .int .i32 (s.h.r : Int), .int .i64 (s.h.f : Int), .int .i64 (s.h.t : Int), .bool s.h.al] 152]
 refine zap (zad ?_)
 refine zdF rfl (by decide) rfl (fun b1 => ?_)
 refine zan (zaf (zap (zad (zag rfl (by decide) rfl (zam zcZ rfl (by decide) rfl (show _ = 2 from rfl) (zbb (k := 1) (cs := [.int .i64 (u.f : Int), .int .i64 (u.t : Int)]) zh2 rfl (by decide) rfl rfl rfl rfl ?_))))))
 refine zba (v := .agg #[.int .i64 6, .int .i64 (u.f : Int), .int .i64 (u.t : Int)]) (ps := [(0, .const (.int .i64 6)), (1, .tmp 6)]) rfl (by decide) rfl (fun _ => by kernel_rfl) ?_
 refine zaC rfl (by decide) rfl (zam zdg rfl (by decide) rfl (show _ = 1 from rfl) (za8 (k := 0) (vs := [.int .i64 6, .int .i64 (u.f : Int), .int .i64 (u.t : Int)]) (l' := [.int .i64 s.st, .int .i64 6, .int .i64 (u.f : Int), .int .i64 (u.t : Int), .int .i64 s.h.k, .int .i32 (s.h.r : Int), .int .i64 (s.h.f : Int), .int .i64 (s.h.t : Int), .bool s.h.al]) zmM rfl rfl rfl rfl rfl (show _ ≤ _ by simp) rfl rfl (zan (zaf (zap (zad (zag rfl (by decide) rfl (zaC rfl (by decide) rfl (zam zbn rfl (by decide) rfl (show _ = 0 from rfl) ?_)))))))))
 refine zaN (k := 0) (l' := [.int .i64 9, .int .i64 6, .int .i64 (u.f : Int), .int .i64 (u.t : Int), .int .i64 s.h.k, .int .i32 (s.h.r : Int), .int .i64 (s.h.f : Int), .int .i64 (s.h.t : Int), .bool s.h.al]) zdW rfl rfl rfl rfl rfl (fun _ _ => rfl) rfl ?_
 show TO _ _ _ _ _ _ _ _ _ _ [cells b [.int .i64 9, .int .i64 6, .int .i64 (u.f : Int), .int .i64 (u.t : Int), .int .i64 s.h.k, .int .i32 (s.h.r : Int), .int .i64 (s.h.f : Int), .int .i64 (s.h.t : Int), .bool s.h.al] 152, cells b1 [.int .i64 u.k, .int .i32 (u.r : Int), .int .i64 (u.f : Int), .int .i64 (u.t : Int), .bool u.al] 150]
 refine zan (zaf (zap (zad (zam zhn rfl (by decide) rfl (show _ = 0 from rfl) (zaP (k := 1) zkf rfl (by decide) rfl rfl rfl (zan (zaf (zaT (zap (zad (zaz rfl (by decide) rfl rfl zaW (zai rfl (by decide) rfl (zan ?_)))))))))))))
 refine zaf ?_
 refine zaF rfl (fun h1 => ?_) (fun h1 => ?_)
 ·
  -- yes
  have h1 := beq_iff_eq.1 h1
  refine zad (zag rfl (by decide) rfl (zag rfl (by decide) rfl (zaC rfl (by decide) rfl (zam zdg rfl (by decide) rfl (show _ = 1 from rfl) (zam zd7 rfl (by decide) rfl (show _ = 1 from rfl) ?_)))))
  refine zaN (k := 0) (l' := [.int .i64 9, .int .i64 1, .int .i64 (u.f : Int), .int .i64 (u.t : Int), .int .i64 s.h.k, .int .i32 (s.h.r : Int), .int .i64 (s.h.f : Int), .int .i64 (s.h.t : Int), .bool s.h.al]) zdW rfl rfl rfl rfl rfl (fun _ _ => rfl) rfl ?_
  refine zaC rfl (by decide) rfl (zam zbn rfl (by decide) rfl (show _ = 0 from rfl) ?_)
  refine zaN (k := 0) (l' := [.int .i64 1, .int .i64 1, .int .i64 (u.f : Int), .int .i64 (u.t : Int), .int .i64 s.h.k, .int .i32 (s.h.r : Int), .int .i64 (s.h.f : Int), .int .i64 (s.h.t : Int), .bool s.h.al]) zdW rfl rfl rfl rfl rfl (fun _ _ => rfl) rfl ?_
  show TO _ _ _ _ _ _ _ _ _ _ [cells b [.int .i64 1, .int .i64 1, .int .i64 (u.f : Int), .int .i64 (u.t : Int), .int .i64 s.h.k, .int .i32 (s.h.r : Int), .int .i64 (s.h.f : Int), .int .i64 (s.h.t : Int), .bool s.h.al] 152, cells b1 [.int .i64 u.k, .int .i32 (u.r : Int), .int .i64 (u.f : Int), .int .i64 (u.t : Int), .bool u.al] 150]
  refine zan (zaw ?_)
  have hB : [.int .i64 1, .int .i64 1, .int .i64 (u.f : Int), .int .i64 (u.t : Int), .int .i64 s.h.k, .int .i32 (s.h.r : Int), .int .i64 (s.h.f : Int), .int .i64 (s.h.t : Int), .bool s.h.al] = scV (began s u) := by simp_all [began, begins, scV] <;> omega
  refine za4 (k := 0) rfl (show cells b [.int .i64 1, .int .i64 1, .int .i64 (u.f : Int), .int .i64 (u.t : Int), .int .i64 s.h.k, .int .i32 (s.h.r : Int), .int .i64 (s.h.f : Int), .int .i64 (s.h.t : Int), .bool s.h.al] 152 = cells b (scV (began s u)) 152 from (congrArg (fun z => cells b z 152) hB)) ?_
  show TX _ _ _ _ _ _ _ [cells b (scV (began s u)) 152, cells b1 [.int .i64 u.k, .int .i32 (u.r : Int), .int .i64 (u.f : Int), .int .i64 (u.t : Int), .bool u.al] 150]
  exact zaM (rs := []) () (.inr rfl) Tryd.results90 .nil rfl (zak [0] (by as_aux_lemma => kernel_rfl) rfl)
 ·
  -- no
  have h1 := beq_eq_false_iff_ne.1 h1
  refine zap (zad (zaz rfl (by decide) rfl rfl zaW (zai rfl (by decide) rfl (zan (zaf ?_)))))
  refine zaF rfl (fun h2 => ?_) (fun h2 => ?_)
  ·
   -- yes
   have h2 := beq_iff_eq.1 h2
   refine zad (zag rfl (by decide) rfl (zag rfl (by decide) rfl (zaC rfl (by decide) rfl (zam zdg rfl (by decide) rfl (show _ = 1 from rfl) (zam zd7 rfl (by decide) rfl (show _ = 1 from rfl) ?_)))))
   refine zaN (k := 0) (l' := [.int .i64 9, .int .i64 2, .int .i64 (u.f : Int), .int .i64 (u.t : Int), .int .i64 s.h.k, .int .i32 (s.h.r : Int), .int .i64 (s.h.f : Int), .int .i64 (s.h.t : Int), .bool s.h.al]) zdW rfl rfl rfl rfl rfl (fun _ _ => rfl) rfl ?_
   refine zaC rfl (by decide) rfl (zam zbn rfl (by decide) rfl (show _ = 0 from rfl) ?_)
   refine zaN (k := 0) (l' := [.int .i64 3, .int .i64 2, .int .i64 (u.f : Int), .int .i64 (u.t : Int), .int .i64 s.h.k, .int .i32 (s.h.r : Int), .int .i64 (s.h.f : Int), .int .i64 (s.h.t : Int), .bool s.h.al]) zdW rfl rfl rfl rfl rfl (fun _ _ => rfl) rfl ?_
   show TO _ _ _ _ _ _ _ _ _ _ [cells b [.int .i64 3, .int .i64 2, .int .i64 (u.f : Int), .int .i64 (u.t : Int), .int .i64 s.h.k, .int .i32 (s.h.r : Int), .int .i64 (s.h.f : Int), .int .i64 (s.h.t : Int), .bool s.h.al] 152, cells b1 [.int .i64 u.k, .int .i32 (u.r : Int), .int .i64 (u.f : Int), .int .i64 (u.t : Int), .bool u.al] 150]
   refine zan (zaw ?_)
   have hB : [.int .i64 3, .int .i64 2, .int .i64 (u.f : Int), .int .i64 (u.t : Int), .int .i64 s.h.k, .int .i32 (s.h.r : Int), .int .i64 (s.h.f : Int), .int .i64 (s.h.t : Int), .bool s.h.al] = scV (began s u) := by simp_all [began, begins, scV] <;> omega
   refine za4 (k := 0) rfl (show cells b [.int .i64 3, .int .i64 2, .int .i64 (u.f : Int), .int .i64 (u.t : Int), .int .i64 s.h.k, .int .i32 (s.h.r : Int), .int .i64 (s.h.f : Int), .int .i64 (s.h.t : Int), .bool s.h.al] 152 = cells b (scV (began s u)) 152 from (congrArg (fun z => cells b z 152) hB)) ?_
   show TX _ _ _ _ _ _ _ [cells b (scV (began s u)) 152, cells b1 [.int .i64 u.k, .int .i32 (u.r : Int), .int .i64 (u.f : Int), .int .i64 (u.t : Int), .bool u.al] 150]
   exact zaM (rs := []) () (.inr rfl) Tryd.results90 .nil rfl (zak [0] (by as_aux_lemma => kernel_rfl) rfl)
  ·
   -- no
   have h2 := beq_eq_false_iff_ne.1 h2
   refine zap (zad (zaz rfl (by decide) rfl rfl zaW (zai rfl (by decide) rfl (zan (zaf ?_)))))
   refine zaF rfl (fun h3 => ?_) (fun h3 => ?_)
   ·
    -- yes
    have h3 := beq_iff_eq.1 h3
    refine zad (zag rfl (by decide) rfl (zag rfl (by decide) rfl (zaC rfl (by decide) rfl (zam zdg rfl (by decide) rfl (show _ = 1 from rfl) (zam zd7 rfl (by decide) rfl (show _ = 1 from rfl) ?_)))))
    refine zaN (k := 0) (l' := [.int .i64 9, .int .i64 3, .int .i64 (u.f : Int), .int .i64 (u.t : Int), .int .i64 s.h.k, .int .i32 (s.h.r : Int), .int .i64 (s.h.f : Int), .int .i64 (s.h.t : Int), .bool s.h.al]) zdW rfl rfl rfl rfl rfl (fun _ _ => rfl) rfl ?_
    refine zaC rfl (by decide) rfl (zam zbn rfl (by decide) rfl (show _ = 0 from rfl) ?_)
    refine zaN (k := 0) (l' := [.int .i64 5, .int .i64 3, .int .i64 (u.f : Int), .int .i64 (u.t : Int), .int .i64 s.h.k, .int .i32 (s.h.r : Int), .int .i64 (s.h.f : Int), .int .i64 (s.h.t : Int), .bool s.h.al]) zdW rfl rfl rfl rfl rfl (fun _ _ => rfl) rfl ?_
    show TO _ _ _ _ _ _ _ _ _ _ [cells b [.int .i64 5, .int .i64 3, .int .i64 (u.f : Int), .int .i64 (u.t : Int), .int .i64 s.h.k, .int .i32 (s.h.r : Int), .int .i64 (s.h.f : Int), .int .i64 (s.h.t : Int), .bool s.h.al] 152, cells b1 [.int .i64 u.k, .int .i32 (u.r : Int), .int .i64 (u.f : Int), .int .i64 (u.t : Int), .bool u.al] 150]
    refine zan (zaw ?_)
    have hB : [.int .i64 5, .int .i64 3, .int .i64 (u.f : Int), .int .i64 (u.t : Int), .int .i64 s.h.k, .int .i32 (s.h.r : Int), .int .i64 (s.h.f : Int), .int .i64 (s.h.t : Int), .bool s.h.al] = scV (began s u) := by simp_all [began, begins, scV] <;> omega
    refine za4 (k := 0) rfl (show cells b [.int .i64 5, .int .i64 3, .int .i64 (u.f : Int), .int .i64 (u.t : Int), .int .i64 s.h.k, .int .i32 (s.h.r : Int), .int .i64 (s.h.f : Int), .int .i64 (s.h.t : Int), .bool s.h.al] 152 = cells b (scV (began s u)) 152 from (congrArg (fun z => cells b z 152) hB)) ?_
    show TX _ _ _ _ _ _ _ [cells b (scV (began s u)) 152, cells b1 [.int .i64 u.k, .int .i32 (u.r : Int), .int .i64 (u.f : Int), .int .i64 (u.t : Int), .bool u.al] 150]
    exact zaM (rs := []) () (.inr rfl) Tryd.results90 .nil rfl (zak [0] (by as_aux_lemma => kernel_rfl) rfl)
   ·
    -- no
    have h3 := beq_eq_false_iff_ne.1 h3
    refine zap (zad (zaz rfl (by decide) rfl rfl zaW (zai rfl (by decide) rfl (zan (zaf ?_)))))
    refine zaF rfl (fun h4 => ?_) (fun h4 => ?_)
    ·
     -- yes
     have h4 := beq_iff_eq.1 h4
     refine zad (zag rfl (by decide) rfl (zag rfl (by decide) rfl (zaC rfl (by decide) rfl (zam zdg rfl (by decide) rfl (show _ = 1 from rfl) (zam zd7 rfl (by decide) rfl (show _ = 1 from rfl) ?_)))))
     refine zaN (k := 0) (l' := [.int .i64 9, .int .i64 7, .int .i64 (u.f : Int), .int .i64 (u.t : Int), .int .i64 s.h.k, .int .i32 (s.h.r : Int), .int .i64 (s.h.f : Int), .int .i64 (s.h.t : Int), .bool s.h.al]) zdW rfl rfl rfl rfl rfl (fun _ _ => rfl) rfl ?_
     refine zaC rfl (by decide) rfl (zam zbn rfl (by decide) rfl (show _ = 0 from rfl) ?_)
     refine zaN (k := 0) (l' := [.int .i64 6, .int .i64 7, .int .i64 (u.f : Int), .int .i64 (u.t : Int), .int .i64 s.h.k, .int .i32 (s.h.r : Int), .int .i64 (s.h.f : Int), .int .i64 (s.h.t : Int), .bool s.h.al]) zdW rfl rfl rfl rfl rfl (fun _ _ => rfl) rfl ?_
     show TO _ _ _ _ _ _ _ _ _ _ [cells b [.int .i64 6, .int .i64 7, .int .i64 (u.f : Int), .int .i64 (u.t : Int), .int .i64 s.h.k, .int .i32 (s.h.r : Int), .int .i64 (s.h.f : Int), .int .i64 (s.h.t : Int), .bool s.h.al] 152, cells b1 [.int .i64 u.k, .int .i32 (u.r : Int), .int .i64 (u.f : Int), .int .i64 (u.t : Int), .bool u.al] 150]
     refine zan (zaw ?_)
     have hB : [.int .i64 6, .int .i64 7, .int .i64 (u.f : Int), .int .i64 (u.t : Int), .int .i64 s.h.k, .int .i32 (s.h.r : Int), .int .i64 (s.h.f : Int), .int .i64 (s.h.t : Int), .bool s.h.al] = scV (began s u) := by simp_all [began, begins, scV] <;> omega
     refine za4 (k := 0) rfl (show cells b [.int .i64 6, .int .i64 7, .int .i64 (u.f : Int), .int .i64 (u.t : Int), .int .i64 s.h.k, .int .i32 (s.h.r : Int), .int .i64 (s.h.f : Int), .int .i64 (s.h.t : Int), .bool s.h.al] 152 = cells b (scV (began s u)) 152 from (congrArg (fun z => cells b z 152) hB)) ?_
     show TX _ _ _ _ _ _ _ [cells b (scV (began s u)) 152, cells b1 [.int .i64 u.k, .int .i32 (u.r : Int), .int .i64 (u.f : Int), .int .i64 (u.t : Int), .bool u.al] 150]
     exact zaM (rs := []) () (.inr rfl) Tryd.results90 .nil rfl (zak [0] (by as_aux_lemma => kernel_rfl) rfl)
    ·
     -- no
     have h4 := beq_eq_false_iff_ne.1 h4
     refine zap (zad (zaz rfl (by decide) rfl rfl zaW (zai rfl (by decide) rfl (zan (zaf ?_)))))
     refine zaF rfl (fun h5 => ?_) (fun h5 => ?_)
     ·
      -- yes
      have h5 := beq_iff_eq.1 h5
      refine zap (zad (zag rfl (by decide) rfl (zag rfl (by decide) rfl (zaC rfl (by decide) rfl (zam zdg rfl (by decide) rfl (show _ = 1 from rfl) (zam zd7 rfl (by decide) rfl (show _ = 1 from rfl) ?_))))))
      refine zaN (k := 0) (l' := [.int .i64 9, .int .i64 4, .int .i64 (u.f : Int), .int .i64 (u.t : Int), .int .i64 s.h.k, .int .i32 (s.h.r : Int), .int .i64 (s.h.f : Int), .int .i64 (s.h.t : Int), .bool s.h.al]) zdW rfl rfl rfl rfl rfl (fun _ _ => rfl) rfl ?_
      refine zaC rfl (by decide) rfl (zam zbn rfl (by decide) rfl (show _ = 0 from rfl) ?_)
      refine zaN (k := 0) (l' := [.int .i64 7, .int .i64 4, .int .i64 (u.f : Int), .int .i64 (u.t : Int), .int .i64 s.h.k, .int .i32 (s.h.r : Int), .int .i64 (s.h.f : Int), .int .i64 (s.h.t : Int), .bool s.h.al]) zdW rfl rfl rfl rfl rfl (fun _ _ => rfl) rfl ?_
      show TO _ _ _ _ _ _ _ _ _ _ [cells b [.int .i64 7, .int .i64 4, .int .i64 (u.f : Int), .int .i64 (u.t : Int), .int .i64 s.h.k, .int .i32 (s.h.r : Int), .int .i64 (s.h.f : Int), .int .i64 (s.h.t : Int), .bool s.h.al] 152, cells b1 [.int .i64 u.k, .int .i32 (u.r : Int), .int .i64 (u.f : Int), .int .i64 (u.t : Int), .bool u.al] 150]
      refine zan (zaf (zap (zad (zam zeM rfl (by decide) rfl (show _ = 1 from rfl) (zaP (k := 1) zg8 rfl (by decide) rfl rfl rfl (zaz rfl (by decide) rfl rfl zaW (zan (zaf ?_))))))))
      refine zaF rfl (fun h6 => ?_) (fun h6 => ?_)
      ·
       -- yes
       have h6 := beq_iff_eq.1 h6
       refine zad (zag rfl (by decide) rfl (zaC rfl (by decide) rfl (zam zbn rfl (by decide) rfl (show _ = 0 from rfl) ?_)))
       refine zaN (k := 0) (l' := [.int .i64 8, .int .i64 4, .int .i64 (u.f : Int), .int .i64 (u.t : Int), .int .i64 s.h.k, .int .i32 (s.h.r : Int), .int .i64 (s.h.f : Int), .int .i64 (s.h.t : Int), .bool s.h.al]) zdW rfl rfl rfl rfl rfl (fun _ _ => rfl) rfl ?_
       refine zan (zaw ?_)
       have hB : [.int .i64 8, .int .i64 4, .int .i64 (u.f : Int), .int .i64 (u.t : Int), .int .i64 s.h.k, .int .i32 (s.h.r : Int), .int .i64 (s.h.f : Int), .int .i64 (s.h.t : Int), .bool s.h.al] = scV (began s u) := by simp_all [began, begins, scV] <;> omega
       refine za4 (k := 0) rfl (show cells b [.int .i64 8, .int .i64 4, .int .i64 (u.f : Int), .int .i64 (u.t : Int), .int .i64 s.h.k, .int .i32 (s.h.r : Int), .int .i64 (s.h.f : Int), .int .i64 (s.h.t : Int), .bool s.h.al] 152 = cells b (scV (began s u)) 152 from (congrArg (fun z => cells b z 152) hB)) ?_
       show TX _ _ _ _ _ _ _ [cells b (scV (began s u)) 152, cells b1 [.int .i64 u.k, .int .i32 (u.r : Int), .int .i64 (u.f : Int), .int .i64 (u.t : Int), .bool u.al] 150]
       exact zaM (rs := []) () (.inr rfl) Tryd.results90 .nil rfl (zak [0] (by as_aux_lemma => kernel_rfl) rfl)
      ·
       -- no
       have h6 := beq_eq_false_iff_ne.1 h6
       refine zaI (zaw ?_)
       have hB : [.int .i64 7, .int .i64 4, .int .i64 (u.f : Int), .int .i64 (u.t : Int), .int .i64 s.h.k, .int .i32 (s.h.r : Int), .int .i64 (s.h.f : Int), .int .i64 (s.h.t : Int), .bool s.h.al] = scV (began s u) := by simp_all [began, begins, scV] <;> omega
       refine za4 (k := 0) rfl (show cells b [.int .i64 7, .int .i64 4, .int .i64 (u.f : Int), .int .i64 (u.t : Int), .int .i64 s.h.k, .int .i32 (s.h.r : Int), .int .i64 (s.h.f : Int), .int .i64 (s.h.t : Int), .bool s.h.al] 152 = cells b (scV (began s u)) 152 from (congrArg (fun z => cells b z 152) hB)) ?_
       show TX _ _ _ _ _ _ _ [cells b (scV (began s u)) 152, cells b1 [.int .i64 u.k, .int .i32 (u.r : Int), .int .i64 (u.f : Int), .int .i64 (u.t : Int), .bool u.al] 150]
       exact zaM (rs := []) () (.inr rfl) Tryd.results90 .nil rfl (zak [0] (by as_aux_lemma => kernel_rfl) rfl)
     ·
      -- no
      have h5 := beq_eq_false_iff_ne.1 h5
      refine zap (zap (zad (zaz rfl (by decide) rfl rfl zaW (zai rfl (by decide) rfl (zan (zaf ?_))))))
      refine zaF rfl (fun h7 => ?_) (fun h7 => ?_)
      ·
       -- yes
       have h7 := beq_iff_eq.1 h7
       refine zaI (zaf ?_)
       refine zaF rfl (fun h8 => ?_) (fun h8 => ?_)
       ·
        -- yes
        have h8 := beq_iff_eq.1 h8
        refine zad (zag rfl (by decide) rfl (zaC rfl (by decide) rfl (zam zdg rfl (by decide) rfl (show _ = 1 from rfl) (zam zd7 rfl (by decide) rfl (show _ = 1 from rfl) ?_))))
        refine zaN (k := 0) (l' := [.int .i64 9, .int .i64 5, .int .i64 (u.f : Int), .int .i64 (u.t : Int), .int .i64 s.h.k, .int .i32 (s.h.r : Int), .int .i64 (s.h.f : Int), .int .i64 (s.h.t : Int), .bool s.h.al]) zdW rfl rfl rfl rfl rfl (fun _ _ => rfl) rfl ?_
        refine zan (zaw ?_)
        have hB : [.int .i64 9, .int .i64 5, .int .i64 (u.f : Int), .int .i64 (u.t : Int), .int .i64 s.h.k, .int .i32 (s.h.r : Int), .int .i64 (s.h.f : Int), .int .i64 (s.h.t : Int), .bool s.h.al] = scV (began s u) := by simp_all [began, begins, scV] <;> omega
        refine za4 (k := 0) rfl (show cells b [.int .i64 9, .int .i64 5, .int .i64 (u.f : Int), .int .i64 (u.t : Int), .int .i64 s.h.k, .int .i32 (s.h.r : Int), .int .i64 (s.h.f : Int), .int .i64 (s.h.t : Int), .bool s.h.al] 152 = cells b (scV (began s u)) 152 from (congrArg (fun z => cells b z 152) hB)) ?_
        show TX _ _ _ _ _ _ _ [cells b (scV (began s u)) 152, cells b1 [.int .i64 u.k, .int .i32 (u.r : Int), .int .i64 (u.f : Int), .int .i64 (u.t : Int), .bool u.al] 150]
        exact zaM (rs := []) () (.inr rfl) Tryd.results90 .nil rfl (zak [0] (by as_aux_lemma => kernel_rfl) rfl)
       ·
        -- no
        have h8 := beq_eq_false_iff_ne.1 h8
        refine zaI (zaw ?_)
        have hB : [.int .i64 9, .int .i64 6, .int .i64 (u.f : Int), .int .i64 (u.t : Int), .int .i64 s.h.k, .int .i32 (s.h.r : Int), .int .i64 (s.h.f : Int), .int .i64 (s.h.t : Int), .bool s.h.al] = scV (began s u) := by simp_all [began, begins, scV] <;> omega
        refine za4 (k := 0) rfl (show cells b [.int .i64 9, .int .i64 6, .int .i64 (u.f : Int), .int .i64 (u.t : Int), .int .i64 s.h.k, .int .i32 (s.h.r : Int), .int .i64 (s.h.f : Int), .int .i64 (s.h.t : Int), .bool s.h.al] 152 = cells b (scV (began s u)) 152 from (congrArg (fun z => cells b z 152) hB)) ?_
        show TX _ _ _ _ _ _ _ [cells b (scV (began s u)) 152, cells b1 [.int .i64 u.k, .int .i32 (u.r : Int), .int .i64 (u.f : Int), .int .i64 (u.t : Int), .bool u.al] 150]
        exact zaM (rs := []) () (.inr rfl) Tryd.results90 .nil rfl (zak [0] (by as_aux_lemma => kernel_rfl) rfl)
      ·
       -- no
       have h7 := beq_eq_false_iff_ne.1 h7
       refine zap (zad (zaz rfl (by decide) rfl rfl zaW (zai rfl (by decide) rfl (zan (zaf ?_)))))
       refine zaF rfl (fun h9 => ?_) (fun h9 => ?_)
       ·
        -- yes
        have h9 := beq_iff_eq.1 h9
        refine zaI (zaf ?_)
        refine zaF rfl (fun h10 => ?_) (fun h10 => ?_)
        ·
         -- yes
         have h10 := beq_iff_eq.1 h10
         refine zad (zag rfl (by decide) rfl (zaC rfl (by decide) rfl (zam zdg rfl (by decide) rfl (show _ = 1 from rfl) (zam zd7 rfl (by decide) rfl (show _ = 1 from rfl) ?_))))
         refine zaN (k := 0) (l' := [.int .i64 9, .int .i64 5, .int .i64 (u.f : Int), .int .i64 (u.t : Int), .int .i64 s.h.k, .int .i32 (s.h.r : Int), .int .i64 (s.h.f : Int), .int .i64 (s.h.t : Int), .bool s.h.al]) zdW rfl rfl rfl rfl rfl (fun _ _ => rfl) rfl ?_
         refine zan (zaw ?_)
         have hB : [.int .i64 9, .int .i64 5, .int .i64 (u.f : Int), .int .i64 (u.t : Int), .int .i64 s.h.k, .int .i32 (s.h.r : Int), .int .i64 (s.h.f : Int), .int .i64 (s.h.t : Int), .bool s.h.al] = scV (began s u) := by simp_all [began, begins, scV] <;> omega
         refine za4 (k := 0) rfl (show cells b [.int .i64 9, .int .i64 5, .int .i64 (u.f : Int), .int .i64 (u.t : Int), .int .i64 s.h.k, .int .i32 (s.h.r : Int), .int .i64 (s.h.f : Int), .int .i64 (s.h.t : Int), .bool s.h.al] 152 = cells b (scV (began s u)) 152 from (congrArg (fun z => cells b z 152) hB)) ?_
         show TX _ _ _ _ _ _ _ [cells b (scV (began s u)) 152, cells b1 [.int .i64 u.k, .int .i32 (u.r : Int), .int .i64 (u.f : Int), .int .i64 (u.t : Int), .bool u.al] 150]
         exact zaM (rs := []) () (.inr rfl) Tryd.results90 .nil rfl (zak [0] (by as_aux_lemma => kernel_rfl) rfl)
        ·
         -- no
         have h10 := beq_eq_false_iff_ne.1 h10
         refine zaI (zaw ?_)
         have hB : [.int .i64 9, .int .i64 6, .int .i64 (u.f : Int), .int .i64 (u.t : Int), .int .i64 s.h.k, .int .i32 (s.h.r : Int), .int .i64 (s.h.f : Int), .int .i64 (s.h.t : Int), .bool s.h.al] = scV (began s u) := by simp_all [began, begins, scV] <;> omega
         refine za4 (k := 0) rfl (show cells b [.int .i64 9, .int .i64 6, .int .i64 (u.f : Int), .int .i64 (u.t : Int), .int .i64 s.h.k, .int .i32 (s.h.r : Int), .int .i64 (s.h.f : Int), .int .i64 (s.h.t : Int), .bool s.h.al] 152 = cells b (scV (began s u)) 152 from (congrArg (fun z => cells b z 152) hB)) ?_
         show TX _ _ _ _ _ _ _ [cells b (scV (began s u)) 152, cells b1 [.int .i64 u.k, .int .i32 (u.r : Int), .int .i64 (u.f : Int), .int .i64 (u.t : Int), .bool u.al] 150]
         exact zaM (rs := []) () (.inr rfl) Tryd.results90 .nil rfl (zak [0] (by as_aux_lemma => kernel_rfl) rfl)
       ·
        -- no
        have h9 := beq_eq_false_iff_ne.1 h9
        refine zad (zaz rfl (by decide) rfl rfl zaW (zai rfl (by decide) rfl (zan (zaf ?_))))
        refine zaF rfl (fun h11 => ?_) (fun h11 => ?_)
        ·
         -- yes
         have h11 := beq_iff_eq.1 h11
         refine zad (zag rfl (by decide) rfl (zaC rfl (by decide) rfl (zam zdg rfl (by decide) rfl (show _ = 1 from rfl) (zam zd7 rfl (by decide) rfl (show _ = 1 from rfl) ?_))))
         refine zaN (k := 0) (l' := [.int .i64 9, .int .i64 5, .int .i64 (u.f : Int), .int .i64 (u.t : Int), .int .i64 s.h.k, .int .i32 (s.h.r : Int), .int .i64 (s.h.f : Int), .int .i64 (s.h.t : Int), .bool s.h.al]) zdW rfl rfl rfl rfl rfl (fun _ _ => rfl) rfl ?_
         refine zan (zaw ?_)
         have hB : [.int .i64 9, .int .i64 5, .int .i64 (u.f : Int), .int .i64 (u.t : Int), .int .i64 s.h.k, .int .i32 (s.h.r : Int), .int .i64 (s.h.f : Int), .int .i64 (s.h.t : Int), .bool s.h.al] = scV (began s u) := by simp_all [began, begins, scV] <;> omega
         refine za4 (k := 0) rfl (show cells b [.int .i64 9, .int .i64 5, .int .i64 (u.f : Int), .int .i64 (u.t : Int), .int .i64 s.h.k, .int .i32 (s.h.r : Int), .int .i64 (s.h.f : Int), .int .i64 (s.h.t : Int), .bool s.h.al] 152 = cells b (scV (began s u)) 152 from (congrArg (fun z => cells b z 152) hB)) ?_
         show TX _ _ _ _ _ _ _ [cells b (scV (began s u)) 152, cells b1 [.int .i64 u.k, .int .i32 (u.r : Int), .int .i64 (u.f : Int), .int .i64 (u.t : Int), .bool u.al] 150]
         exact zaM (rs := []) () (.inr rfl) Tryd.results90 .nil rfl (zak [0] (by as_aux_lemma => kernel_rfl) rfl)
        ·
         -- no
         have h11 := beq_eq_false_iff_ne.1 h11
         refine zaI (zaw ?_)
         have hB : [.int .i64 9, .int .i64 6, .int .i64 (u.f : Int), .int .i64 (u.t : Int), .int .i64 s.h.k, .int .i32 (s.h.r : Int), .int .i64 (s.h.f : Int), .int .i64 (s.h.t : Int), .bool s.h.al] = scV (began s u) := by simp_all [began, begins, scV] <;> omega
         refine za4 (k := 0) rfl (show cells b [.int .i64 9, .int .i64 6, .int .i64 (u.f : Int), .int .i64 (u.t : Int), .int .i64 s.h.k, .int .i32 (s.h.r : Int), .int .i64 (s.h.f : Int), .int .i64 (s.h.t : Int), .bool s.h.al] 152 = cells b (scV (began s u)) 152 from (congrArg (fun z => cells b z 152) hB)) ?_
         show TX _ _ _ _ _ _ _ [cells b (scV (began s u)) 152, cells b1 [.int .i64 u.k, .int .i32 (u.r : Int), .int .i64 (u.f : Int), .int .i64 (u.t : Int), .bool u.al] 150]
         exact zaM (rs := []) () (.inr rfl) Tryd.results90 .nil rfl (zak [0] (by as_aux_lemma => kernel_rfl) rfl)

theorem zoq {l : Nat} {zs : List Tk} {I X : List Tk → Asn} {w : World} {C : Nat → Prop} (hy : YC Tryd.prog l tkA zs I X w C) (b : Nat) (s : Sc) (pre post : List Tk) (hz : zs = pre ++ zcv s ++ post) :
  FnW Tryd.prog 89 [.pointer (some ⟨b, 0, none⟩), .func (.yield l) #[] #[]] [cells b (scV s) 152, I pre] (fun x : Option (List Tk × Tk × List Tk) => .bool x.isNone)
   (fun x => match x with | none => [cells b (scV s) 152, I (pre ++ zcv s)] | some g => [cells b (scV s) 152, X (pre ++ g.1 ++ [g.2.1]), fact (zcv s = g.1 ++ g.2.1 :: g.2.2)]) w C := by
 refine FnW.intro Tryd.func89 rfl Tryd.ntmps89 (by simp) ?_
 show TC _ _ _ _ _ _ _ _ _ [cells b [.int .i64 s.st, .int .i64 s.tk.k, .int .i64 (s.tk.f : Int), .int .i64 (s.tk.t : Int), .int .i64 s.h.k, .int .i32 (s.h.r : Int), .int .i64 (s.h.f : Int), .int .i64 (s.h.t : Int), .bool s.h.al] 152, I pre]
 refine zap (zad (zai rfl (by decide) rfl (zan (zaf (zap (zap (zad (zag rfl (by decide) rfl (zaC rfl (by decide) rfl (zam zbn rfl (by decide) rfl (show _ = 0 from rfl) (zaP (k := 0) zcx rfl (by decide) rfl rfl rfl (zan (zaf ?_)))))))))))))
 refine zaT (zap (zad (zaz rfl (by decide) rfl rfl zaW (zai rfl (by decide) rfl (zan (zaf ?_))))))
 refine zaF rfl (fun h1 => ?_) (fun h1 => ?_)
 ·
  -- yes
  have h1 := beq_iff_eq.1 h1
  refine zap (zad (zai rfl (by decide) rfl (zan (zaf (zaE (zay (zav ?_)))))))
  have hen : zcv s = [] := by unfold zcv; simp_all
  refine za4 (k := 1) rfl (show I pre = I (pre ++ zcv s) from (by simp [hen])) ?_
  show TX _ _ _ _ _ _ _ [cells b [.int .i64 s.st, .int .i64 s.tk.k, .int .i64 (s.tk.f : Int), .int .i64 (s.tk.t : Int), .int .i64 s.h.k, .int .i32 (s.h.r : Int), .int .i64 (s.h.f : Int), .int .i64 (s.h.t : Int), .bool s.h.al] 152, I (pre ++ zcv s)]
  exact zaM (rs := [.tmp 4]) (none : Option (List Tk × Tk × List Tk)) (.inl rfl) Tryd.results89 (.cons (.tmp rfl) .nil) rfl (zak [0, 1] (by as_aux_lemma => kernel_rfl) rfl)
 ·
  -- no
  have h1 := beq_eq_false_iff_ne.1 h1
  refine zap (zap (zad (zaz rfl (by decide) rfl rfl zaW (zai rfl (by decide) rfl (zan (zaf ?_))))))
  refine zaF rfl (fun h2 => ?_) (fun h2 => ?_)
  ·
   -- yes
   have h2 := beq_iff_eq.1 h2
   refine zaI (zaf ?_)
   refine zaF rfl (fun h3 => ?_) (fun h3 => ?_)
   ·
    -- yes
    have h3 := beq_iff_eq.1 h3
    refine zap ?_
    have hen : zcv s = [s.tk, ⟨5, s.h.f, s.h.t⟩] := by unfold zcv; simp_all
    refine zad (zag rfl (by decide) rfl (zag rfl (by decide) rfl (zaC rfl (by decide) rfl (zam zdg rfl (by decide) rfl (show _ = 1 from rfl) (zbb (k := 0) (cs := [.int .i64 s.tk.k, .int .i64 (s.tk.f : Int), .int .i64 (s.tk.t : Int)]) zkg rfl (by decide) rfl rfl rfl rfl ?_)))))
    refine zdw hy rfl (by decide) rfl (pre := pre) (e := s.tk) (post := [⟨5, s.h.f, s.h.t⟩] ++ post) (by rw [hz, hen]; simp) rfl (k := 1) rfl ?_ ?_
    ·
     -- yes
     refine zag rfl (by decide) rfl (zag rfl (by decide) rfl (zag rfl (by decide) rfl (zaC rfl (by decide) rfl (zam zeL rfl (by decide) rfl (show _ = 4 from rfl) (zam zcZ rfl (by decide) rfl (show _ = 6 from rfl) (zbb (k := 0) (cs := [.int .i64 (s.h.f : Int), .int .i64 (s.h.t : Int)]) zh2 rfl (by decide) rfl rfl rfl rfl ?_))))))
     refine zba (v := .agg #[.int .i64 5, .int .i64 (s.h.f : Int), .int .i64 (s.h.t : Int)]) (ps := [(0, .const (.int .i64 5)), (1, .tmp 26)]) rfl (by decide) rfl (fun _ => by kernel_rfl) ?_
     refine zdw hy rfl (by decide) rfl (pre := (pre ++ [s.tk])) (e := (⟨5, s.h.f, s.h.t⟩ : Tk)) (post := post) (by rw [hz, hen]; simp) rfl (k := 1) rfl ?_ ?_
     ·
      -- yes
      refine zas (b := true) rfl (by decide) rfl rfl (zai rfl (by decide) rfl (zan (zaf (zaE (zay (zav (za4 (k := 1) rfl (show I ((pre ++ [s.tk]) ++ [(⟨5, s.h.f, s.h.t⟩ : Tk)]) = I (pre ++ zcv s) from (by simp [hen])) ?_)))))))
      show TX _ _ _ _ _ _ _ [cells b [.int .i64 s.st, .int .i64 s.tk.k, .int .i64 (s.tk.f : Int), .int .i64 (s.tk.t : Int), .int .i64 s.h.k, .int .i32 (s.h.r : Int), .int .i64 (s.h.f : Int), .int .i64 (s.h.t : Int), .bool s.h.al] 152, I (pre ++ zcv s)]
      exact zaM (rs := [.tmp 4]) (none : Option (List Tk × Tk × List Tk)) (.inl rfl) Tryd.results89 (.cons (.tmp rfl) .nil) rfl (zak [0, 1] (by as_aux_lemma => kernel_rfl) rfl)
     ·
      -- no
      refine zas (b := true) rfl (by decide) rfl rfl (zai rfl (by decide) rfl (zan (zaf (zaE (zay (zav (za4 (k := 1) rfl (show X ((pre ++ [s.tk]) ++ [(⟨5, s.h.f, s.h.t⟩ : Tk)]) = X (pre ++ (([s.tk], (⟨5, s.h.f, s.h.t⟩ : Tk), []) : List Tk × Tk × List Tk).1 ++ [(([s.tk], (⟨5, s.h.f, s.h.t⟩ : Tk), []) : List Tk × Tk × List Tk).2.1]) from (by simp)) ?_)))))))
      show TX _ _ _ _ _ _ _ [cells b [.int .i64 s.st, .int .i64 s.tk.k, .int .i64 (s.tk.f : Int), .int .i64 (s.tk.t : Int), .int .i64 s.h.k, .int .i32 (s.h.r : Int), .int .i64 (s.h.f : Int), .int .i64 (s.h.t : Int), .bool s.h.al] 152, X (pre ++ (([s.tk], (⟨5, s.h.f, s.h.t⟩ : Tk), []) : List Tk × Tk × List Tk).1 ++ [(([s.tk], (⟨5, s.h.f, s.h.t⟩ : Tk), []) : List Tk × Tk × List Tk).2.1])]
      exact zgX (rs := [.tmp 4]) (As := [cells b (scV s) 152, X (pre ++ (([s.tk], (⟨5, s.h.f, s.h.t⟩ : Tk), []) : List Tk × Tk × List Tk).1 ++ [(([s.tk], (⟨5, s.h.f, s.h.t⟩ : Tk), []) : List Tk × Tk × List Tk).2.1])]) (p := zcv s = (([s.tk], (⟨5, s.h.f, s.h.t⟩ : Tk), []) : List Tk × Tk × List Tk).1 ++ (([s.tk], (⟨5, s.h.f, s.h.t⟩ : Tk), []) : List Tk × Tk × List Tk).2.1 :: (([s.tk], (⟨5, s.h.f, s.h.t⟩ : Tk), []) : List Tk × Tk × List Tk).2.2) (some (([s.tk], (⟨5, s.h.f, s.h.t⟩ : Tk), []) : List Tk × Tk × List Tk)) (.inl rfl) Tryd.results89 (.cons (.tmp rfl) .nil) rfl (zak [0, 1] (by as_aux_lemma => kernel_rfl) rfl) (by rw [hen]; rfl)
    ·
     -- no
     refine zag rfl (by decide) rfl (zae rfl (by decide) (zae rfl (by decide) (zae rfl (by decide) (zae rfl (by decide) (zae rfl (by decide) (zae rfl (by decide) (zae rfl (by decide) (zae rfl (by decide) (zas (b := false) rfl (by decide) rfl rfl (zai rfl (by decide) rfl (zan (zaf (zaE ?_)))))))))))))
     refine zay (zav (za4 (k := 1) rfl (show X (pre ++ [s.tk]) = X (pre ++ (([], s.tk, [(⟨5, s.h.f, s.h.t⟩ : Tk)]) : List Tk × Tk × List Tk).1 ++ [(([], s.tk, [(⟨5, s.h.f, s.h.t⟩ : Tk)]) : List Tk × Tk × List Tk).2.1]) from (by simp)) ?_))
     show TX _ _ _ _ _ _ _ [cells b [.int .i64 s.st, .int .i64 s.tk.k, .int .i64 (s.tk.f : Int), .int .i64 (s.tk.t : Int), .int .i64 s.h.k, .int .i32 (s.h.r : Int), .int .i64 (s.h.f : Int), .int .i64 (s.h.t : Int), .bool s.h.al] 152, X (pre ++ (([], s.tk, [(⟨5, s.h.f, s.h.t⟩ : Tk)]) : List Tk × Tk × List Tk).1 ++ [(([], s.tk, [(⟨5, s.h.f, s.h.t⟩ : Tk)]) : List Tk × Tk × List Tk).2.1])]
     exact zgX (rs := [.tmp 4]) (As := [cells b (scV s) 152, X (pre ++ (([], s.tk, [(⟨5, s.h.f, s.h.t⟩ : Tk)]) : List Tk × Tk × List Tk).1 ++ [(([], s.tk, [(⟨5, s.h.f, s.h.t⟩ : Tk)]) : List Tk × Tk × List Tk).2.1])]) (p := zcv s = (([], s.tk, [(⟨5, s.h.f, s.h.t⟩ : Tk)]) : List Tk × Tk × List Tk).1 ++ (([], s.tk, [(⟨5, s.h.f, s.h.t⟩ : Tk)]) : List Tk × Tk × List Tk).2.1 :: (([], s.tk, [(⟨5, s.h.f, s.h.t⟩ : Tk)]) : List Tk × Tk × List Tk).2.2) (some (([], s.tk, [(⟨5, s.h.f, s.h.t⟩ : Tk)]) : List Tk × Tk × List Tk)) (.inl rfl) Tryd.results89 (.cons (.tmp rfl) .nil) rfl (zak [0, 1] (by as_aux_lemma => kernel_rfl) rfl) (by rw [hen]; rfl)
   ·
    -- no
    have h3 := beq_eq_false_iff_ne.1 h3
    refine zaI (zaw (zaf (zap ?_)))
    have hen : zcv s = [s.tk] := by unfold zcv; simp_all
    refine zad (zag rfl (by decide) rfl (zag rfl (by decide) rfl (zaC rfl (by decide) rfl (zam zdg rfl (by decide) rfl (show _ = 1 from rfl) (zbb (k := 0) (cs := [.int .i64 s.tk.k, .int .i64 (s.tk.f : Int), .int .i64 (s.tk.t : Int)]) zkg rfl (by decide) rfl rfl rfl rfl ?_)))))
    refine zdw hy rfl (by decide) rfl (pre := pre) (e := s.tk) (post := post) (by rw [hz, hen]; simp) rfl (k := 1) rfl ?_ ?_
    ·
     -- yes
     refine zai rfl (by decide) rfl (zan (zaf (zaE (za4 (k := 1) rfl (show I (pre ++ [s.tk]) = I (pre ++ zcv s) from (by simp [hen])) ?_))))
     show TX _ _ _ _ _ _ _ [cells b [.int .i64 s.st, .int .i64 s.tk.k, .int .i64 (s.tk.f : Int), .int .i64 (s.tk.t : Int), .int .i64 s.h.k, .int .i32 (s.h.r : Int), .int .i64 (s.h.f : Int), .int .i64 (s.h.t : Int), .bool s.h.al] 152, I (pre ++ zcv s)]
     exact zaM (rs := [.tmp 4]) (none : Option (List Tk × Tk × List Tk)) (.inl rfl) Tryd.results89 (.cons (.tmp rfl) .nil) rfl (zak [0, 1] (by as_aux_lemma => kernel_rfl) rfl)
    ·
     -- no
     refine zai rfl (by decide) rfl (zan (zaf (zaE (za4 (k := 1) rfl (show X (pre ++ [s.tk]) = X (pre ++ (([], s.tk, []) : List Tk × Tk × List Tk).1 ++ [(([], s.tk, []) : List Tk × Tk × List Tk).2.1]) from (by simp)) ?_))))
     show TX _ _ _ _ _ _ _ [cells b [.int .i64 s.st, .int .i64 s.tk.k, .int .i64 (s.tk.f : Int), .int .i64 (s.tk.t : Int), .int .i64 s.h.k, .int .i32 (s.h.r : Int), .int .i64 (s.h.f : Int), .int .i64 (s.h.t : Int), .bool s.h.al] 152, X (pre ++ (([], s.tk, []) : List Tk × Tk × List Tk).1 ++ [(([], s.tk, []) : List Tk × Tk × List Tk).2.1])]
     exact zgX (rs := [.tmp 4]) (As := [cells b (scV s) 152, X (pre ++ (([], s.tk, []) : List Tk × Tk × List Tk).1 ++ [(([], s.tk, []) : List Tk × Tk × List Tk).2.1])]) (p := zcv s = (([], s.tk, []) : List Tk × Tk × List Tk).1 ++ (([], s.tk, []) : List Tk × Tk × List Tk).2.1 :: (([], s.tk, []) : List Tk × Tk × List Tk).2.2) (some (([], s.tk, []) : List Tk × Tk × List Tk)) (.inl rfl) Tryd.results89 (.cons (.tmp rfl) .nil) rfl (zak [0, 1] (by as_aux_lemma => kernel_rfl) rfl) (by rw [hen]; rfl)
  ·
   -- no
   have h2 := beq_eq_false_iff_ne.1 h2
   refine zad (zaz rfl (by decide) rfl rfl zaW (zai rfl (by decide) rfl (zan (zaf ?_))))
   refine zaF rfl (fun h4 => ?_) (fun h4 => ?_)
   ·
    -- yes
    have h4 := beq_iff_eq.1 h4
    refine zap ?_
    have hen : zcv s = [s.tk, ⟨5, s.h.f, s.h.t⟩] := by unfold zcv; simp_all
    refine zad (zag rfl (by decide) rfl (zag rfl (by decide) rfl (zaC rfl (by decide) rfl (zam zdg rfl (by decide) rfl (show _ = 1 from rfl) (zbb (k := 0) (cs := [.int .i64 s.tk.k, .int .i64 (s.tk.f : Int), .int .i64 (s.tk.t : Int)]) zkg rfl (by decide) rfl rfl rfl rfl ?_)))))
    refine zdw hy rfl (by decide) rfl (pre := pre) (e := s.tk) (post := [⟨5, s.h.f, s.h.t⟩] ++ post) (by rw [hz, hen]; simp) rfl (k := 1) rfl ?_ ?_
    ·
     -- yes
     refine zag rfl (by decide) rfl (zag rfl (by decide) rfl (zag rfl (by decide) rfl (zaC rfl (by decide) rfl (zam zeL rfl (by decide) rfl (show _ = 4 from rfl) (zam zcZ rfl (by decide) rfl (show _ = 6 from rfl) (zbb (k := 0) (cs := [.int .i64 (s.h.f : Int), .int .i64 (s.h.t : Int)]) zh2 rfl (by decide) rfl rfl rfl rfl ?_))))))
     refine zba (v := .agg #[.int .i64 5, .int .i64 (s.h.f : Int), .int .i64 (s.h.t : Int)]) (ps := [(0, .const (.int .i64 5)), (1, .tmp 26)]) rfl (by decide) rfl (fun _ => by kernel_rfl) ?_
     refine zdw hy rfl (by decide) rfl (pre := (pre ++ [s.tk])) (e := (⟨5, s.h.f, s.h.t⟩ : Tk)) (post := post) (by rw [hz, hen]; simp) rfl (k := 1) rfl ?_ ?_
     ·
      -- yes
      refine zas (b := true) rfl (by decide) rfl rfl (zai rfl (by decide) rfl (zan (zaf (zaE (zay (zav (za4 (k := 1) rfl (show I ((pre ++ [s.tk]) ++ [(⟨5, s.h.f, s.h.t⟩ : Tk)]) = I (pre ++ zcv s) from (by simp [hen])) ?_)))))))
      show TX _ _ _ _ _ _ _ [cells b [.int .i64 s.st, .int .i64 s.tk.k, .int .i64 (s.tk.f : Int), .int .i64 (s.tk.t : Int), .int .i64 s.h.k, .int .i32 (s.h.r : Int), .int .i64 (s.h.f : Int), .int .i64 (s.h.t : Int), .bool s.h.al] 152, I (pre ++ zcv s)]
      exact zaM (rs := [.tmp 4]) (none : Option (List Tk × Tk × List Tk)) (.inl rfl) Tryd.results89 (.cons (.tmp rfl) .nil) rfl (zak [0, 1] (by as_aux_lemma => kernel_rfl) rfl)
     ·
      -- no
      refine zas (b := true) rfl (by decide) rfl rfl (zai rfl (by decide) rfl (zan (zaf (zaE (zay (zav (za4 (k := 1) rfl (show X ((pre ++ [s.tk]) ++ [(⟨5, s.h.f, s.h.t⟩ : Tk)]) = X (pre ++ (([s.tk], (⟨5, s.h.f, s.h.t⟩ : Tk), []) : List Tk × Tk × List Tk).1 ++ [(([s.tk], (⟨5, s.h.f, s.h.t⟩ : Tk), []) : List Tk × Tk × List Tk).2.1]) from (by simp)) ?_)))))))
      show TX _ _ _ _ _ _ _ [cells b [.int .i64 s.st, .int .i64 s.tk.k, .int .i64 (s.tk.f : Int), .int .i64 (s.tk.t : Int), .int .i64 s.h.k, .int .i32 (s.h.r : Int), .int .i64 (s.h.f : Int), .int .i64 (s.h.t : Int), .bool s.h.al] 152, X (pre ++ (([s.tk], (⟨5, s.h.f, s.h.t⟩ : Tk), []) : List Tk × Tk × List Tk).1 ++ [(([s.tk], (⟨5, s.h.f, s.h.t⟩ : Tk), []) : List Tk × Tk × List Tk).2.1])]
      exact zgX (rs := [.tmp 4]) (As := [cells b (scV s) 152, X (pre ++ (([s.tk], (⟨5, s.h.f, s.h.t⟩ : Tk), []) : List Tk × Tk × List Tk).1 ++ [(([s.tk], (⟨5, s.h.f, s.h.t⟩ : Tk), []) : List Tk × Tk × List Tk).2.1])]) (p := zcv s = (([s.tk], (⟨5, s.h.f, s.h.t⟩ : Tk), []) : List Tk × Tk × List Tk).1 ++ (([s.tk], (⟨5, s.h.f, s.h.t⟩ : Tk), []) : List Tk × Tk × List Tk).2.1 :: (([s.tk], (⟨5, s.h.f, s.h.t⟩ : Tk), []) : List Tk × Tk × List Tk).2.2) (some (([s.tk], (⟨5, s.h.f, s.h.t⟩ : Tk), []) : List Tk × Tk × List Tk)) (.inl rfl) Tryd.results89 (.cons (.tmp rfl) .nil) rfl (zak [0, 1] (by as_aux_lemma => kernel_rfl) rfl) (by rw [hen]; rfl)
    ·
     -- no
     refine zag rfl (by decide) rfl (zae rfl (by decide) (zae rfl (by decide) (zae rfl (by decide) (zae rfl (by decide) (zae rfl (by decide) (zae rfl (by decide) (zae rfl (by decide) (zae rfl (by decide) (zas (b := false) rfl (by decide) rfl rfl (zai rfl (by decide) rfl (zan (zaf (zaE ?_)))))))))))))
     refine zay (zav (za4 (k := 1) rfl (show X (pre ++ [s.tk]) = X (pre ++ (([], s.tk, [(⟨5, s.h.f, s.h.t⟩ : Tk)]) : List Tk × Tk × List Tk).1 ++ [(([], s.tk, [(⟨5, s.h.f, s.h.t⟩ : Tk)]) : List Tk × Tk × List Tk).2.1]) from (by simp)) ?_))
     show TX _ _ _ _ _ _ _ [cells b [.int .i64 s.st, .int .i64 s.tk.k, .int .i64 (s.tk.f : Int), .int .i64 (s.tk.t : Int), .int .i64 s.h.k, .int .i32 (s.h.r : Int), .int .i64 (s.h.f : Int), .int .i64 (s.h.t : Int), .bool s.h.al] 152, X (pre ++ (([], s.tk, [(⟨5, s.h.f, s.h.t⟩ : Tk)]) : List Tk × Tk × List Tk).1 ++ [(([], s.tk, [(⟨5, s.h.f, s.h.t⟩ : Tk)]) : List Tk × Tk × List Tk).2.1])]
     exact zgX (rs := [.tmp 4]) (As := [cells b (scV s) 152, X (pre ++ (([], s.tk, [(⟨5, s.h.f, s.h.t⟩ : Tk)]) : List Tk × Tk × List Tk).1 ++ [(([], s.tk, [(⟨5, s.h.f, s.h.t⟩ : Tk)]) : List Tk × Tk × List Tk).2.1])]) (p := zcv s = (([], s.tk, [(⟨5, s.h.f, s.h.t⟩ : Tk)]) : List Tk × Tk × List Tk).1 ++ (([], s.tk, [(⟨5, s.h.f, s.h.t⟩ : Tk)]) : List Tk × Tk × List Tk).2.1 :: (([], s.tk, [(⟨5, s.h.f, s.h.t⟩ : Tk)]) : List Tk × Tk × List Tk).2.2) (some (([], s.tk, [(⟨5, s.h.f, s.h.t⟩ : Tk)]) : List Tk × Tk × List Tk)) (.inl rfl) Tryd.results89 (.cons (.tmp rfl) .nil) rfl (zak [0, 1] (by as_aux_lemma => kernel_rfl) rfl) (by rw [hen]; rfl)
   ·
    -- no
    have h4 := beq_eq_false_iff_ne.1 h4
    refine zaI (zaw (zaf (zap ?_)))
    have hen : zcv s = [s.tk] := by unfold zcv; simp_all
    refine zad (zag rfl (by decide) rfl (zag rfl (by decide) rfl (zaC rfl (by decide) rfl (zam zdg rfl (by decide) rfl (show _ = 1 from rfl) (zbb (k := 0) (cs := [.int .i64 s.tk.k, .int .i64 (s.tk.f : Int), .int .i64 (s.tk.t : Int)]) zkg rfl (by decide) rfl rfl rfl rfl ?_)))))
    refine zdw hy rfl (by decide) rfl (pre := pre) (e := s.tk) (post := post) (by rw [hz, hen]; simp) rfl (k := 1) rfl ?_ ?_
    ·
     -- yes
     refine zai rfl (by decide) rfl (zan (zaf (zaE (za4 (k := 1) rfl (show I (pre ++ [s.tk]) = I (pre ++ zcv s) from (by simp [hen])) ?_))))
     show TX _ _ _ _ _ _ _ [cells b [.int .i64 s.st, .int .i64 s.tk.k, .int .i64 (s.tk.f : Int), .int .i64 (s.tk.t : Int), .int .i64 s.h.k, .int .i32 (s.h.r : Int), .int .i64 (s.h.f : Int), .int .i64 (s.h.t : Int), .bool s.h.al] 152, I (pre ++ zcv s)]
     exact zaM (rs := [.tmp 4]) (none : Option (List Tk × Tk × List Tk)) (.inl rfl) Tryd.results89 (.cons (.tmp rfl) .nil) rfl (zak [0, 1] (by as_aux_lemma => kernel_rfl) rfl)
    ·
     -- no
     refine zai rfl (by decide) rfl (zan (zaf (zaE (za4 (k := 1) rfl (show X (pre ++ [s.tk]) = X (pre ++ (([], s.tk, []) : List Tk × Tk × List Tk).1 ++ [(([], s.tk, []) : List Tk × Tk × List Tk).2.1]) from (by simp)) ?_))))
     show TX _ _ _ _ _ _ _ [cells b [.int .i64 s.st, .int .i64 s.tk.k, .int .i64 (s.tk.f : Int), .int .i64 (s.tk.t : Int), .int .i64 s.h.k, .int .i32 (s.h.r : Int), .int .i64 (s.h.f : Int), .int .i64 (s.h.t : Int), .bool s.h.al] 152, X (pre ++ (([], s.tk, []) : List Tk × Tk × List Tk).1 ++ [(([], s.tk, []) : List Tk × Tk × List Tk).2.1])]
     exact zgX (rs := [.tmp 4]) (As := [cells b (scV s) 152, X (pre ++ (([], s.tk, []) : List Tk × Tk × List Tk).1 ++ [(([], s.tk, []) : List Tk × Tk × List Tk).2.1])]) (p := zcv s = (([], s.tk, []) : List Tk × Tk × List Tk).1 ++ (([], s.tk, []) : List Tk × Tk × List Tk).2.1 :: (([], s.tk, []) : List Tk × Tk × List Tk).2.2) (some (([], s.tk, []) : List Tk × Tk × List Tk)) (.inl rfl) Tryd.results89 (.cons (.tmp rfl) .nil) rfl (zak [0, 1] (by as_aux_lemma => kernel_rfl) rfl) (by rw [hen]; rfl)
end Go.Proofs.YtgfkogafkhbgnaaDoor
namespace Go.Proofs.YtgfkogafkhbgnaaDoor
open Go.RowKit Go.Lib
set_option linter.unusedVariables false
set_option linter.unusedSimpArgs false
theorem zlU {F : Fence} {P : Program} {w0 : World} {K : Nat → Prop} {N : Nat} {dfs : List Deferred} {ops : Array Oper} {Q : Exit → Act → World → Prop} {rest : List Oper} {σ : List (Nat × Value)} {L : List Asn} {k : Nat} {p : Prop}
    (hk : L[k]? = some (Go.Proofs.YtgfkogafkhbgnaaDoor.fact p)) (h : p → TO F P w0 K N dfs ops Q rest σ L) : TO F P w0 K N dfs ops Q rest σ L := fun a w ha hw => by
  obtain ⟨C1, _, h2, _⟩ := hw.focus' hk
  exact h h2.2 a w ha hw
theorem zjT (s : Sc) (u : Un) (h2 : (zbM s.st u).2 ≠ 2) (h1 : (zbM s.st u).2 ≠ 1) : zaA s u = s := by
  have h3 : (zbM s.st u).1 = s.st := by
    revert h2 h1
    unfold zbM
    repeat' split
    all_goals simp_all
  unfold zaA
  rw [if_neg h2, h3]
theorem zlj (s : ByteArray) (hs : s.size ≤ 4611686018427387904) (Bs : Nat) : Itr Tryd.prog 86 [.pointer (some ⟨Bs, 0, none⟩)] tkA (zk3 (units (pcs s.data.toList))) [(Bs, .cells #[.string s] 9 (0, 0))] := by
 refine Itr.intro Tryd.func86 rfl Tryd.ntmps86 (by simp) ?_
 intro l w0 K I X hRo hy
 refine zap (zad ?_)
 refine zdF rfl (by decide) rfl (fun b1 => ?_)
 refine zan (zaf (zap (zad ?_)))
 refine zbe zn2 rfl (by decide) (fun b2 => ?_)
 refine zan (zaf (zap (zap (zad (zfQ (i := 0) hRo zhz rfl (by decide) rfl rfl rfl (zcr (vs := [.string s]) rfl (by decide) rfl rfl rfl zo6 (zl2 s) Splits.nil ?_))))))
 rintro bp
 show TO _ _ _ _ _ _ _ _ _ _ [I [], cells b1 [.func (.yield l) #[] #[]] 147, cells b2 [.int .i64 0, .int .i64 0, .int .i64 0, .int .i64 0, .int .i64 0, .int .i32 0, .int .i64 0, .int .i64 0, .bool false] 152, cells bp [.string s] 9]
 refine zan (zaf (zaT ?_))
 refine ziU (α := Un) (β := List Tk × Sc) (γ := List Tk × Tk × List Tk) (δ := Nat) (ps := [7]) hRo rfl zoB (zkD s (by omega) bp) (fun pre b => zeA pre = b) (fun pre b => [cells b1 [.func (.yield l) #[] #[]] 147, cells b2 [.int .i64 b.2.st, .int .i64 b.2.tk.k, .int .i64 (b.2.tk.f : Int), .int .i64 (b.2.tk.t : Int), .int .i64 b.2.h.k, .int .i32 (b.2.h.r : Int), .int .i64 (b.2.h.f : Int), .int .i64 (b.2.h.t : Int), .bool b.2.h.al] 152, I b.1]) (fun c pre g => c = .ret ∧ zk3 (units (pcs s.data.toList)) = g.1 ++ g.2.1 :: g.2.2) (fun c pre g => [X (g.1 ++ [g.2.1])]) (fun pre x b j => [(2, .pointer (some ⟨b1, 0, none⟩)), (3, .pointer (some ⟨b2, 0, none⟩)), (4, .pointer (some ⟨j, 0, none⟩))]) (fun pre x b j => [cells b1 [.func (.yield l) #[] #[]] 147, cells b2 [.int .i64 b.2.st, .int .i64 b.2.tk.k, .int .i64 (b.2.tk.f : Int), .int .i64 (b.2.tk.t : Int), .int .i64 b.2.h.k, .int .i32 (b.2.h.r : Int), .int .i64 (b.2.h.f : Int), .int .i64 (b.2.h.t : Int), .bool b.2.h.al] 152, I b.1, cells j [.int .i64 x.k, .int .i32 (x.r : Int), .int .i64 (x.f : Int), .int .i64 (x.t : Int), .bool x.al] 150]) ([], sc0) rfl (zak [1, 2, 0] (by as_aux_lemma => kernel_rfl) rfl) ⟨.inl ⟨3, rfl⟩, trivial⟩ (fun _ => rfl) (by decide) ?_ ?_ ?_ ?_
 ·
  rintro lp rc pre x post b w1 K1 hxs hext hro hinv
  refine zad ?_
  refine zbe zmG rfl (by decide) (fun b3 => ?_)
  refine za8 (k := 3) (vs := [.int .i64 x.k, .int .i32 (x.r : Int), .int .i64 (x.f : Int), .int .i64 (x.t : Int), .bool x.al]) (l' := [.int .i64 x.k, .int .i32 (x.r : Int), .int .i64 (x.f : Int), .int .i64 (x.t : Int), .bool x.al]) zfw rfl rfl rfl rfl rfl (show _ ≤ _ by simp) rfl rfl ?_
  show TO _ _ _ _ _ _ _ _ _ _ [cells b1 [.func (.yield l) #[] #[]] 147, cells b2 [.int .i64 b.2.st, .int .i64 b.2.tk.k, .int .i64 (b.2.tk.f : Int), .int .i64 (b.2.tk.t : Int), .int .i64 b.2.h.k, .int .i32 (b.2.h.r : Int), .int .i64 (b.2.h.f : Int), .int .i64 (b.2.h.t : Int), .bool b.2.h.al] 152, I b.1, cells b3 [.int .i64 x.k, .int .i32 (x.r : Int), .int .i64 (x.f : Int), .int .i64 (x.t : Int), .bool x.al] 150]
  refine zan ?_
  exact fun a w ha hw => ⟨b3, (zah rfl (zah rfl (zah rfl (zaQ)))) _ _ _ ha, hw.weaken (zak [0, 1, 2, 3] (by as_aux_lemma => kernel_rfl) rfl)⟩
 ·
  rintro lp rc pre x post b j w1 K1 hxs hext hro hinv
  obtain ⟨E, sc⟩ := b
  have hinv : zeA pre = (E, sc) := hinv
  have hsn := zkN pre x
  rw [hinv] at hsn
  show TC _ _ _ _ _ _ _ _ _ [cells b1 [.func (.yield l) #[] #[]] 147, cells b2 [.int .i64 sc.st, .int .i64 sc.tk.k, .int .i64 (sc.tk.f : Int), .int .i64 (sc.tk.t : Int), .int .i64 sc.h.k, .int .i32 (sc.h.r : Int), .int .i64 (sc.h.f : Int), .int .i64 (sc.h.t : Int), .bool sc.h.al] 152, I E, cells j [.int .i64 x.k, .int .i32 (x.r : Int), .int .i64 (x.f : Int), .int .i64 (x.t : Int), .bool x.al] 150]
  by_cases h2 : (zbM sc.st x).2 = 2
  ·
   refine zaT ?_
   refine zem (β := Unit) (l := 0) (fun _ => False) (fun _ => [(2, .pointer (some ⟨b1, 0, none⟩)), (3, .pointer (some ⟨b2, 0, none⟩)), (4, .pointer (some ⟨j, 0, none⟩))]) (fun _ => [cells b1 [.func (.yield l) #[] #[]] 147, cells b2 [.int .i64 ((zaA sc x).st), .int .i64 ((zaA sc x).tk.k), .int .i64 ((zaA sc x).tk.f : Int), .int .i64 ((zaA sc x).tk.t : Int), .int .i64 ((zaA sc x).h.k), .int .i32 ((zaA sc x).h.r : Int), .int .i64 ((zaA sc x).h.f : Int), .int .i64 ((zaA sc x).h.t : Int), .bool ((zaA sc x).h.al)] 152, I E, cells j [.int .i64 x.k, .int .i32 (x.r : Int), .int .i64 (x.f : Int), .int .i64 (x.t : Int), .bool x.al] 150]) rfl ?_ ?_
   ·
    refine zap (zap (zad (zbb (k := 3) (cs := [.int .i64 x.k, .int .i32 (x.r : Int), .int .i64 (x.f : Int), .int .i64 (x.t : Int), .bool x.al]) zc4 rfl (by decide) rfl rfl rfl rfl (zcr (vs := [.pointer (some ⟨b2, 0, none⟩), .agg #[.int .i64 x.k, .int .i32 (x.r : Int), .int .i64 (x.f : Int), .int .i64 (x.t : Int), .bool x.al]]) rfl (by decide) rfl rfl rfl znt (zjU b2 sc x) (zak [1] (by as_aux_lemma => kernel_rfl) rfl) ?_))))
    rintro ⟨⟩
    show TO _ _ _ _ _ _ _ _ _ _ [cells b1 [.func (.yield l) #[] #[]] 147, emp, I E, cells j [.int .i64 x.k, .int .i32 (x.r : Int), .int .i64 (x.f : Int), .int .i64 (x.t : Int), .bool x.al] 150, cells b2 [.int .i64 ((zaA sc x).st), .int .i64 ((zaA sc x).tk.k), .int .i64 ((zaA sc x).tk.f : Int), .int .i64 ((zaA sc x).tk.t : Int), .int .i64 ((zaA sc x).h.k), .int .i32 ((zaA sc x).h.r : Int), .int .i64 ((zaA sc x).h.f : Int), .int .i64 ((zaA sc x).h.t : Int), .bool ((zaA sc x).h.al)] 152]
    refine zan (zaf (zaT (zap (zad (zaz rfl (by decide) rfl rfl (zbi (congrArg Value.bool (show ((((zbM sc.st x).2) : Int) == 2) = true from (beq_iff_eq.2 h2))) zaW) (zai rfl (by decide) rfl (zan (zaf (zaY rfl (zbA (zch (by decide) (zaR (zbZ (by simp) ?_)))))))))))))
    refine za2 ?_
    exact zcD (E, zaA sc x) (by show zeA (pre ++ [x]) = _; rw [hsn]; simp only [zhb, zaA]; rw [if_pos h2, if_pos h2]) (zak [0, 4, 2] (by as_aux_lemma => kernel_rfl) rfl)
   ·
    rintro ⟨⟩ hI
    show TC _ _ _ _ _ _ _ _ _ [cells b1 [.func (.yield l) #[] #[]] 147, cells b2 [.int .i64 ((zaA sc x).st), .int .i64 ((zaA sc x).tk.k), .int .i64 ((zaA sc x).tk.f : Int), .int .i64 ((zaA sc x).tk.t : Int), .int .i64 ((zaA sc x).h.k), .int .i32 ((zaA sc x).h.r : Int), .int .i64 ((zaA sc x).h.f : Int), .int .i64 ((zaA sc x).h.t : Int), .bool ((zaA sc x).h.al)] 152, I E, cells j [.int .i64 x.k, .int .i32 (x.r : Int), .int .i64 (x.f : Int), .int .i64 (x.t : Int), .bool x.al] 150]
    exact hI.elim
  ·
   by_cases h1 : (zbM sc.st x).2 = 1
   ·
    refine zaT ?_
    refine zem (β := Unit) (l := 0) (fun _ => True) (fun _ => [(2, .pointer (some ⟨b1, 0, none⟩)), (3, .pointer (some ⟨b2, 0, none⟩)), (4, .pointer (some ⟨j, 0, none⟩))]) (fun _ => [cells b1 [.func (.yield l) #[] #[]] 147, cells b2 [.int .i64 ((zaA sc x).st), .int .i64 ((zaA sc x).tk.k), .int .i64 ((zaA sc x).tk.f : Int), .int .i64 ((zaA sc x).tk.t : Int), .int .i64 ((zaA sc x).h.k), .int .i32 ((zaA sc x).h.r : Int), .int .i64 ((zaA sc x).h.f : Int), .int .i64 ((zaA sc x).h.t : Int), .bool ((zaA sc x).h.al)] 152, I E, cells j [.int .i64 x.k, .int .i32 (x.r : Int), .int .i64 (x.f : Int), .int .i64 (x.t : Int), .bool x.al] 150]) rfl ?_ ?_
    ·
     refine zap (zap (zad (zbb (k := 3) (cs := [.int .i64 x.k, .int .i32 (x.r : Int), .int .i64 (x.f : Int), .int .i64 (x.t : Int), .bool x.al]) zc4 rfl (by decide) rfl rfl rfl rfl (zcr (vs := [.pointer (some ⟨b2, 0, none⟩), .agg #[.int .i64 x.k, .int .i32 (x.r : Int), .int .i64 (x.f : Int), .int .i64 (x.t : Int), .bool x.al]]) rfl (by decide) rfl rfl rfl znt (zjU b2 sc x) (zak [1] (by as_aux_lemma => kernel_rfl) rfl) ?_))))
     rintro ⟨⟩
     show TO _ _ _ _ _ _ _ _ _ _ [cells b1 [.func (.yield l) #[] #[]] 147, emp, I E, cells j [.int .i64 x.k, .int .i32 (x.r : Int), .int .i64 (x.f : Int), .int .i64 (x.t : Int), .bool x.al] 150, cells b2 [.int .i64 ((zaA sc x).st), .int .i64 ((zaA sc x).tk.k), .int .i64 ((zaA sc x).tk.f : Int), .int .i64 ((zaA sc x).tk.t : Int), .int .i64 ((zaA sc x).h.k), .int .i32 ((zaA sc x).h.r : Int), .int .i64 ((zaA sc x).h.f : Int), .int .i64 ((zaA sc x).h.t : Int), .bool ((zaA sc x).h.al)] 152]
     refine zan (zaf (zaT (zap (zad (zaz rfl (by decide) rfl rfl (zbi (congrArg Value.bool (show ((((zbM sc.st x).2) : Int) == 2) = false from (beq_eq_false_iff_ne.2 h2))) zaW) (zai rfl (by decide) rfl (zan (zaf (za0 rfl (zap (zad (zaz rfl (by decide) rfl rfl (zbi (congrArg Value.bool (show ((((zbM sc.st x).2) : Int) == 1) = true from (beq_iff_eq.2 h1))) zaW) (zai rfl (by decide) rfl ?_)))))))))))))
     refine zan (zaf (zaY rfl (znP (zjA (zj4 ?_)))))
     exact znL () trivial (zah rfl (zah rfl (zah rfl (zaQ)))) (zak [0, 4, 2, 3] (by as_aux_lemma => kernel_rfl) rfl)
    ·
     rintro ⟨⟩ hI
     show TC _ _ _ _ _ _ _ _ _ [cells b1 [.func (.yield l) #[] #[]] 147, cells b2 [.int .i64 ((zaA sc x).st), .int .i64 ((zaA sc x).tk.k), .int .i64 ((zaA sc x).tk.f : Int), .int .i64 ((zaA sc x).tk.t : Int), .int .i64 ((zaA sc x).h.k), .int .i32 ((zaA sc x).h.r : Int), .int .i64 ((zaA sc x).h.f : Int), .int .i64 ((zaA sc x).h.t : Int), .bool ((zaA sc x).h.al)] 152, I E, cells j [.int .i64 x.k, .int .i32 (x.r : Int), .int .i64 (x.f : Int), .int .i64 (x.t : Int), .bool x.al] 150]
     refine zap (zaI (zaf (zad (zam zcZ rfl (by decide) rfl (show _ = 2 from rfl) (zam zcN rfl (by decide) rfl (show _ = 3 from rfl) (zaP (k := 3) zcx rfl (by decide) rfl rfl rfl (zam zdg rfl (by decide) rfl (show _ = 1 from rfl) (zam zkp rfl (by decide) rfl (show _ = 2 from rfl) (zam zcN rfl (by decide) rfl (show _ = 3 from rfl) ?_)))))))))
     refine zaN (k := 1) (l' := [.int .i64 ((zaA sc x).st), .int .i64 ((zaA sc x).tk.k), .int .i64 ((zaA sc x).tk.f : Int), .int .i64 (x.t : Int), .int .i64 ((zaA sc x).h.k), .int .i32 ((zaA sc x).h.r : Int), .int .i64 ((zaA sc x).h.f : Int), .int .i64 ((zaA sc x).h.t : Int), .bool ((zaA sc x).h.al)]) zdW rfl rfl rfl rfl rfl (fun _ _ => rfl) rfl ?_
     refine zan (zlR (by simp) (zaw ?_))
     exact zcD (E, ⟨(zbM sc.st x).1, ⟨sc.tk.k, sc.tk.f, x.t⟩, (zaA sc x).h⟩) (by show zeA (pre ++ [x]) = _; rw [hsn]; simp only [zhb, zaA]; rw [if_neg h2, if_pos h1, if_neg h2]) (zak [0, 1, 2] (by as_aux_lemma => kernel_rfl) rfl)
   ·
    refine zaT ?_
    refine zem (β := Unit) (l := 0) (fun _ => False) (fun _ => [(2, .pointer (some ⟨b1, 0, none⟩)), (3, .pointer (some ⟨b2, 0, none⟩)), (4, .pointer (some ⟨j, 0, none⟩))]) (fun _ => [cells b1 [.func (.yield l) #[] #[]] 147, cells b2 [.int .i64 ((zaA sc x).st), .int .i64 ((zaA sc x).tk.k), .int .i64 ((zaA sc x).tk.f : Int), .int .i64 ((zaA sc x).tk.t : Int), .int .i64 ((zaA sc x).h.k), .int .i32 ((zaA sc x).h.r : Int), .int .i64 ((zaA sc x).h.f : Int), .int .i64 ((zaA sc x).h.t : Int), .bool ((zaA sc x).h.al)] 152, I E, cells j [.int .i64 x.k, .int .i32 (x.r : Int), .int .i64 (x.f : Int), .int .i64 (x.t : Int), .bool x.al] 150]) rfl ?_ ?_
    ·
     refine zap (zap (zad (zbb (k := 3) (cs := [.int .i64 x.k, .int .i32 (x.r : Int), .int .i64 (x.f : Int), .int .i64 (x.t : Int), .bool x.al]) zc4 rfl (by decide) rfl rfl rfl rfl (zcr (vs := [.pointer (some ⟨b2, 0, none⟩), .agg #[.int .i64 x.k, .int .i32 (x.r : Int), .int .i64 (x.f : Int), .int .i64 (x.t : Int), .bool x.al]]) rfl (by decide) rfl rfl rfl znt (zjU b2 sc x) (zak [1] (by as_aux_lemma => kernel_rfl) rfl) ?_))))
     rintro ⟨⟩
     show TO _ _ _ _ _ _ _ _ _ _ [cells b1 [.func (.yield l) #[] #[]] 147, emp, I E, cells j [.int .i64 x.k, .int .i32 (x.r : Int), .int .i64 (x.f : Int), .int .i64 (x.t : Int), .bool x.al] 150, cells b2 [.int .i64 ((zaA sc x).st), .int .i64 ((zaA sc x).tk.k), .int .i64 ((zaA sc x).tk.f : Int), .int .i64 ((zaA sc x).tk.t : Int), .int .i64 ((zaA sc x).h.k), .int .i32 ((zaA sc x).h.r : Int), .int .i64 ((zaA sc x).h.f : Int), .int .i64 ((zaA sc x).h.t : Int), .bool ((zaA sc x).h.al)] 152]
     refine zan (zaf (zaT (zap (zad (zaz rfl (by decide) rfl rfl (zbi (congrArg Value.bool (show ((((zbM sc.st x).2) : Int) == 2) = false from (beq_eq_false_iff_ne.2 h2))) zaW) (zai rfl (by decide) rfl (zan (zaf (za0 rfl (zap (zad (zaz rfl (by decide) rfl rfl (zbi (congrArg Value.bool (show ((((zbM sc.st x).2) : Int) == 1) = false from (beq_eq_false_iff_ne.2 h1))) zaW) (zai rfl (by decide) rfl ?_)))))))))))))
     refine zan (zaf (za0 rfl (zaI (zaw (zaf (zap (zap (zad (zaP (k := 0) zmN rfl (by decide) rfl rfl rfl ?_)))))))))
     refine znM (k := 4) rfl (show cells b2 [.int .i64 ((zaA sc x).st), .int .i64 ((zaA sc x).tk.k), .int .i64 ((zaA sc x).tk.f : Int), .int .i64 ((zaA sc x).tk.t : Int), .int .i64 ((zaA sc x).h.k), .int .i32 ((zaA sc x).h.r : Int), .int .i64 ((zaA sc x).h.f : Int), .int .i64 ((zaA sc x).h.t : Int), .bool ((zaA sc x).h.al)] 152 = cells b2 [.int .i64 sc.st, .int .i64 sc.tk.k, .int .i64 (sc.tk.f : Int), .int .i64 (sc.tk.t : Int), .int .i64 sc.h.k, .int .i32 (sc.h.r : Int), .int .i64 (sc.h.f : Int), .int .i64 (sc.h.t : Int), .bool sc.h.al] 152 from (congrArg (fun z => cells b2 (scV z) 152) (zjT sc x h2 h1))) ?_
     show TO _ _ _ _ _ _ _ _ _ _ [cells b1 [.func (.yield l) #[] #[]] 147, emp, I E, cells j [.int .i64 x.k, .int .i32 (x.r : Int), .int .i64 (x.f : Int), .int .i64 (x.t : Int), .bool x.al] 150, cells b2 [.int .i64 sc.st, .int .i64 sc.tk.k, .int .i64 (sc.tk.f : Int), .int .i64 (sc.tk.t : Int), .int .i64 sc.h.k, .int .i32 (sc.h.r : Int), .int .i64 (sc.h.f : Int), .int .i64 (sc.h.t : Int), .bool sc.h.al] 152]
     obtain ⟨q, hq⟩ := zm7 pre post x (by rw [hinv]; exact ⟨h2, h1⟩)
     rw [hinv, ← hxs] at hq
     refine zky (vs := [.pointer (some ⟨b2, 0, none⟩), .func (.yield l) #[] #[]]) rfl (by decide) rfl rfl rfl zor (fun w C hx => zoq (hy.later (hext.trans hx)) b2 sc E q hq) (zak [4, 2] (by as_aux_lemma => kernel_rfl) rfl) ?_
     rintro (_ | g)
     ·
      -- yes
      show TO _ _ _ _ _ _ _ _ _ _ [cells b1 [.func (.yield l) #[] #[]] 147, emp, emp, cells j [.int .i64 x.k, .int .i32 (x.r : Int), .int .i64 (x.f : Int), .int .i64 (x.t : Int), .bool x.al] 150, emp, cells b2 [.int .i64 sc.st, .int .i64 sc.tk.k, .int .i64 (sc.tk.f : Int), .int .i64 (sc.tk.t : Int), .int .i64 sc.h.k, .int .i32 (sc.h.r : Int), .int .i64 (sc.h.f : Int), .int .i64 (sc.h.t : Int), .bool sc.h.al] 152, I (E ++ zcv sc)]
      refine zdZ rfl (by decide) rfl zcG (zan (zaf (za0 rfl (zaI (zaf (zap (zad (zbb (k := 3) (cs := [.int .i64 x.k, .int .i32 (x.r : Int), .int .i64 (x.f : Int), .int .i64 (x.t : Int), .bool x.al]) zc4 rfl (by decide) rfl rfl rfl rfl (zcr (vs := [.pointer (some ⟨b2, 0, none⟩), .agg #[.int .i64 x.k, .int .i32 (x.r : Int), .int .i64 (x.f : Int), .int .i64 (x.t : Int), .bool x.al]]) rfl (by decide) rfl rfl rfl zo5 (zmx b2 sc x) (zak [5] (by as_aux_lemma => kernel_rfl) rfl) ?_)))))))))
      rintro ⟨⟩
      show TO _ _ _ _ _ _ _ _ _ _ [cells b1 [.func (.yield l) #[] #[]] 147, emp, emp, cells j [.int .i64 x.k, .int .i32 (x.r : Int), .int .i64 (x.f : Int), .int .i64 (x.t : Int), .bool x.al] 150, emp, emp, I (E ++ zcv sc), cells b2 [.int .i64 ((began sc x).st), .int .i64 ((began sc x).tk.k), .int .i64 ((began sc x).tk.f : Int), .int .i64 ((began sc x).tk.t : Int), .int .i64 ((began sc x).h.k), .int .i32 ((began sc x).h.r : Int), .int .i64 ((began sc x).h.f : Int), .int .i64 ((began sc x).h.t : Int), .bool ((began sc x).h.al)] 152]
      refine zan (zaf (zap (zbA (zaR (zbZ (by simp) (za2 ?_))))))
      exact zcD (E ++ zcv sc, began sc x) (by show zeA (pre ++ [x]) = _; rw [hsn, zhG (E, sc) x h2 h1]) (zak [0, 7, 6] (by as_aux_lemma => kernel_rfl) rfl)
     ·
      -- no
      show TO _ _ _ _ _ _ _ _ _ _ [cells b1 [.func (.yield l) #[] #[]] 147, emp, emp, cells j [.int .i64 x.k, .int .i32 (x.r : Int), .int .i64 (x.f : Int), .int .i64 (x.t : Int), .bool x.al] 150, emp, cells b2 [.int .i64 sc.st, .int .i64 sc.tk.k, .int .i64 (sc.tk.f : Int), .int .i64 (sc.tk.t : Int), .int .i64 sc.h.k, .int .i32 (sc.h.r : Int), .int .i64 (sc.h.f : Int), .int .i64 (sc.h.t : Int), .bool sc.h.al] 152, X (E ++ g.1 ++ [g.2.1]), fact (zcv sc = g.1 ++ g.2.1 :: g.2.2)]
      refine zlU (k := 7) rfl (fun hg => ?_)
      refine zdZ rfl (by decide) rfl zcG (zan (zaf (zaY rfl (zaE (zav (zbZ (by simp) (zay ?_)))))))
      exact zc1 (E ++ g.1, g.2.1, g.2.2 ++ q) ⟨rfl, by rw [hq, hg]; simp⟩ (zak [6] (by as_aux_lemma => kernel_rfl) rfl)
    ·
     rintro ⟨⟩ hI
     show TC _ _ _ _ _ _ _ _ _ [cells b1 [.func (.yield l) #[] #[]] 147, cells b2 [.int .i64 ((zaA sc x).st), .int .i64 ((zaA sc x).tk.k), .int .i64 ((zaA sc x).tk.f : Int), .int .i64 ((zaA sc x).tk.t : Int), .int .i64 ((zaA sc x).h.k), .int .i32 ((zaA sc x).h.r : Int), .int .i64 ((zaA sc x).h.f : Int), .int .i64 ((zaA sc x).h.t : Int), .bool ((zaA sc x).h.al)] 152, I E, cells j [.int .i64 x.k, .int .i32 (x.r : Int), .int .i64 (x.f : Int), .int .i64 (x.t : Int), .bool x.al] 150]
     exact hI.elim
 ·
  rintro d b hinv
  show TX _ _ _ _ _ _ _ [emp, emp, emp, cells bp [.string s] 9, cells b1 [.func (.yield l) #[] #[]] 147, cells b2 [.int .i64 b.2.st, .int .i64 b.2.tk.k, .int .i64 (b.2.tk.f : Int), .int .i64 (b.2.tk.t : Int), .int .i64 b.2.h.k, .int .i32 (b.2.h.r : Int), .int .i64 (b.2.h.f : Int), .int .i64 (b.2.h.t : Int), .bool b.2.h.al] 152, I b.1, zbJ d]
  obtain ⟨E, sc⟩ := b
  have hinv : zeA (units (pcs s.data.toList)) = (E, sc) := hinv
  show TX _ _ _ _ _ _ _ [emp, emp, emp, cells bp [.string s] 9, cells b1 [.func (.yield l) #[] #[]] 147, cells b2 [.int .i64 sc.st, .int .i64 sc.tk.k, .int .i64 (sc.tk.f : Int), .int .i64 (sc.tk.t : Int), .int .i64 sc.h.k, .int .i32 (sc.h.r : Int), .int .i64 (sc.h.f : Int), .int .i64 (sc.h.t : Int), .bool sc.h.al] 152, I E, zbJ d]
  refine zaw (zaf (zad (zaP (k := 4) zmN rfl (by decide) rfl rfl rfl ?_)))
  have hq : zk3 (units (pcs s.data.toList)) = E ++ zcv sc ++ [] := by rw [List.append_nil]; unfold zk3; rw [hinv]
  refine zky (vs := [.pointer (some ⟨b2, 0, none⟩), .func (.yield l) #[] #[]]) rfl (by decide) rfl rfl rfl zor (fun w C hx => zoq (hy.later hx) b2 sc E [] hq) (zak [5, 6] (by as_aux_lemma => kernel_rfl) rfl) ?_
  rintro (_ | g)
  ·
   -- yes
   show TO _ _ _ _ _ _ _ _ _ _ [emp, emp, emp, cells bp [.string s] 9, cells b1 [.func (.yield l) #[] #[]] 147, emp, emp, zbJ d, cells b2 [.int .i64 sc.st, .int .i64 sc.tk.k, .int .i64 (sc.tk.f : Int), .int .i64 (sc.tk.t : Int), .int .i64 sc.h.k, .int .i32 (sc.h.r : Int), .int .i64 (sc.h.f : Int), .int .i64 (sc.h.t : Int), .bool sc.h.al] 152, I (E ++ zcv sc)]
   refine zan ?_
   have he : I (zk3 (units (pcs s.data.toList))) = I (E ++ zcv sc) := by rw [hq, List.append_nil]
   exact zfN (ds := [d]) (.inr rfl) (zak [7] (by as_aux_lemma => kernel_rfl) rfl) Tryd.results86 he (zak [9] (by as_aux_lemma => kernel_rfl) rfl)
  ·
   -- no
   show TO _ _ _ _ _ _ _ _ _ _ [emp, emp, emp, cells bp [.string s] 9, cells b1 [.func (.yield l) #[] #[]] 147, emp, emp, zbJ d, cells b2 [.int .i64 sc.st, .int .i64 sc.tk.k, .int .i64 (sc.tk.f : Int), .int .i64 (sc.tk.t : Int), .int .i64 sc.h.k, .int .i32 (sc.h.r : Int), .int .i64 (sc.h.f : Int), .int .i64 (sc.h.t : Int), .bool sc.h.al] 152, X (E ++ g.1 ++ [g.2.1]), fact (zcv sc = g.1 ++ g.2.1 :: g.2.2)]
   refine zlU (k := 10) rfl (fun hg => ?_)
   refine zan ?_
   exact zfO (ds := [d]) (E ++ g.1) g.2.1 g.2.2 (by rw [hq, hg]; simp) (.inr rfl) (zak [7] (by as_aux_lemma => kernel_rfl) rfl) Tryd.results86 (zak [9] (by as_aux_lemma => kernel_rfl) rfl)
 ·
  rintro d c pre x post g hxs hX
  show TC _ _ _ _ _ _ _ _ _ [emp, emp, emp, cells bp [.string s] 9, X (g.1 ++ [g.2.1]), zbJ d]
  obtain ⟨E, n, q⟩ := g
  obtain ⟨rfl, hq⟩ := hX
  refine zaE (zay (zav ?_))
  exact zfO (ds := [d]) E n q hq (.inl rfl) (zak [5] (by as_aux_lemma => kernel_rfl) rfl) Tryd.results86 (zak [4] (by as_aux_lemma => kernel_rfl) rfl)

theorem zm6 (s : ByteArray) : Fn Tryd.prog 73 [.string s] [] (fun b : Nat => .func (.func 86) #[] #[.pointer (some ⟨b, 0, none⟩)]) (fun b => [cells b [.string s] 9]) := by
 refine Fn.intro Tryd.func73 rfl Tryd.ntmps73 (by simp) ?_
 intro w0 K
 refine zap (zad ?_)
 refine zdF rfl (by decide) rfl (fun b1 => ?_)
 refine zai rfl (by decide) rfl (zan (zaf (zap (zad (zdO (x1 := []) (x2 := [.tmp 1]) rfl (by decide) rfl rfl (zai rfl (by decide) rfl (zan (zaf (zaE ?_)))))))))
 exact zaM (rs := [.tmp 2]) b1 (.inl rfl) Tryd.results73 (.cons (.tmp rfl) .nil) rfl (zak [0] (by as_aux_lemma => kernel_rfl) rfl)
end Go.Proofs.YtgfkogafkhbgnaaDoor
