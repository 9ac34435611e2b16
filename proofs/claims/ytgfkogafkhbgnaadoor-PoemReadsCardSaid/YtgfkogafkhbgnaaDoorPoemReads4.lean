/-
  Texts laid together: LqR, Rq, Lr, LqZ, PqC. Nothing is assumed.
-/
import Derived.Test.YtgfkogafkhbgnaaDoorPoemReads3
import Derived.Test.YtgfkogafkhbgnaaDoorPoemReads2
namespace Go.Proofs.YtgfkogafkhbgnaaDoor
open Go.RowKit Go.Lib
set_option linter.unusedVariables false
set_option linter.unusedSimpArgs false
def poem_empty_v (s1 : ByteArray) : Option Bool :=
grd (s1.size ≤ 9223372036854775807) <|
some (decide (trimST s1 = (⟨#[]⟩ : ByteArray)))
set_option maxRecDepth 100000 in
set_option maxHeartbeats 4000000 in
theorem poem_empty_fn {s1 : ByteArray} {r : Bool} (h : poem_empty_v s1 = some r) : FnP Tryd.prog 48 [.string s1] (.bool r) := by
 unfold poem_empty_v at h
 refine FnP.intro Tryd.func48 rfl Tryd.ntmps48 (by simp) ?_
 intro w0 K
 refine TC.seq (TC.region (TO.assign rfl dc rfl (TO.nil (TX.next (TC.seq (TC.region (TO.move rfl dc rfl ?_)))))))
 obtain ⟨hg1, h⟩ := grdE h
 refine TO.callP (v := .string (trimST s1)) (vs := [.string s1, .string (⟨#[32, 9]⟩ : ByteArray)]) rfl dc rfl rfl rfl en_75 (trim_p s1 hg1) (TO.bin rfl dc rfl rfl bin_seql (TO.assign rfl dc rfl (TO.nil (TX.next (TC.ret ?_)))))
 cases h
 exact TX.fin (rs := [.tmp 2]) () (.inl rfl) Tryd.results48 (.cons (.tmp rfl) .nil) rfl Splits.nil
def poem_titled_v (s1 : ByteArray) : Option Bool :=
bcond (decide (s1 = (⟨#[35]⟩ : ByteArray))) (
some true
) (
andThen (strings_HasPrefix_v s1 (⟨#[35, 32]⟩ : ByteArray)) fun (r1 : Bool) =>
some r1
)
set_option maxRecDepth 100000 in
set_option maxHeartbeats 4000000 in
theorem poem_titled_fn {s1 : ByteArray} {r : Bool} (h : poem_titled_v s1 = some r) : FnP Tryd.prog 49 [.string s1] (.bool r) := by
 unfold poem_titled_v at h
 refine FnP.intro Tryd.func49 rfl Tryd.ntmps49 (by simp) ?_
 intro w0 K
 refine TC.seq (TC.region (TO.assign rfl dc rfl (TO.nil (TX.next (TC.seq (TC.region (TO.move rfl dc rfl (TO.bin rfl dc rfl rfl bin_seql (TO.move rfl dc rfl ?_)))))))))
 refine TO.split (s := 5) rfl (fun hb1 => ?_) (fun hb1 => ?_)
 ·
  have h := condT hb1 h
  refine TO.skip rfl dc (TO.skip rfl dc (TO.pick (b := true) rfl dc rfl rfl (TO.assign rfl dc rfl (TO.nil (TX.next (TC.ret ?_))))))
  cases h
  exact TX.fin (rs := [.tmp 2]) () (.inl rfl) Tryd.results49 (.cons (.tmp rfl) .nil) rfl Splits.nil
 ·
  have h := condF hb1 h
  refine TO.move rfl dc rfl ?_
  obtain ⟨r1, hq1, h⟩ := andE h
  refine TO.callP (v := .bool r1) (vs := [.string s1, .string (⟨#[35, 32]⟩ : ByteArray)]) rfl dc rfl rfl rfl en_16 (strings_HasPrefix_fn hq1) (TO.pick (b := false) rfl dc rfl rfl (TO.assign rfl dc rfl (TO.nil (TX.next (TC.ret ?_)))))
  cases h
  exact TX.fin (rs := [.tmp 2]) () (.inl rfl) Tryd.results49 (.cons (.tmp rfl) .nil) rfl Splits.nil
def poem_indent_s1 (s1 : ByteArray) (j1 : Int → Option Int) (ag1 : Int → Nat → Option Int) (n4 : Int) (m3 : Nat) : Option Int :=
bcond (decide (m3 < (pcs s1.data.toList).length)) (
andThen ((pcs s1.data.toList)[m3]?) fun (p1 : Pc) =>
bcond (((p1.r : Int) : Int) != 32) (
j1 n4
) (
grd (I64 (n4 + 1)) <|
ag1 (n4 + 1) (m3 + 1)
)
) (
j1 n4
)
def poem_indent_v (s1 : ByteArray) : Option Int :=
joinK (fun (j1 : Int → Option Int) =>
loopG (fun _ _ => none) (poem_indent_s1 s1 j1) fuel 0 0
) (fun (n1 : Int) =>
some n1
)
set_option maxRecDepth 100000 in
set_option maxHeartbeats 4000000 in
theorem poem_indent_fn {s1 : ByteArray} {r : Int} (h : poem_indent_v s1 = some r) : FnP Tryd.prog 51 [.string s1] (.int .i64 r) := by
 unfold poem_indent_v at h
 refine FnP.intro Tryd.func51 rfl Tryd.ntmps51 (by simp) ?_
 intro w0 K
 obtain ⟨j1, hj1, h⟩ := joinE h
 refine TC.cutN (β := Int) 2 rfl (fun b => j1 b = some r) (fun b => []) (fun b => [(3, .int .i64 b)]) (fun b => []) (fun cut => ?_) ?_
 ·
  refine TC.seq (TC.region (TO.assign rfl dc rfl (TO.nil (TX.next (TC.seq (TC.region (TO.assign rfl dc rfl (TO.nil (TX.next (cut (TC.seq (TC.region (TO.move rfl dc rfl ?_)))))))))))))
  refine TO.rangeStr Tryd.underlying9 rfl dc rfl (fun b1 => ?_)
  refine TO.nil (TX.next (TC.block ?_))
  refine TC.loopD (β := Nat × Int × Nat) (fun b => loopG (fun _ _ => none) (poem_indent_s1 s1 j1) b.1 b.2.1 b.2.2 = some r) (fun b => []) (fun b => [(3, .int .i64 b.2.1), (7, .pointer (some ⟨b1, 0, none⟩))]) (fun b => [obj b1 (.stringIter s1 (posAt s1 b.2.2))]) (fun b => b.1) (fuel, 0, 0) h rfl (Sbs.cons rfl (Sbs.cons rfl (Sbs.nil))) (Splits.of [0] kr rfl) ?_
  rintro ⟨n5, n4, m3⟩ h
  cases n5 with
  | zero => exact noneE h
  | succ n5 =>
   obtain ⟨ag1, hag1⟩ : ∃ ag, ag = loopG (fun _ _ => none) (poem_indent_s1 s1 j1) n5 := ⟨_, rfl⟩
   have h : poem_indent_s1 s1 j1 ag1 n4 m3 = some r := by rw [hag1]; exact h
   unfold poem_indent_s1 at h
   show TC _ _ _ _ _ ([]) _ _ [(3, .int .i64 n4), (7, .pointer (some ⟨b1, 0, none⟩))] [obj b1 (.stringIter s1 (posAt s1 m3))]
   refine TC.seq (TC.region ?_)
   refine TO.bySplit (b := decide (m3 < (pcs s1.data.toList).length)) (fun hb1 => ?_) (fun hb1 => ?_)
   ·
    have h := condT hb1 h
    obtain ⟨p1, hq1, h⟩ := andE h
    refine TO.nextStr (k := 0) (m := m3) (p := p1) rfl dc rfl rfl hq1 (TO.extract rfl dc rfl rfl (TO.nil (TX.next (TC.seq (TC.condT rfl (TC.skip (TX.next (TC.block (TC.seq (TC.region (TO.extract rfl dc rfl rfl (TO.assign rfl dc rfl (TO.nil ?_)))))))))))))
    refine TX.next (TC.seq (TC.seq (TC.region (TO.move rfl dc rfl (TO.bin rfl dc rfl rfl bin_neq (TO.nil (TX.next ?_)))))))
    refine TC.condB rfl (fun hb2 => ?_) (fun hb2 => ?_)
    ·
     have h := condT hb2 h
     refine TC.exit (TX.thenExit (TX.blockOn dc (TX.thenExit (TX.blockHere ?_))))
     exact TX.meetD n4 h rfl (Sbs.cons rfl (Sbs.nil)) Splits.nil
    ·
     have h := condF hb2 h
     refine TC.skip (TX.next (TC.region (TO.move rfl dc rfl ?_)))
     obtain ⟨hg1, h⟩ := grdE h
     refine TO.bin rfl dc rfl rfl (bin_add (r := n4 + 1) (IntWalk.i64_in _ hg1)) (TO.assign rfl dc rfl (TO.nil (TX.blockNormal ?_)))
     subst hag1
     exact TX.againD (n5, n4 + 1, m3 + 1) h (Nat.lt_succ_self _) rfl (Sbs.cons rfl (Sbs.cons rfl (Sbs.nil))) (Splits.of [0] kr rfl)
   ·
    have h := condF hb1 h
    refine TO.nextEnd (k := 0) (m := m3) rfl dc rfl rfl (Nat.le_of_not_lt (of_decide_eq_false hb1)) (TO.extract rfl dc rfl rfl (TO.nil (TX.next (TC.seq (TC.condF rfl (TC.exit (TX.thenExit (TX.thenExit (TX.blockHere ?_)))))))))
    exact TX.meetD n4 h rfl (Sbs.cons rfl (Sbs.nil)) Splits.nil
 ·
  rintro n1 h
  rw [hj1] at h
  show TC _ _ _ _ _ ([]) _ _ [(3, .int .i64 n1)] []
  refine TC.seq (TC.region (TO.move rfl dc rfl (TO.assign rfl dc rfl (TO.nil (TX.next (TC.ret ?_))))))
  cases h
  exact TX.fin (rs := [.tmp 2]) () (.inl rfl) Tryd.results51 (.cons (.tmp rfl) .nil) rfl Splits.nil
def poem_Read_s1 (text1 : ByteArray) (j1 : ByteArray → (List Gapi_Verse) → (List Gapi_Span) → Option ((Option Gpoem_Poem) × Gapi_Spot)) (p4 : Gplace_Map) (r2 : Int) (ag1 : ByteArray → (List Gapi_Verse) → (List Gapi_Span) → Bool → Bool → Int → Option ((Option Gpoem_Poem) × Gapi_Spot)) (p14 : ByteArray) (p15 : List Gapi_Verse) (p16 : List Gapi_Span) (first3 : Bool) (row3 : Bool) (x3 : Int) : Option ((Option Gpoem_Poem) × Gapi_Spot) :=
bcond (decide ((x3 : Int) < r2)) (
joinK (fun (j2 : ByteArray → (List Gapi_Verse) → (List Gapi_Span) → Bool → Bool → Option ((Option Gpoem_Poem) × Gapi_Spot)) =>
joinK (fun (j3 : Int → Int → ByteArray → Option ((Option Gpoem_Poem) × Gapi_Spot)) =>
andThen (place_Map_Span_v p4 x3) fun (r3 : (Gapi_Span × Int × Int)) =>
grd (0 ≤ (r3.1.From : Int) ∧ (r3.1.From : Int) ≤ r3.1.To ∧ (r3.1.To : Int) ≤ (text1.size : Int)) <|
andThen (poem_empty_v (cutB text1 r3.1.From r3.1.To)) fun (r4 : Bool) =>
bcond (r4) (
j2 p14 p15 p16 first3 false
) (
bcond (decide ((1024 : Int) < ((cutB text1 r3.1.From r3.1.To).size : Int))) (
grd (I64 (r3.1.From + 1024)) <|
some (none, (⟨3, r3.1.From + 1024⟩ : Gapi_Spot))
) (
bcond (first3) (
andThen (poem_titled_v (cutB text1 r3.1.From r3.1.To)) fun (r5 : Bool) =>
bcond (r5) (
grd (0 ≤ (1 : Int) ∧ (1 : Int) ≤ ((cutB text1 r3.1.From r3.1.To).size : Int) ∧ (((cutB text1 r3.1.From r3.1.To).size : Int) : Int) ≤ ((cutB text1 r3.1.From r3.1.To).size : Int)) <|
andThen (strings_TrimPrefix_v (cutB (cutB text1 r3.1.From r3.1.To) 1 ((cutB text1 r3.1.From r3.1.To).size : Int)) (⟨#[32]⟩ : ByteArray)) fun (r6 : ByteArray) =>
j2 r6 p15 p16 false row3
) (
bcond (((p15.length : Int) : Int) == 512) (
some (none, (⟨3, r3.1.From⟩ : Gapi_Spot))
) (
j3 r3.1.From r3.1.To (cutB text1 r3.1.From r3.1.To)
)
)
) (
bcond (((p15.length : Int) : Int) == 512) (
some (none, (⟨3, r3.1.From⟩ : Gapi_Spot))
) (
j3 r3.1.From r3.1.To (cutB text1 r3.1.From r3.1.To)
)
)
)
)
) (fun (span1 : Int) (span2 : Int) (line1 : ByteArray) =>
joinK (fun (j4 : (List Gapi_Span) → Option ((Option Gpoem_Poem) × Gapi_Spot)) =>
bcond (!row3) (
grd (p16.length + 1 ≤ 2147483648) <|
j4 (p16 ++ [(⟨(p15.length : Int), (p15.length : Int)⟩ : Gapi_Span)])
) (
j4 p16
)
) (fun (p20 : List Gapi_Span) =>
grd (I64 ((p20.length : Int) - 1)) <|
andThen (getO p20 ((p20.length : Int) - 1)) fun (q1 : Gapi_Span) =>
andThen (poem_indent_v line1) fun (r7 : Int) =>
grd (0 ≤ (r7 : Int) ∧ (r7 : Int) ≤ (line1.size : Int) ∧ ((line1.size : Int) : Int) ≤ (line1.size : Int)) <|
grd (I64 ((p20.length : Int) - 1)) <|
grd (I64 ((p15.length : Int) - q1.From)) <|
grd (I64 (span1 + r7)) <|
grd (p15.length + 1 ≤ 2147483648) <|
grd (I64 ((p15.length : Int) + 1)) <|
j2 p14 (p15 ++ [(⟨cutB line1 r7 (line1.size : Int), r7, (p20.length : Int) - 1, (p15.length : Int) - q1.From, span1 + r7, span2⟩ : Gapi_Verse)]) (p20.set ((p20.length : Int) - 1 : Int).toNat (⟨q1.From, (p15.length : Int) + 1⟩ : Gapi_Span)) false true
)
)
) (fun (p17 : ByteArray) (p18 : List Gapi_Verse) (p19 : List Gapi_Span) (first4 : Bool) (row4 : Bool) =>
grd (I64 (x3 + 1)) <|
ag1 p17 p18 p19 first4 row4 (x3 + 1)
)
) (
j1 p14 p15 p16
)
def poem_Read_v (text1 : ByteArray) : Option ((Option Gpoem_Poem) × Gapi_Spot) :=
andThen (place_New_v text1) fun (r1 : ((Option Gplace_Map) × Int)) =>
bcond ((r1.2 : Int) != 0) (
some (none, (⟨r1.2, 65536⟩ : Gapi_Spot))
) (
joinK (fun (j1 : ByteArray → (List Gapi_Verse) → (List Gapi_Span) → Option ((Option Gpoem_Poem) × Gapi_Spot)) =>
andThen (r1.1) fun (p4 : Gplace_Map) =>
andThen (place_Map_Lines_v p4) fun (r2 : Int) =>
loopG (fun _ _ _ _ _ _ => none) (poem_Read_s1 text1 j1 p4 r2) fuel ByteArray.empty ([] : List Gapi_Verse) ([] : List Gapi_Span) true false 0
) (fun (p1 : ByteArray) (p2 : List Gapi_Verse) (p3 : List Gapi_Span) =>
some ((some (⟨p1, p2, p3, text1⟩ : Gpoem_Poem)), (⟨0, 0⟩ : Gapi_Spot))
)
)
set_option maxRecDepth 100000 in
set_option maxHeartbeats 4000000 in
theorem poem_Read_fn {text1 : ByteArray} {r : ((Option Gpoem_Poem) × Gapi_Spot)} (h : poem_Read_v text1 = some r) : Fn Tryd.prog 13 [.string text1] [] (fun v0 : Value => .tuple #[v0, .agg #[.int .i64 r.2.Err, .int .i64 r.2.At]]) (fun v0 => [pobj encN_Gpoem_Poem nest_Gpoem_Poem 93 v0 r.1]) := by
 unfold poem_Read_v at h
 refine Fn.intro Tryd.func13 rfl Tryd.ntmps13 (by simp) ?_
 intro w0 K
 refine TC.seq (TC.region (TO.assign rfl dc rfl ?_))
 refine TO.alloc zr_26 rfl dc (fun b1 => ?_)
 refine TO.nil (TX.next ?_)
 refine TC.scope (β := Unit) (l := 0) (fun _ => False) (fun _ => []) (fun _ => []) rfl ?_ ?_
 ·
  refine TC.seq (TC.region (TO.move rfl dc rfl ?_))
  obtain ⟨r1, hq1, h⟩ := andE h
  refine TO.call (vs := [.string text1]) rfl dc rfl rfl rfl en_45 (place_New_fn hq1) Splits.nil ?_
  rintro v1
  show TO _ _ _ _ _ _ _ _ _ _ [cells b1 [.int .i64 0, .int .i64 0] 26, pobj encN_Gplace_Map nest_Gplace_Map 128 v1 r1.1]
  refine TO.weakenL (L' := [cells b1 [.int .i64 0, .int .i64 0] 26, pobj encN_Gplace_Map nest_Gplace_Map 128 v1 r1.1]) (Splits.of [0, 1] kr rfl) (TO.move rfl dc rfl (TO.extract rfl dc rfl rfl (TO.extract rfl dc rfl rfl (TO.assign rfl dc rfl (TO.assign rfl dc rfl (TO.nil (TX.next (TC.seq (TC.seq (TC.region (TO.move rfl dc rfl (TO.bin rfl dc rfl rfl bin_neq (TO.nil ?_)))))))))))))
  refine TX.next ?_
  refine TC.condB rfl (fun hb1 => ?_) (fun hb1 => ?_)
  ·
   have h := condT hb1 h
   refine TC.seq (TC.region (TO.move rfl dc rfl ?_))
   refine TO.build (v := .agg #[.int .i64 r1.2, .int .i64 65536]) (ps := [(0, .tmp 24), (1, .const (.int .i64 65536))]) rfl dc rfl (fun _ => by kernel_rfl) ?_
   refine TO.assign rfl dc rfl (TO.stores (k := 0) (vs := [.int .i64 r1.2, .int .i64 65536]) (l' := [.int .i64 r1.2, .int .i64 65536]) sz_26 rfl rfl rfl rfl rfl (show _ ≤ _ by simp) rfl rfl (TO.nil (TX.next (TC.ret (TX.thenRet (TX.jumpOn (by simp) (TX.newObj encN_Gpoem_Poem nest_Gpoem_Poem 93 ?_)))))))
   show TX _ _ _ _ _ _ _ [cells b1 [.int .i64 r1.2, .int .i64 65536] 26, pobj encN_Gplace_Map nest_Gplace_Map 128 v1 r1.1, pobj encN_Gpoem_Poem nest_Gpoem_Poem 93 (.pointer none) none]
   cases h
   exact TX.fin (rs := [.tmp 2, .cell 3 26]) (.pointer none) (.inl rfl) Tryd.results13 (.cons (.tmp rfl) (.cons (.cells rw_26 (k := 0) rfl rfl rfl) .nil)) rfl (Splits.of [2] kr rfl)
  ·
   have h := condF hb1 h
   refine TC.skip (TX.next ?_)
   obtain ⟨j1, hj1, h⟩ := joinE h
   refine TC.cutN (β := ByteArray × (List Gapi_Verse) × (List Gapi_Span) × Nat × Hd × Hd) 3 rfl (fun b => j1 b.1 b.2.1 b.2.2.1 = some r) (fun b => []) (fun b => [(3, .pointer (some ⟨b1, 0, none⟩)), (6, .pointer (some ⟨b.2.2.2.1, 0, none⟩))]) (fun b => [cells b1 [.int .i64 0, .int .i64 0] 26, cells b.2.2.2.1 [.string b.1, b.2.2.2.2.1.v, b.2.2.2.2.2.v, .string text1] 93, vec enc_Gapi_Verse 36 6 b.2.2.2.2.1.v b.2.1, vec enc_Gapi_Span 34 2 b.2.2.2.2.2.v b.2.2.1]) (fun cut => ?_) ?_
   ·
    refine TC.seq (TC.region (TO.move rfl dc rfl ?_))
    refine TO.build (v := .agg #[.string ByteArray.empty, .slice none 0 0, .slice none 0 0, .string text1]) (ps := [(1, .tmp 26)]) rfl dc rfl (fun _ => by kernel_rfl) ?_
    refine TO.box rfl dc rfl (fun b3 => ?_)
    refine TO.assign rfl dc rfl (TO.nil (TX.next (TC.seq (TC.region (TO.assign rfl dc rfl (TO.assign rfl dc rfl (TO.nil (TX.next (TC.seq (TC.label (TX.next (cut (TC.seq ?_)))))))))))))
    refine TC.region (TO.move rfl dc rfl ?_)
    obtain ⟨p4, hq2, h⟩ := andE h
    refine TO.entl (As := [pobj encN_Gplace_Map nest_Gplace_Map 128 v1 r1.1]) (Splits.of [1] kr rfl) (Entl.objOpen hq2) ?_
    rintro ⟨b4, hd3, hd4⟩ hv1
    subst hv1
    show TO _ _ _ _ _ _ _ _ _ _ [cells b1 [.int .i64 0, .int .i64 0] 26, emp, cells b3 [.string ByteArray.empty, .slice none 0 0, .slice none 0 0, .string text1] 93, cells b4 [.string p4.text, hd3.v, hd4.v] 128, vec enc_Gapi_Place 130 5 hd3.v p4.places, vec enc_Gplace_ended 132 4 hd4.v p4.lines]
    obtain ⟨r2, hq3, h⟩ := andE h
    refine TO.callPR (v := .int .i64 r2) (vs := [.pointer (some ⟨b4, 0, none⟩)]) (Rd.nil : Rd _ _ []) rfl dc rfl rfl rfl en_46 (place_Map_Lines_fn (bm1 := b4) (m1 := p4) (m1_h0 := hd3) (m1_h1 := hd4) hq3) (.own (Splits.of [3] (by kernel_rfl) rfl) (fun _ _ h => sepL.one1.1 h) (.own (Splits.of [4] (by kernel_rfl) rfl) (fun _ _ h => sepL.one1.1 h) (.own (Splits.of [5] (by kernel_rfl) rfl) (fun _ _ h => sepL.one1.1 h) .nil))) ?_
    refine TO.move rfl dc rfl (TO.nil (TX.next (TC.block (TC.newVec (enc := enc_Gapi_Verse) (e := 36) (size := 6) ?_))))
    show TC _ _ _ _ _ _ _ _ _ [cells b1 [.int .i64 0, .int .i64 0] 26, emp, cells b3 [.string ByteArray.empty, .slice none 0 0, .slice none 0 0, .string text1] 93, cells b4 [.string p4.text, hd3.v, hd4.v] 128, vec enc_Gapi_Place 130 5 hd3.v p4.places, vec enc_Gplace_ended 132 4 hd4.v p4.lines, vec enc_Gapi_Verse 36 6 (.slice none 0 0) ([] : List Gapi_Verse)]
    refine TC.newVec (enc := enc_Gapi_Span) (e := 34) (size := 2) ?_
    show TC _ _ _ _ _ _ _ _ _ [cells b1 [.int .i64 0, .int .i64 0] 26, emp, cells b3 [.string ByteArray.empty, (.slice none 0 0), .slice none 0 0, .string text1] 93, cells b4 [.string p4.text, hd3.v, hd4.v] 128, vec enc_Gapi_Place 130 5 hd3.v p4.places, vec enc_Gplace_ended 132 4 hd4.v p4.lines, vec enc_Gapi_Verse 36 6 (.slice none 0 0) ([] : List Gapi_Verse), vec enc_Gapi_Span 34 2 (.slice none 0 0) ([] : List Gapi_Span)]
    refine TC.loopD (β := Nat × ByteArray × (List Gapi_Verse) × (List Gapi_Span) × Bool × Bool × Int × Hd × Hd) (fun b => loopG (fun _ _ _ _ _ _ => none) (poem_Read_s1 text1 j1 p4 r2) b.1 b.2.1 b.2.2.1 b.2.2.2.1 b.2.2.2.2.1 b.2.2.2.2.2.1 b.2.2.2.2.2.2.1 = some r) (fun b => []) (fun b => [(0, .string text1), (3, .pointer (some ⟨b1, 0, none⟩)), (4, .pointer (some ⟨b4, 0, none⟩)), (6, .pointer (some ⟨b3, 0, none⟩)), (7, .bool b.2.2.2.2.1), (8, .bool b.2.2.2.2.2.1), (30, .int .i64 r2), (31, .int .i64 b.2.2.2.2.2.2.1)]) (fun b => [cells b1 [.int .i64 0, .int .i64 0] 26, cells b4 [.string p4.text, hd3.v, hd4.v] 128, vec enc_Gapi_Place 130 5 hd3.v p4.places, vec enc_Gplace_ended 132 4 hd4.v p4.lines, cells b3 [.string b.2.1, b.2.2.2.2.2.2.2.1.v, b.2.2.2.2.2.2.2.2.v, .string text1] 93, vec enc_Gapi_Verse 36 6 b.2.2.2.2.2.2.2.1.v b.2.2.1, vec enc_Gapi_Span 34 2 b.2.2.2.2.2.2.2.2.v b.2.2.2.1]) (fun b => b.1) (fuel, ByteArray.empty, ([] : List Gapi_Verse), ([] : List Gapi_Span), true, false, 0, Hd.nil, Hd.nil) h rfl (Sbs.cons rfl (Sbs.cons rfl (Sbs.cons rfl (Sbs.cons rfl (Sbs.cons rfl (Sbs.cons rfl (Sbs.cons rfl (Sbs.cons rfl (Sbs.nil))))))))) (Splits.of [0, 3, 4, 5, 2, 6, 7] kr rfl) ?_
    rintro ⟨n1, p14, p15, p16, first3, row3, x3, hd10, hd11⟩ h
    cases n1 with
    | zero => exact noneE h
    | succ n1 =>
     obtain ⟨ag1, hag1⟩ : ∃ ag, ag = loopG (fun _ _ _ _ _ _ => none) (poem_Read_s1 text1 j1 p4 r2) n1 := ⟨_, rfl⟩
     have h : poem_Read_s1 text1 j1 p4 r2 ag1 p14 p15 p16 first3 row3 x3 = some r := by rw [hag1]; exact h
     unfold poem_Read_s1 at h
     show TC _ _ _ _ _ ([]) _ _ [(0, .string text1), (3, .pointer (some ⟨b1, 0, none⟩)), (4, .pointer (some ⟨b4, 0, none⟩)), (6, .pointer (some ⟨b3, 0, none⟩)), (7, .bool first3), (8, .bool row3), (30, .int .i64 r2), (31, .int .i64 x3)] [cells b1 [.int .i64 0, .int .i64 0] 26, cells b4 [.string p4.text, hd3.v, hd4.v] 128, vec enc_Gapi_Place 130 5 hd3.v p4.places, vec enc_Gplace_ended 132 4 hd4.v p4.lines, cells b3 [.string p14, hd10.v, hd11.v, .string text1] 93, vec enc_Gapi_Verse 36 6 hd10.v p15, vec enc_Gapi_Span 34 2 hd11.v p16]
     refine TC.seq (TC.region (TO.bin rfl dc rfl rfl bin_lss (TO.nil (TX.next (TC.seq ?_)))))
     refine TC.condB rfl (fun hb2 => ?_) (fun hb2 => ?_)
     ·
      have h := condT hb2 h
      refine TC.skip (TX.next ?_)
      obtain ⟨j2, hj2, h⟩ := joinE h
      refine TC.cutN (β := ByteArray × (List Gapi_Verse) × (List Gapi_Span) × Bool × Bool × Hd × Hd) 0 rfl (fun b => j2 b.1 b.2.1 b.2.2.1 b.2.2.2.1 b.2.2.2.2.1 = some r) (fun b => []) (fun b => [(0, .string text1), (3, .pointer (some ⟨b1, 0, none⟩)), (4, .pointer (some ⟨b4, 0, none⟩)), (6, .pointer (some ⟨b3, 0, none⟩)), (7, .bool b.2.2.2.1), (8, .bool b.2.2.2.2.1), (30, .int .i64 r2), (31, .int .i64 x3)]) (fun b => [cells b1 [.int .i64 0, .int .i64 0] 26, cells b4 [.string p4.text, hd3.v, hd4.v] 128, vec enc_Gapi_Place 130 5 hd3.v p4.places, vec enc_Gplace_ended 132 4 hd4.v p4.lines, cells b3 [.string b.1, b.2.2.2.2.2.1.v, b.2.2.2.2.2.2.v, .string text1] 93, vec enc_Gapi_Verse 36 6 b.2.2.2.2.2.1.v b.2.1, vec enc_Gapi_Span 34 2 b.2.2.2.2.2.2.v b.2.2.1]) (fun cut => ?_) ?_
      ·
       refine cut (TC.block ?_)
       obtain ⟨j3, hj3, h⟩ := joinE h
       refine TC.cutN (β := Int × Int × ByteArray × Nat) 3 rfl (fun b => j3 b.1 b.2.1 b.2.2.1 = some r) (fun b => []) (fun b => [(0, .string text1), (3, .pointer (some ⟨b1, 0, none⟩)), (4, .pointer (some ⟨b4, 0, none⟩)), (6, .pointer (some ⟨b3, 0, none⟩)), (8, .bool row3), (10, .pointer (some ⟨b.2.2.2, 0, none⟩)), (13, .string b.2.2.1), (30, .int .i64 r2), (31, .int .i64 x3)]) (fun b => [cells b1 [.int .i64 0, .int .i64 0] 26, cells b4 [.string p4.text, hd3.v, hd4.v] 128, vec enc_Gapi_Place 130 5 hd3.v p4.places, vec enc_Gplace_ended 132 4 hd4.v p4.lines, cells b3 [.string p14, hd10.v, hd11.v, .string text1] 93, vec enc_Gapi_Verse 36 6 hd10.v p15, vec enc_Gapi_Span 34 2 hd11.v p16, cells b.2.2.2 [.int .i64 b.1, .int .i64 b.2.1] 34]) (fun cut => ?_) ?_
       ·
        refine TC.seq (TC.region (TO.move rfl dc rfl (TO.assign rfl dc rfl (TO.nil (TX.next (TC.seq (TC.region (TO.move rfl dc rfl (TO.move rfl dc rfl ?_)))))))))
        obtain ⟨r3, hq4, h⟩ := andE h
        refine TO.callPR (v := .tuple #[.agg #[.int .i64 r3.1.From, .int .i64 r3.1.To], .int .i64 r3.2.1, .int .i64 r3.2.2]) (vs := [.pointer (some ⟨b4, 0, none⟩), .int .i64 x3]) (Rd.nil : Rd _ _ []) rfl dc rfl rfl rfl en_47 (place_Map_Span_fn (bm1 := b4) (m1 := p4) (m1_h0 := hd3) (m1_h1 := hd4) hq4) (.own (Splits.of [1] (by kernel_rfl) rfl) (fun _ _ h => sepL.one1.1 h) (.own (Splits.of [2] (by kernel_rfl) rfl) (fun _ _ h => sepL.one1.1 h) (.own (Splits.of [3] (by kernel_rfl) rfl) (fun _ _ h => sepL.one1.1 h) .nil))) ?_
        refine TO.move rfl dc rfl (TO.extract rfl dc rfl rfl (TO.extract rfl dc rfl rfl (TO.extract rfl dc rfl rfl ?_)))
        refine TO.alloc zr_34 rfl dc (fun b6 => ?_)
        refine TO.stores (k := 7) (vs := [.int .i64 r3.1.From, .int .i64 r3.1.To]) (l' := [.int .i64 r3.1.From, .int .i64 r3.1.To]) sz_34 rfl rfl rfl rfl rfl (show _ ≤ _ by simp) rfl rfl ?_
        show TO _ _ _ _ _ _ _ _ _ _ [cells b1 [.int .i64 0, .int .i64 0] 26, cells b4 [.string p4.text, hd3.v, hd4.v] 128, vec enc_Gapi_Place 130 5 hd3.v p4.places, vec enc_Gplace_ended 132 4 hd4.v p4.lines, cells b3 [.string p14, hd10.v, hd11.v, .string text1] 93, vec enc_Gapi_Verse 36 6 hd10.v p15, vec enc_Gapi_Span 34 2 hd11.v p16, cells b6 [.int .i64 r3.1.From, .int .i64 r3.1.To] 34]
        refine TO.assign rfl dc rfl (TO.assign rfl dc rfl (TO.nil (TX.next (TC.seq (TC.region (TO.move rfl dc rfl (TO.fieldAddr fl_34_0 rfl dc rfl (show _ = 0 from rfl) (TO.load (k := 7) sc_3 rfl dc rfl rfl rfl (TO.fieldAddr fl_34_1 rfl dc rfl (show _ = 1 from rfl) (TO.load (k := 7) sc_3 rfl dc rfl rfl rfl ?_))))))))))
        obtain ⟨hg1, h⟩ := grdE h
        refine TO.slice rfl dc rfl rfl rfl (slice_stringI (i := r3.1.From) (j := r3.1.To) Tryd.underlying9 (.inr rfl) (.inr rfl) hg1) (TO.assign rfl dc rfl (TO.nil (TX.next (cut (TC.block (TC.seq (TC.region (TO.move rfl dc rfl ?_))))))))
        obtain ⟨r4, hq5, h⟩ := andE h
        refine TO.callP (v := .bool r4) (vs := [.string (cutB text1 r3.1.From r3.1.To)]) rfl dc rfl rfl rfl en_48 (poem_empty_fn hq5) (TO.assign rfl dc rfl (TO.nil (TX.next ?_)))
        refine TC.condB rfl (fun hb3 => ?_) (fun hb3 => ?_)
        ·
         have h := condT hb3 h
         refine TC.seq (TC.region (TO.assign rfl dc rfl (TO.nil (TX.next (TC.exit (TX.blockOn dc (TX.thenExit (TX.blockHere ?_))))))))
         exact TX.meetD (p14, p15, p16, first3, false, hd10, hd11) h rfl (Sbs.cons rfl (Sbs.cons rfl (Sbs.cons rfl (Sbs.cons rfl (Sbs.cons rfl (Sbs.cons rfl (Sbs.cons rfl (Sbs.cons rfl (Sbs.nil))))))))) (Splits.of [0, 1, 2, 3, 4, 5, 6] kr rfl)
        ·
         have h := condF hb3 h
         refine TC.seq (TC.region (TO.move rfl dc rfl (TO.lenStr rfl dc rfl Tryd.underlying9 (TO.bin rfl dc rfl rfl bin_gtr (TO.assign rfl dc rfl (TO.nil (TX.next ?_)))))))
         refine TC.condB rfl (fun hb4 => ?_) (fun hb4 => ?_)
         ·
          have h := condT hb4 h
          refine TC.seq ?_
          obtain ⟨hg2, h⟩ := grdE h
          refine TC.drawN 5 [(0, 54, .pointer (some ⟨b6, 0, none⟩)), (1, 55, .int .i64 r3.1.From), (2, 56, .int .i64 (r3.1.From + 1024)), (3, 57, .agg #[.int .i64 3, .int .i64 (r3.1.From + 1024)]), (4, 2, .pointer none)] mixed kr kr dc (by rfl) kr kr (DrawPre.cons ?_ (DrawPre.cons ?_ (DrawPre.cons ?_ (DrawPre.cons ?_ (DrawPre.cons ?_ DrawPre.nil))))) ?_
          ·
           intro D hn hd hcl hu hi
           refine TO.fieldAddr fl_34_0 rfl dc (dl_old (by rfl) rfl) (show _ = 0 from rfl) ?_
           exact TX.quiet 0 hu hi rfl
          ·
           intro D hn hd hcl hu hi
           refine TO.load (k := 7) sc_3 rfl dc (dl_lookup (m := 0) hu rfl (hd 0 dc)) rfl rfl ?_
           exact TX.quiet 1 hu hi rfl
          ·
           intro D hn hd hcl hu hi
           refine TO.bin rfl dc (dl_lookup (m := 1) hu rfl (hd 1 dc)) rfl (bin_add (r := r3.1.From + 1024) (IntWalk.i64_in _ hg2)) ?_
           exact TX.quiet 2 hu hi rfl
          ·
           intro D hn hd hcl hu hi
           refine TO.build (v := .agg #[.int .i64 3, .int .i64 (r3.1.From + 1024)]) (ps := [(0, .const (.int .i64 3)), (1, .tmp 56)]) rfl dc (evP.cons rfl (evP.cons (dl_lookup (m := 2) hu rfl (hd 2 dc)) evP.nil)) (fun _ => by kernel_rfl) ?_
           exact TX.quiet 3 hu hi rfl
          ·
           intro D hn hd hcl hu hi
           refine TO.assign rfl dc rfl ?_
           exact TX.quiet 4 hu hi rfl
          refine TO.stores (k := 0) (vs := [.int .i64 3, .int .i64 (r3.1.From + 1024)]) (l' := [.int .i64 3, .int .i64 (r3.1.From + 1024)]) sz_26 rfl rfl rfl rfl rfl (show _ ≤ _ by simp) rfl rfl (TO.nil (TX.next (TC.ret (TX.blockRet (TX.thenRet (TX.blockRet (TX.thenRet (TX.thenRet (TX.blockRet (TX.thenRet (TX.jumpOn (by simp) (TX.newObj encN_Gpoem_Poem nest_Gpoem_Poem 93 ?_))))))))))))
          show TX _ _ _ _ _ _ _ [cells b1 [.int .i64 3, .int .i64 (r3.1.From + 1024)] 26, cells b4 [.string p4.text, hd3.v, hd4.v] 128, vec enc_Gapi_Place 130 5 hd3.v p4.places, vec enc_Gplace_ended 132 4 hd4.v p4.lines, cells b3 [.string p14, hd10.v, hd11.v, .string text1] 93, vec enc_Gapi_Verse 36 6 hd10.v p15, vec enc_Gapi_Span 34 2 hd11.v p16, cells b6 [.int .i64 r3.1.From, .int .i64 r3.1.To] 34, pobj encN_Gpoem_Poem nest_Gpoem_Poem 93 (.pointer none) none]
          cases h
          exact TX.fin (rs := [.tmp 2, .cell 3 26]) (.pointer none) (.inl rfl) Tryd.results13 (.cons (.tmp rfl) (.cons (.cells rw_26 (k := 0) rfl rfl rfl) .nil)) rfl (Splits.of [8] kr rfl)
         ·
          have h := condF hb4 h
          refine TC.seq (TC.region (TO.move rfl dc rfl (TO.move rfl dc rfl ?_)))
          refine TO.split (s := 60) rfl (fun hb5 => ?_) (fun hb5 => ?_)
          ·
           have h := condT hb5 h
           refine TO.move rfl dc rfl ?_
           obtain ⟨r5, hq6, h⟩ := andE h
           refine TO.callP (v := .bool r5) (vs := [.string (cutB text1 r3.1.From r3.1.To)]) rfl dc rfl rfl rfl en_49 (poem_titled_fn hq6) (TO.pick (b := true) rfl dc rfl rfl (TO.assign rfl dc rfl (TO.nil (TX.next ?_))))
           refine TC.condB rfl (fun hb6 => ?_) (fun hb6 => ?_)
           ·
            have h := condT hb6 h
            refine TC.seq (TC.region (TO.assign rfl dc rfl (TO.nil (TX.next (TC.seq (TC.region (TO.move rfl dc rfl (TO.move rfl dc rfl ?_))))))))
            obtain ⟨hg3, h⟩ := grdE h
            refine TO.slice rfl dc rfl rfl rfl (slice_stringI (i := 1) (j := ((cutB text1 r3.1.From r3.1.To).size : Int)) Tryd.underlying9 (.inr rfl) (.inl ⟨rfl, rfl⟩) hg3) ?_
            obtain ⟨r6, hq7, h⟩ := andE h
            refine TO.callP (v := .string r6) (vs := [.string (cutB (cutB text1 r3.1.From r3.1.To) 1 ((cutB text1 r3.1.From r3.1.To).size : Int)), .string (⟨#[32]⟩ : ByteArray)]) rfl dc rfl rfl rfl en_50 (strings_TrimPrefix_fn hq7) (TO.nilCheck rfl dc rfl (TO.fieldAddr fl_93_0 rfl dc rfl (show _ = 0 from rfl) (TO.fieldAddr fl_91_0 rfl dc rfl (show _ = 0 from rfl) ?_)))
            refine TO.store (k := 4) (l' := [.string r6, hd10.v, hd11.v, .string text1]) sz_9 rfl rfl rfl rfl rfl (fun _ _ => rfl) rfl ?_
            refine TO.nil (TX.next (TC.exit (TX.blockOn dc (TX.thenExit (TX.blockHere ?_)))))
            exact TX.meetD (r6, p15, p16, false, row3, hd10, hd11) h rfl (Sbs.cons rfl (Sbs.cons rfl (Sbs.cons rfl (Sbs.cons rfl (Sbs.cons rfl (Sbs.cons rfl (Sbs.cons rfl (Sbs.cons rfl (Sbs.nil))))))))) (Splits.of [0, 1, 2, 3, 4, 5, 6] kr rfl)
           ·
            have h := condF hb6 h
            refine TC.seq (TC.region (TO.move rfl dc rfl (TO.nilCheck rfl dc rfl (TO.fieldAddr fl_93_0 rfl dc rfl (show _ = 0 from rfl) (TO.fieldAddr fl_91_1 rfl dc rfl (show _ = 1 from rfl) (TO.load (k := 4) sc_57 rfl dc rfl rfl rfl (TO.lenVec (k := 5) rfl dc rfl rfl Tryd.underlying57 (TO.bin rfl dc rfl rfl bin_eql (TO.assign rfl dc rfl (TO.nil (TX.next ?_)))))))))))
            refine TC.condB rfl (fun hb7 => ?_) (fun hb7 => ?_)
            ·
             have h := condT hb7 h
             refine TC.seq ?_
             refine TC.drawN 4 [(0, 79, .pointer (some ⟨b6, 0, none⟩)), (1, 80, .int .i64 r3.1.From), (2, 81, .agg #[.int .i64 3, .int .i64 r3.1.From]), (3, 2, .pointer none)] mixed kr kr dc (by rfl) kr kr (DrawPre.cons ?_ (DrawPre.cons ?_ (DrawPre.cons ?_ (DrawPre.cons ?_ DrawPre.nil)))) ?_
             ·
              intro D hn hd hcl hu hi
              refine TO.fieldAddr fl_34_0 rfl dc (dl_old (by rfl) rfl) (show _ = 0 from rfl) ?_
              exact TX.quiet 0 hu hi rfl
             ·
              intro D hn hd hcl hu hi
              refine TO.load (k := 7) sc_3 rfl dc (dl_lookup (m := 0) hu rfl (hd 0 dc)) rfl rfl ?_
              exact TX.quiet 1 hu hi rfl
             ·
              intro D hn hd hcl hu hi
              refine TO.build (v := .agg #[.int .i64 3, .int .i64 r3.1.From]) (ps := [(0, .const (.int .i64 3)), (1, .tmp 80)]) rfl dc (evP.cons rfl (evP.cons (dl_lookup (m := 1) hu rfl (hd 1 dc)) evP.nil)) (fun _ => by kernel_rfl) ?_
              exact TX.quiet 2 hu hi rfl
             ·
              intro D hn hd hcl hu hi
              refine TO.assign rfl dc rfl ?_
              exact TX.quiet 3 hu hi rfl
             refine TO.stores (k := 0) (vs := [.int .i64 3, .int .i64 r3.1.From]) (l' := [.int .i64 3, .int .i64 r3.1.From]) sz_26 rfl rfl rfl rfl rfl (show _ ≤ _ by simp) rfl rfl (TO.nil (TX.next (TC.ret (TX.blockRet (TX.thenRet (TX.blockRet (TX.thenRet (TX.thenRet (TX.blockRet (TX.thenRet (TX.jumpOn (by simp) (TX.newObj encN_Gpoem_Poem nest_Gpoem_Poem 93 ?_))))))))))))
             show TX _ _ _ _ _ _ _ [cells b1 [.int .i64 3, .int .i64 r3.1.From] 26, cells b4 [.string p4.text, hd3.v, hd4.v] 128, vec enc_Gapi_Place 130 5 hd3.v p4.places, vec enc_Gplace_ended 132 4 hd4.v p4.lines, cells b3 [.string p14, hd10.v, hd11.v, .string text1] 93, vec enc_Gapi_Verse 36 6 hd10.v p15, vec enc_Gapi_Span 34 2 hd11.v p16, cells b6 [.int .i64 r3.1.From, .int .i64 r3.1.To] 34, pobj encN_Gpoem_Poem nest_Gpoem_Poem 93 (.pointer none) none]
             cases h
             exact TX.fin (rs := [.tmp 2, .cell 3 26]) (.pointer none) (.inl rfl) Tryd.results13 (.cons (.tmp rfl) (.cons (.cells rw_26 (k := 0) rfl rfl rfl) .nil)) rfl (Splits.of [8] kr rfl)
            ·
             have h := condF hb7 h
             refine TC.skip (TX.blockNormal ?_)
             exact TX.meetD (r3.1.From, r3.1.To, cutB text1 r3.1.From r3.1.To, b6) h rfl (Sbs.cons rfl (Sbs.cons rfl (Sbs.cons rfl (Sbs.cons rfl (Sbs.cons rfl (Sbs.cons rfl (Sbs.cons rfl (Sbs.cons rfl (Sbs.cons rfl (Sbs.nil)))))))))) (Splits.of [0, 1, 2, 3, 4, 5, 6, 7] kr rfl)
          ·
           have h := condF hb5 h
           refine TO.skip rfl dc (TO.skip rfl dc (TO.pick (b := false) rfl dc rfl rfl (TO.assign rfl dc rfl (TO.nil (TX.next (TC.condF rfl (TC.seq (TC.region (TO.move rfl dc rfl (TO.nilCheck rfl dc rfl (TO.fieldAddr fl_93_0 rfl dc rfl (show _ = 0 from rfl) (TO.fieldAddr fl_91_1 rfl dc rfl (show _ = 1 from rfl) (TO.load (k := 4) sc_57 rfl dc rfl rfl rfl ?_)))))))))))))
           refine TO.lenVec (k := 5) rfl dc rfl rfl Tryd.underlying57 (TO.bin rfl dc rfl rfl bin_eql (TO.assign rfl dc rfl (TO.nil (TX.next ?_))))
           refine TC.condB rfl (fun hb8 => ?_) (fun hb8 => ?_)
           ·
            have h := condT hb8 h
            refine TC.seq ?_
            refine TC.drawN 4 [(0, 79, .pointer (some ⟨b6, 0, none⟩)), (1, 80, .int .i64 r3.1.From), (2, 81, .agg #[.int .i64 3, .int .i64 r3.1.From]), (3, 2, .pointer none)] mixed kr kr dc (by rfl) kr kr (DrawPre.cons ?_ (DrawPre.cons ?_ (DrawPre.cons ?_ (DrawPre.cons ?_ DrawPre.nil)))) ?_
            ·
             intro D hn hd hcl hu hi
             refine TO.fieldAddr fl_34_0 rfl dc (dl_old (by rfl) rfl) (show _ = 0 from rfl) ?_
             exact TX.quiet 0 hu hi rfl
            ·
             intro D hn hd hcl hu hi
             refine TO.load (k := 7) sc_3 rfl dc (dl_lookup (m := 0) hu rfl (hd 0 dc)) rfl rfl ?_
             exact TX.quiet 1 hu hi rfl
            ·
             intro D hn hd hcl hu hi
             refine TO.build (v := .agg #[.int .i64 3, .int .i64 r3.1.From]) (ps := [(0, .const (.int .i64 3)), (1, .tmp 80)]) rfl dc (evP.cons rfl (evP.cons (dl_lookup (m := 1) hu rfl (hd 1 dc)) evP.nil)) (fun _ => by kernel_rfl) ?_
             exact TX.quiet 2 hu hi rfl
            ·
             intro D hn hd hcl hu hi
             refine TO.assign rfl dc rfl ?_
             exact TX.quiet 3 hu hi rfl
            refine TO.stores (k := 0) (vs := [.int .i64 3, .int .i64 r3.1.From]) (l' := [.int .i64 3, .int .i64 r3.1.From]) sz_26 rfl rfl rfl rfl rfl (show _ ≤ _ by simp) rfl rfl (TO.nil (TX.next (TC.ret (TX.blockRet (TX.thenRet (TX.blockRet (TX.thenRet (TX.thenRet (TX.blockRet (TX.thenRet (TX.jumpOn (by simp) (TX.newObj encN_Gpoem_Poem nest_Gpoem_Poem 93 ?_))))))))))))
            show TX _ _ _ _ _ _ _ [cells b1 [.int .i64 3, .int .i64 r3.1.From] 26, cells b4 [.string p4.text, hd3.v, hd4.v] 128, vec enc_Gapi_Place 130 5 hd3.v p4.places, vec enc_Gplace_ended 132 4 hd4.v p4.lines, cells b3 [.string p14, hd10.v, hd11.v, .string text1] 93, vec enc_Gapi_Verse 36 6 hd10.v p15, vec enc_Gapi_Span 34 2 hd11.v p16, cells b6 [.int .i64 r3.1.From, .int .i64 r3.1.To] 34, pobj encN_Gpoem_Poem nest_Gpoem_Poem 93 (.pointer none) none]
            cases h
            exact TX.fin (rs := [.tmp 2, .cell 3 26]) (.pointer none) (.inl rfl) Tryd.results13 (.cons (.tmp rfl) (.cons (.cells rw_26 (k := 0) rfl rfl rfl) .nil)) rfl (Splits.of [8] kr rfl)
           ·
            have h := condF hb8 h
            refine TC.skip (TX.blockNormal ?_)
            exact TX.meetD (r3.1.From, r3.1.To, cutB text1 r3.1.From r3.1.To, b6) h rfl (Sbs.cons rfl (Sbs.cons rfl (Sbs.cons rfl (Sbs.cons rfl (Sbs.cons rfl (Sbs.cons rfl (Sbs.cons rfl (Sbs.cons rfl (Sbs.cons rfl (Sbs.nil)))))))))) (Splits.of [0, 1, 2, 3, 4, 5, 6, 7] kr rfl)
       ·
        rintro ⟨span1, span2, line1, b5⟩ h
        rw [hj3] at h
        show TC _ _ _ _ _ ([]) _ _ [(0, .string text1), (3, .pointer (some ⟨b1, 0, none⟩)), (4, .pointer (some ⟨b4, 0, none⟩)), (6, .pointer (some ⟨b3, 0, none⟩)), (8, .bool row3), (10, .pointer (some ⟨b5, 0, none⟩)), (13, .string line1), (30, .int .i64 r2), (31, .int .i64 x3)] [cells b1 [.int .i64 0, .int .i64 0] 26, cells b4 [.string p4.text, hd3.v, hd4.v] 128, vec enc_Gapi_Place 130 5 hd3.v p4.places, vec enc_Gplace_ended 132 4 hd4.v p4.lines, cells b3 [.string p14, hd10.v, hd11.v, .string text1] 93, vec enc_Gapi_Verse 36 6 hd10.v p15, vec enc_Gapi_Span 34 2 hd11.v p16, cells b5 [.int .i64 span1, .int .i64 span2] 34]
        obtain ⟨j4, hj4, h⟩ := joinE h
        refine TC.cutN (β := (List Gapi_Span) × Hd) 2 rfl (fun b => j4 b.1 = some r) (fun b => []) (fun b => [(0, .string text1), (3, .pointer (some ⟨b1, 0, none⟩)), (4, .pointer (some ⟨b4, 0, none⟩)), (6, .pointer (some ⟨b3, 0, none⟩)), (7, .bool false), (10, .pointer (some ⟨b5, 0, none⟩)), (13, .string line1), (14, .int .i64 (p15.length : Int)), (30, .int .i64 r2), (31, .int .i64 x3)]) (fun b => [cells b1 [.int .i64 0, .int .i64 0] 26, cells b4 [.string p4.text, hd3.v, hd4.v] 128, vec enc_Gapi_Place 130 5 hd3.v p4.places, vec enc_Gplace_ended 132 4 hd4.v p4.lines, cells b3 [.string p14, hd10.v, b.2.v, .string text1] 93, vec enc_Gapi_Verse 36 6 hd10.v p15, vec enc_Gapi_Span 34 2 b.2.v b.1, cells b5 [.int .i64 span1, .int .i64 span2] 34]) (fun cut => ?_) ?_
        ·
         refine TC.seq (TC.region (TO.assign rfl dc rfl (TO.nil (TX.next (TC.seq (TC.region (TO.move rfl dc rfl (TO.nilCheck rfl dc rfl (TO.fieldAddr fl_93_0 rfl dc rfl (show _ = 0 from rfl) (TO.fieldAddr fl_91_1 rfl dc rfl (show _ = 1 from rfl) (TO.load (k := 4) sc_57 rfl dc rfl rfl rfl (TO.lenVec (k := 5) rfl dc rfl rfl Tryd.underlying57 (TO.assign rfl dc rfl ?_)))))))))))))
         refine TO.nil (TX.next (cut (TC.seq (TC.region (TO.move rfl dc rfl (TO.un rfl dc rfl un_not (TO.nil (TX.next ?_))))))))
         refine TC.condB rfl (fun hb9 => ?_) (fun hb9 => ?_)
         ·
          have h := condT hb9 h
          refine TC.region (TO.move rfl dc rfl (TO.move rfl dc rfl (TO.nilCheck rfl dc rfl (TO.fieldAddr fl_93_0 rfl dc rfl (show _ = 0 from rfl) (TO.fieldAddr fl_91_2 rfl dc rfl (show _ = 2 from rfl) (TO.load (k := 4) sc_89 rfl dc rfl rfl rfl (TO.move rfl dc rfl (TO.move rfl dc rfl ?_))))))))
          refine TO.build (v := .agg #[.int .i64 (p15.length : Int), .int .i64 (p15.length : Int)]) (ps := [(0, .tmp 96), (1, .tmp 97)]) rfl dc rfl (fun _ => by kernel_rfl) ?_
          refine TO.buildSlice (cs := [.int .i64 (p15.length : Int), .int .i64 (p15.length : Int)]) (te := 34) (ps := [(0, .tmp 98)]) rfl dc rfl (fun _ => by kernel_rfl) (fun b7 => ?_)
          obtain ⟨hg4, h⟩ := grdE h
          refine TO.appendVec (k := 6) (k2 := 8) (ys := [(⟨(p15.length : Int), (p15.length : Int)⟩ : Gapi_Span)]) Tryd.underlying89 el_34 enc_Gapi_Span_len enc_Gapi_Span_one rfl dc rfl rfl rfl rfl rfl rfl hg4 (fun v2 => ?_)
          refine TO.nameHd (k := 6) rfl (fun hd15 he1 => ?_)
          subst he1
          show TO _ _ _ _ _ _ _ _ _ _ [cells b1 [.int .i64 0, .int .i64 0] 26, cells b4 [.string p4.text, hd3.v, hd4.v] 128, vec enc_Gapi_Place 130 5 hd3.v p4.places, vec enc_Gplace_ended 132 4 hd4.v p4.lines, cells b3 [.string p14, hd10.v, hd11.v, .string text1] 93, vec enc_Gapi_Verse 36 6 hd10.v p15, vec enc_Gapi_Span 34 2 hd15.v (p16 ++ [(⟨(p15.length : Int), (p15.length : Int)⟩ : Gapi_Span)]), cells b5 [.int .i64 span1, .int .i64 span2] 34, cells b7 [.int .i64 (p15.length : Int), .int .i64 (p15.length : Int)] 34]
          refine TO.nilCheck rfl dc rfl (TO.fieldAddr fl_93_0 rfl dc rfl (show _ = 0 from rfl) (TO.fieldAddr fl_91_2 rfl dc rfl (show _ = 2 from rfl) ?_))
          refine TO.store (k := 4) (l' := [.string p14, hd10.v, hd15.v, .string text1]) sz_89 rfl rfl rfl rfl rfl (fun _ _ => rfl) rfl ?_
          refine TO.nil ?_
          exact TX.meetD (p16 ++ [(⟨(p15.length : Int), (p15.length : Int)⟩ : Gapi_Span)], hd15) h rfl (Sbs.cons rfl (Sbs.cons rfl (Sbs.cons rfl (Sbs.cons rfl (Sbs.cons rfl (Sbs.cons rfl (Sbs.cons rfl (Sbs.cons rfl (Sbs.cons rfl (Sbs.cons rfl (Sbs.nil))))))))))) (Splits.of [0, 1, 2, 3, 4, 5, 6, 7] kr rfl)
         ·
          have h := condF hb9 h
          refine TC.skip ?_
          exact TX.meetD (p16, hd11) h rfl (Sbs.cons rfl (Sbs.cons rfl (Sbs.cons rfl (Sbs.cons rfl (Sbs.cons rfl (Sbs.cons rfl (Sbs.cons rfl (Sbs.cons rfl (Sbs.cons rfl (Sbs.cons rfl (Sbs.nil))))))))))) (Splits.of [0, 1, 2, 3, 4, 5, 6, 7] kr rfl)
        ·
         rintro ⟨p20, hd14⟩ h
         rw [hj4] at h
         show TC _ _ _ _ _ ([]) _ _ [(0, .string text1), (3, .pointer (some ⟨b1, 0, none⟩)), (4, .pointer (some ⟨b4, 0, none⟩)), (6, .pointer (some ⟨b3, 0, none⟩)), (7, .bool false), (10, .pointer (some ⟨b5, 0, none⟩)), (13, .string line1), (14, .int .i64 (p15.length : Int)), (30, .int .i64 r2), (31, .int .i64 x3)] [cells b1 [.int .i64 0, .int .i64 0] 26, cells b4 [.string p4.text, hd3.v, hd4.v] 128, vec enc_Gapi_Place 130 5 hd3.v p4.places, vec enc_Gplace_ended 132 4 hd4.v p4.lines, cells b3 [.string p14, hd10.v, hd14.v, .string text1] 93, vec enc_Gapi_Verse 36 6 hd10.v p15, vec enc_Gapi_Span 34 2 hd14.v p20, cells b5 [.int .i64 span1, .int .i64 span2] 34]
         refine TC.seq (TC.region (TO.assign rfl dc rfl (TO.nil (TX.next (TC.seq ?_)))))
         obtain ⟨hg5, h⟩ := grdE h
         obtain ⟨q1, hq8, h⟩ := andE h
         refine TC.drawN 12 [(0, 104, .pointer (some ⟨b3, 0, none⟩)), (1, 105, .pointer (some ⟨b3, 0, none⟩)), (2, 106, .pointer (some ⟨b3, 0, none⟩)), (3, 107, .pointer (some ⟨b3, 2, none⟩)), (4, 108, hd14.v), (5, 109, .pointer (some ⟨b3, 0, none⟩)), (6, 110, .pointer (some ⟨b3, 0, none⟩)), (7, 111, .pointer (some ⟨b3, 0, none⟩)), (8, 112, .pointer (some ⟨b3, 2, none⟩)), (9, 113, hd14.v), (10, 114, .int .i64 (p20.length : Int)), (11, 115, .int .i64 ((p20.length : Int) - 1))] mixed kr kr dc (by rfl) kr kr (DrawPre.cons ?_ (DrawPre.cons ?_ (DrawPre.cons ?_ (DrawPre.cons ?_ (DrawPre.cons ?_ (DrawPre.cons ?_ (DrawPre.cons ?_ (DrawPre.cons ?_ (DrawPre.cons ?_ (DrawPre.cons ?_ (DrawPre.cons ?_ (DrawPre.cons ?_ DrawPre.nil)))))))))))) ?_
         ·
          intro D hn hd hcl hu hi
          refine TO.move rfl dc (dl_old (by rfl) rfl) ?_
          exact TX.quiet 0 hu hi rfl
         ·
          intro D hn hd hcl hu hi
          refine TO.nilCheck rfl dc (dl_lookup (m := 0) hu rfl (hd 0 dc)) ?_
          exact TX.quiet 1 hu hi rfl
         ·
          intro D hn hd hcl hu hi
          refine TO.fieldAddr fl_93_0 rfl dc (dl_lookup (m := 1) hu rfl (hd 1 dc)) (show _ = 0 from rfl) ?_
          exact TX.quiet 2 hu hi rfl
         ·
          intro D hn hd hcl hu hi
          refine TO.fieldAddr fl_91_2 rfl dc (dl_lookup (m := 2) hu rfl (hd 2 dc)) (show _ = 2 from rfl) ?_
          exact TX.quiet 3 hu hi rfl
         ·
          intro D hn hd hcl hu hi
          refine TO.load (k := 4) sc_89 rfl dc (dl_lookup (m := 3) hu rfl (hd 3 dc)) rfl rfl ?_
          exact TX.quiet 4 hu hi rfl
         ·
          intro D hn hd hcl hu hi
          refine TO.move rfl dc (dl_old (by rfl) rfl) ?_
          exact TX.quiet 5 hu hi rfl
         ·
          intro D hn hd hcl hu hi
          refine TO.nilCheck rfl dc (dl_lookup (m := 5) hu rfl (hd 5 dc)) ?_
          exact TX.quiet 6 hu hi rfl
         ·
          intro D hn hd hcl hu hi
          refine TO.fieldAddr fl_93_0 rfl dc (dl_lookup (m := 6) hu rfl (hd 6 dc)) (show _ = 0 from rfl) ?_
          exact TX.quiet 7 hu hi rfl
         ·
          intro D hn hd hcl hu hi
          refine TO.fieldAddr fl_91_2 rfl dc (dl_lookup (m := 7) hu rfl (hd 7 dc)) (show _ = 2 from rfl) ?_
          exact TX.quiet 8 hu hi rfl
         ·
          intro D hn hd hcl hu hi
          refine TO.load (k := 4) sc_89 rfl dc (dl_lookup (m := 8) hu rfl (hd 8 dc)) rfl rfl ?_
          exact TX.quiet 9 hu hi rfl
         ·
          intro D hn hd hcl hu hi
          refine TO.lenVec (k := 6) rfl dc (dl_lookup (m := 9) hu rfl (hd 9 dc)) rfl Tryd.underlying89 ?_
          exact TX.quiet 10 hu hi rfl
         ·
          intro D hn hd hcl hu hi
          refine TO.bin rfl dc (dl_lookup (m := 10) hu rfl (hd 10 dc)) rfl (bin_sub (r := (p20.length : Int) - 1) (IntWalk.i64_in _ hg5)) ?_
          exact TX.quiet 11 hu hi rfl
         refine TO.indexVecI (k := 6) hq8 Tryd.underlying89 sz_34 rfl dc rfl rfl rfl rfl (TO.assign rfl dc rfl (TO.nil (TX.next (TC.seq (TC.region (TO.move rfl dc rfl ?_))))))
         obtain ⟨r7, hq9, h⟩ := andE h
         refine TO.callP (v := .int .i64 r7) (vs := [.string line1]) rfl dc rfl rfl rfl en_51 (poem_indent_fn hq9) (TO.assign rfl dc rfl (TO.nil (TX.next (TC.seq ?_))))
         obtain ⟨hg6, h⟩ := grdE h
         obtain ⟨hg7, h⟩ := grdE h
         obtain ⟨hg8, h⟩ := grdE h
         obtain ⟨hg9, h⟩ := grdE h
         obtain ⟨hg10, h⟩ := grdE h
         refine TC.pad 1 ?_
         show TC _ _ _ _ _ _ _ _ _ [cells b1 [.int .i64 0, .int .i64 0] 26, cells b4 [.string p4.text, hd3.v, hd4.v] 128, vec enc_Gapi_Place 130 5 hd3.v p4.places, vec enc_Gplace_ended 132 4 hd4.v p4.lines, cells b3 [.string p14, hd10.v, hd14.v, .string text1] 93, vec enc_Gapi_Verse 36 6 hd10.v p15, vec enc_Gapi_Span 34 2 hd14.v p20, cells b5 [.int .i64 span1, .int .i64 span2] 34, emp]
         refine let vals1 : (Nat × Hd) → List (Nat × Nat × Value) := fun b => [(0, 119, .pointer (some ⟨b3, 0, none⟩)), (1, 120, .pointer (some ⟨b3, 0, none⟩)), (2, 121, .pointer (some ⟨b3, 0, none⟩)), (3, 122, .pointer (some ⟨b3, 0, none⟩)), (4, 123, .pointer (some ⟨b3, 1, none⟩)), (5, 124, hd10.v), (6, 125, .string line1), (7, 126, .int .i64 r7), (8, 127, .string (cutB line1 r7 (line1.size : Int))), (9, 128, .int .i64 r7), (10, 129, .pointer (some ⟨b3, 0, none⟩)), (11, 130, .pointer (some ⟨b3, 0, none⟩)), (12, 131, .pointer (some ⟨b3, 0, none⟩)), (13, 132, .pointer (some ⟨b3, 2, none⟩)), (14, 133, hd14.v), (15, 134, .int .i64 (p20.length : Int)), (16, 135, .int .i64 ((p20.length : Int) - 1)), (17, 136, .int .i64 (p15.length : Int)), (18, 137, .pointer (some ⟨vblk hd14.v, ((p20.length : Int) - 1 : Int).toNat * 2, none⟩)), (19, 138, .pointer (some ⟨vblk hd14.v, ((p20.length : Int) - 1 : Int).toNat * 2, none⟩)), (20, 139, .pointer (some ⟨vblk hd14.v, (((p20.length : Int) - 1 : Int).toNat) * 2, none⟩)), (21, 140, .int .i64 q1.From), (22, 141, .int .i64 ((p15.length : Int) - q1.From)), (23, 142, .pointer (some ⟨b5, 0, none⟩)), (24, 143, .int .i64 span1), (25, 144, .int .i64 r7), (26, 145, .int .i64 (span1 + r7)), (27, 146, .pointer (some ⟨b5, 1, none⟩)), (28, 147, .int .i64 span2), (29, 148, .agg #[.int .i64 (span1 + r7), .int .i64 span2]), (30, 149, .agg #[.string (cutB line1 r7 (line1.size : Int)), .int .i64 r7, .int .i64 ((p20.length : Int) - 1), .int .i64 ((p15.length : Int) - q1.From), .int .i64 (span1 + r7), .int .i64 span2]), (31, 150, .slice (some ⟨b.1, 0, none⟩) 1 1), (32, 151, b.2.v)]; let LL1 : (Nat → Prop) → (Nat × Hd) → List Asn := fun D b => [cells b1 [.int .i64 0, .int .i64 0] 26, cells b4 [.string p4.text, hd3.v, hd4.v] 128, vec enc_Gapi_Place 130 5 hd3.v p4.places, vec enc_Gplace_ended 132 4 hd4.v p4.lines, cells b3 [.string p14, hd10.v, hd14.v, .string text1] 93, eD D (vec enc_Gapi_Verse 36 6 hd10.v p15) [(32, vec enc_Gapi_Verse 36 6 b.2.v (p15 ++ [(⟨cutB line1 r7 (line1.size : Int), r7, (p20.length : Int) - 1, (p15.length : Int) - q1.From, span1 + r7, span2⟩ : Gapi_Verse)]))], vec enc_Gapi_Span 34 2 hd14.v p20, cells b5 [.int .i64 span1, .int .i64 span2] 34, eD D emp [(31, cells b.1 [.string (cutB line1 r7 (line1.size : Int)), .int .i64 r7, .int .i64 ((p20.length : Int) - 1), .int .i64 ((p15.length : Int) - q1.From), .int .i64 (span1 + r7), .int .i64 span2] 36)]]; ?_
         refine TC.drawG (β := Nat × Hd) 33 ((0 : Nat), Hd.nil) vals1 LL1 mixed kr kr dc (fun _ => rfl) (cons_eq rfl (cons_eq rfl (cons_eq rfl (cons_eq rfl (cons_eq rfl (cons_eq eD_none (cons_eq rfl (cons_eq rfl (cons_eq eD_none rfl))))))))) (DrawG.cons ?_ (DrawG.cons ?_ (DrawG.cons ?_ (DrawG.cons ?_ (DrawG.cons ?_ (DrawG.cons ?_ (DrawG.cons ?_ (DrawG.cons ?_ (DrawG.cons ?_ (DrawG.cons ?_ (DrawG.cons ?_ (DrawG.cons ?_ (DrawG.cons ?_ (DrawG.cons ?_ (DrawG.cons ?_ (DrawG.cons ?_ (DrawG.cons ?_ (DrawG.cons ?_ (DrawG.cons ?_ (DrawG.cons ?_ (DrawG.cons ?_ (DrawG.cons ?_ (DrawG.cons ?_ (DrawG.cons ?_ (DrawG.cons ?_ (DrawG.cons ?_ (DrawG.cons ?_ (DrawG.cons ?_ (DrawG.cons ?_ (DrawG.cons ?_ (DrawG.cons ?_ (DrawG.cons ?_ (DrawG.cons ?_ DrawG.nil))))))))))))))))))))))))))))))))) ?_
         ·
          intro D b hn hd hcl
          obtain ⟨b8, hd16⟩ := b
          refine TO.rewL (L' := [cells b1 [.int .i64 0, .int .i64 0] 26, cells b4 [.string p4.text, hd3.v, hd4.v] 128, vec enc_Gapi_Place 130 5 hd3.v p4.places, vec enc_Gplace_ended 132 4 hd4.v p4.lines, cells b3 [.string p14, hd10.v, hd14.v, .string text1] 93, eD D (vec enc_Gapi_Verse 36 6 hd10.v p15) [(32, vec enc_Gapi_Verse 36 6 hd16.v (p15 ++ [(⟨cutB line1 r7 (line1.size : Int), r7, (p20.length : Int) - 1, (p15.length : Int) - q1.From, span1 + r7, span2⟩ : Gapi_Verse)]))], vec enc_Gapi_Span 34 2 hd14.v p20, cells b5 [.int .i64 span1, .int .i64 span2] 34, eD D emp [(31, cells b8 [.string (cutB line1 r7 (line1.size : Int)), .int .i64 r7, .int .i64 ((p20.length : Int) - 1), .int .i64 ((p15.length : Int) - q1.From), .int .i64 (span1 + r7), .int .i64 span2] 36)]]) (cons_eq rfl (cons_eq rfl (cons_eq rfl (cons_eq rfl (cons_eq rfl (cons_eq rfl (cons_eq rfl (cons_eq rfl (cons_eq rfl rfl))))))))) (TO.move rfl dc (dl_old (by rfl) rfl) ?_)
          exact TX.valG (b8, hd16) 0 (by rfl) (by rfl) rfl (dl_cons_eq (fun _ => rfl) (dl_cons_eq (fun _ => rfl) (dl_cons_eq (fun _ => rfl) (dl_cons_eq (fun _ => rfl) (dl_cons_eq (fun _ => rfl) (dl_cons_eq (fun _ => rfl) (dl_cons_eq (fun _ => rfl) (dl_cons_eq (fun _ => rfl) (dl_cons_eq (fun _ => rfl) (dl_cons_eq (fun _ => rfl) (dl_cons_eq (fun _ => rfl) (dl_cons_eq (fun _ => rfl) (dl_cons_eq (fun _ => rfl) (dl_cons_eq (fun _ => rfl) (dl_cons_eq (fun _ => rfl) (dl_cons_eq (fun _ => rfl) (dl_cons_eq (fun _ => rfl) (dl_cons_eq (fun _ => rfl) (dl_cons_eq (fun _ => rfl) (dl_cons_eq (fun _ => rfl) (dl_cons_eq (fun _ => rfl) (dl_cons_eq (fun _ => rfl) (dl_cons_eq (fun _ => rfl) (dl_cons_eq (fun _ => rfl) (dl_cons_eq (fun _ => rfl) (dl_cons_eq (fun _ => rfl) (dl_cons_eq (fun _ => rfl) (dl_cons_eq (fun _ => rfl) (dl_cons_eq (fun _ => rfl) (dl_cons_eq (fun _ => rfl) (dl_cons_eq (fun _ => rfl) (dl_cons_eq (fun _ => rfl) (dl_cons_eq (fun _ => rfl) rfl))))))))))))))))))))))))))))))))) (cons_eq rfl (cons_eq rfl (cons_eq rfl (cons_eq rfl (cons_eq rfl (cons_eq ((eD_skip (by rfl)).trans rfl) (cons_eq rfl (cons_eq rfl (cons_eq ((eD_skip (by rfl)).trans rfl) rfl)))))))))
         ·
          intro D b hn hd hcl
          obtain ⟨b8, hd16⟩ := b
          refine TO.rewL (L' := [cells b1 [.int .i64 0, .int .i64 0] 26, cells b4 [.string p4.text, hd3.v, hd4.v] 128, vec enc_Gapi_Place 130 5 hd3.v p4.places, vec enc_Gplace_ended 132 4 hd4.v p4.lines, cells b3 [.string p14, hd10.v, hd14.v, .string text1] 93, vec enc_Gapi_Verse 36 6 hd10.v p15, vec enc_Gapi_Span 34 2 hd14.v p20, cells b5 [.int .i64 span1, .int .i64 span2] 34, eD D emp [(31, cells b8 [.string (cutB line1 r7 (line1.size : Int)), .int .i64 r7, .int .i64 ((p20.length : Int) - 1), .int .i64 ((p15.length : Int) - q1.From), .int .i64 (span1 + r7), .int .i64 span2] 36)]]) (cons_eq rfl (cons_eq rfl (cons_eq rfl (cons_eq rfl (cons_eq rfl (cons_eq (eD_miss (fun hD => hn (hcl 2 _ rfl (hcl 3 _ rfl (hcl 4 _ rfl (hcl 5 _ rfl (hcl 32 _ rfl hD 5 dc) 4 dc) 3 dc) 2 dc) 1 dc)) eD_nil) (cons_eq rfl (cons_eq rfl (cons_eq rfl rfl))))))))) ?_
          refine TO.move rfl dc (dl_old (by rfl) rfl) ?_
          exact TX.valG (b8, hd16) 1 (by rfl) (by rfl) rfl (dl_cons_eq (fun _ => rfl) (dl_cons_eq (fun _ => rfl) (dl_cons_eq (fun _ => rfl) (dl_cons_eq (fun _ => rfl) (dl_cons_eq (fun _ => rfl) (dl_cons_eq (fun _ => rfl) (dl_cons_eq (fun _ => rfl) (dl_cons_eq (fun _ => rfl) (dl_cons_eq (fun _ => rfl) (dl_cons_eq (fun _ => rfl) (dl_cons_eq (fun _ => rfl) (dl_cons_eq (fun _ => rfl) (dl_cons_eq (fun _ => rfl) (dl_cons_eq (fun _ => rfl) (dl_cons_eq (fun _ => rfl) (dl_cons_eq (fun _ => rfl) (dl_cons_eq (fun _ => rfl) (dl_cons_eq (fun _ => rfl) (dl_cons_eq (fun _ => rfl) (dl_cons_eq (fun _ => rfl) (dl_cons_eq (fun _ => rfl) (dl_cons_eq (fun _ => rfl) (dl_cons_eq (fun _ => rfl) (dl_cons_eq (fun _ => rfl) (dl_cons_eq (fun _ => rfl) (dl_cons_eq (fun _ => rfl) (dl_cons_eq (fun _ => rfl) (dl_cons_eq (fun _ => rfl) (dl_cons_eq (fun _ => rfl) (dl_cons_eq (fun _ => rfl) (dl_cons_eq (fun _ => rfl) (dl_cons_eq (fun _ => rfl) (dl_cons_eq (fun _ => rfl) rfl))))))))))))))))))))))))))))))))) (cons_eq rfl (cons_eq rfl (cons_eq rfl (cons_eq rfl (cons_eq rfl (cons_eq ((eD_skip (by rfl)).trans (eD_miss (fun hD => hn (hcl 2 _ rfl (hcl 3 _ rfl (hcl 4 _ rfl (hcl 5 _ rfl (hcl 32 _ rfl hD 5 dc) 4 dc) 3 dc) 2 dc) 1 dc)) eD_nil)) (cons_eq rfl (cons_eq rfl (cons_eq ((eD_skip (by rfl)).trans rfl) rfl)))))))))
         ·
          intro D b hn hd hcl
          obtain ⟨b8, hd16⟩ := b
          refine TO.rewL (L' := [cells b1 [.int .i64 0, .int .i64 0] 26, cells b4 [.string p4.text, hd3.v, hd4.v] 128, vec enc_Gapi_Place 130 5 hd3.v p4.places, vec enc_Gplace_ended 132 4 hd4.v p4.lines, cells b3 [.string p14, hd10.v, hd14.v, .string text1] 93, vec enc_Gapi_Verse 36 6 hd10.v p15, vec enc_Gapi_Span 34 2 hd14.v p20, cells b5 [.int .i64 span1, .int .i64 span2] 34, eD D emp [(31, cells b8 [.string (cutB line1 r7 (line1.size : Int)), .int .i64 r7, .int .i64 ((p20.length : Int) - 1), .int .i64 ((p15.length : Int) - q1.From), .int .i64 (span1 + r7), .int .i64 span2] 36)]]) (cons_eq rfl (cons_eq rfl (cons_eq rfl (cons_eq rfl (cons_eq rfl (cons_eq (eD_miss (fun hD => hn (hcl 3 _ rfl (hcl 4 _ rfl (hcl 5 _ rfl (hcl 32 _ rfl hD 5 dc) 4 dc) 3 dc) 2 dc)) eD_nil) (cons_eq rfl (cons_eq rfl (cons_eq rfl rfl))))))))) ?_
          refine TO.nilCheck rfl dc (dl_lookup (m := 1) rfl rfl (hd 1 dc)) ?_
          exact TX.valG (b8, hd16) 2 (by rfl) (by rfl) rfl (dl_cons_eq (fun _ => rfl) (dl_cons_eq (fun _ => rfl) (dl_cons_eq (fun _ => rfl) (dl_cons_eq (fun _ => rfl) (dl_cons_eq (fun _ => rfl) (dl_cons_eq (fun _ => rfl) (dl_cons_eq (fun _ => rfl) (dl_cons_eq (fun _ => rfl) (dl_cons_eq (fun _ => rfl) (dl_cons_eq (fun _ => rfl) (dl_cons_eq (fun _ => rfl) (dl_cons_eq (fun _ => rfl) (dl_cons_eq (fun _ => rfl) (dl_cons_eq (fun _ => rfl) (dl_cons_eq (fun _ => rfl) (dl_cons_eq (fun _ => rfl) (dl_cons_eq (fun _ => rfl) (dl_cons_eq (fun _ => rfl) (dl_cons_eq (fun _ => rfl) (dl_cons_eq (fun _ => rfl) (dl_cons_eq (fun _ => rfl) (dl_cons_eq (fun _ => rfl) (dl_cons_eq (fun _ => rfl) (dl_cons_eq (fun _ => rfl) (dl_cons_eq (fun _ => rfl) (dl_cons_eq (fun _ => rfl) (dl_cons_eq (fun _ => rfl) (dl_cons_eq (fun _ => rfl) (dl_cons_eq (fun _ => rfl) (dl_cons_eq (fun _ => rfl) (dl_cons_eq (fun _ => rfl) (dl_cons_eq (fun _ => rfl) (dl_cons_eq (fun _ => rfl) rfl))))))))))))))))))))))))))))))))) (cons_eq rfl (cons_eq rfl (cons_eq rfl (cons_eq rfl (cons_eq rfl (cons_eq ((eD_skip (by rfl)).trans (eD_miss (fun hD => hn (hcl 3 _ rfl (hcl 4 _ rfl (hcl 5 _ rfl (hcl 32 _ rfl hD 5 dc) 4 dc) 3 dc) 2 dc)) eD_nil)) (cons_eq rfl (cons_eq rfl (cons_eq ((eD_skip (by rfl)).trans rfl) rfl)))))))))
         ·
          intro D b hn hd hcl
          obtain ⟨b8, hd16⟩ := b
          refine TO.rewL (L' := [cells b1 [.int .i64 0, .int .i64 0] 26, cells b4 [.string p4.text, hd3.v, hd4.v] 128, vec enc_Gapi_Place 130 5 hd3.v p4.places, vec enc_Gplace_ended 132 4 hd4.v p4.lines, cells b3 [.string p14, hd10.v, hd14.v, .string text1] 93, vec enc_Gapi_Verse 36 6 hd10.v p15, vec enc_Gapi_Span 34 2 hd14.v p20, cells b5 [.int .i64 span1, .int .i64 span2] 34, eD D emp [(31, cells b8 [.string (cutB line1 r7 (line1.size : Int)), .int .i64 r7, .int .i64 ((p20.length : Int) - 1), .int .i64 ((p15.length : Int) - q1.From), .int .i64 (span1 + r7), .int .i64 span2] 36)]]) (cons_eq rfl (cons_eq rfl (cons_eq rfl (cons_eq rfl (cons_eq rfl (cons_eq (eD_miss (fun hD => hn (hcl 4 _ rfl (hcl 5 _ rfl (hcl 32 _ rfl hD 5 dc) 4 dc) 3 dc)) eD_nil) (cons_eq rfl (cons_eq rfl (cons_eq rfl rfl))))))))) ?_
          refine TO.fieldAddr fl_93_0 rfl dc (dl_lookup (m := 2) rfl rfl (hd 2 dc)) (show _ = 0 from rfl) ?_
          exact TX.valG (b8, hd16) 3 (by rfl) (by rfl) rfl (dl_cons_eq (fun _ => rfl) (dl_cons_eq (fun _ => rfl) (dl_cons_eq (fun _ => rfl) (dl_cons_eq (fun _ => rfl) (dl_cons_eq (fun _ => rfl) (dl_cons_eq (fun _ => rfl) (dl_cons_eq (fun _ => rfl) (dl_cons_eq (fun _ => rfl) (dl_cons_eq (fun _ => rfl) (dl_cons_eq (fun _ => rfl) (dl_cons_eq (fun _ => rfl) (dl_cons_eq (fun _ => rfl) (dl_cons_eq (fun _ => rfl) (dl_cons_eq (fun _ => rfl) (dl_cons_eq (fun _ => rfl) (dl_cons_eq (fun _ => rfl) (dl_cons_eq (fun _ => rfl) (dl_cons_eq (fun _ => rfl) (dl_cons_eq (fun _ => rfl) (dl_cons_eq (fun _ => rfl) (dl_cons_eq (fun _ => rfl) (dl_cons_eq (fun _ => rfl) (dl_cons_eq (fun _ => rfl) (dl_cons_eq (fun _ => rfl) (dl_cons_eq (fun _ => rfl) (dl_cons_eq (fun _ => rfl) (dl_cons_eq (fun _ => rfl) (dl_cons_eq (fun _ => rfl) (dl_cons_eq (fun _ => rfl) (dl_cons_eq (fun _ => rfl) (dl_cons_eq (fun _ => rfl) (dl_cons_eq (fun _ => rfl) (dl_cons_eq (fun _ => rfl) rfl))))))))))))))))))))))))))))))))) (cons_eq rfl (cons_eq rfl (cons_eq rfl (cons_eq rfl (cons_eq rfl (cons_eq ((eD_skip (by rfl)).trans (eD_miss (fun hD => hn (hcl 4 _ rfl (hcl 5 _ rfl (hcl 32 _ rfl hD 5 dc) 4 dc) 3 dc)) eD_nil)) (cons_eq rfl (cons_eq rfl (cons_eq ((eD_skip (by rfl)).trans rfl) rfl)))))))))
         ·
          intro D b hn hd hcl
          obtain ⟨b8, hd16⟩ := b
          refine TO.rewL (L' := [cells b1 [.int .i64 0, .int .i64 0] 26, cells b4 [.string p4.text, hd3.v, hd4.v] 128, vec enc_Gapi_Place 130 5 hd3.v p4.places, vec enc_Gplace_ended 132 4 hd4.v p4.lines, cells b3 [.string p14, hd10.v, hd14.v, .string text1] 93, vec enc_Gapi_Verse 36 6 hd10.v p15, vec enc_Gapi_Span 34 2 hd14.v p20, cells b5 [.int .i64 span1, .int .i64 span2] 34, eD D emp [(31, cells b8 [.string (cutB line1 r7 (line1.size : Int)), .int .i64 r7, .int .i64 ((p20.length : Int) - 1), .int .i64 ((p15.length : Int) - q1.From), .int .i64 (span1 + r7), .int .i64 span2] 36)]]) (cons_eq rfl (cons_eq rfl (cons_eq rfl (cons_eq rfl (cons_eq rfl (cons_eq (eD_miss (fun hD => hn (hcl 5 _ rfl (hcl 32 _ rfl hD 5 dc) 4 dc)) eD_nil) (cons_eq rfl (cons_eq rfl (cons_eq rfl rfl))))))))) ?_
          refine TO.fieldAddr fl_91_1 rfl dc (dl_lookup (m := 3) rfl rfl (hd 3 dc)) (show _ = 1 from rfl) ?_
          exact TX.valG (b8, hd16) 4 (by rfl) (by rfl) rfl (dl_cons_eq (fun _ => rfl) (dl_cons_eq (fun _ => rfl) (dl_cons_eq (fun _ => rfl) (dl_cons_eq (fun _ => rfl) (dl_cons_eq (fun _ => rfl) (dl_cons_eq (fun _ => rfl) (dl_cons_eq (fun _ => rfl) (dl_cons_eq (fun _ => rfl) (dl_cons_eq (fun _ => rfl) (dl_cons_eq (fun _ => rfl) (dl_cons_eq (fun _ => rfl) (dl_cons_eq (fun _ => rfl) (dl_cons_eq (fun _ => rfl) (dl_cons_eq (fun _ => rfl) (dl_cons_eq (fun _ => rfl) (dl_cons_eq (fun _ => rfl) (dl_cons_eq (fun _ => rfl) (dl_cons_eq (fun _ => rfl) (dl_cons_eq (fun _ => rfl) (dl_cons_eq (fun _ => rfl) (dl_cons_eq (fun _ => rfl) (dl_cons_eq (fun _ => rfl) (dl_cons_eq (fun _ => rfl) (dl_cons_eq (fun _ => rfl) (dl_cons_eq (fun _ => rfl) (dl_cons_eq (fun _ => rfl) (dl_cons_eq (fun _ => rfl) (dl_cons_eq (fun _ => rfl) (dl_cons_eq (fun _ => rfl) (dl_cons_eq (fun _ => rfl) (dl_cons_eq (fun _ => rfl) (dl_cons_eq (fun _ => rfl) (dl_cons_eq (fun _ => rfl) rfl))))))))))))))))))))))))))))))))) (cons_eq rfl (cons_eq rfl (cons_eq rfl (cons_eq rfl (cons_eq rfl (cons_eq ((eD_skip (by rfl)).trans (eD_miss (fun hD => hn (hcl 5 _ rfl (hcl 32 _ rfl hD 5 dc) 4 dc)) eD_nil)) (cons_eq rfl (cons_eq rfl (cons_eq ((eD_skip (by rfl)).trans rfl) rfl)))))))))
         ·
          intro D b hn hd hcl
          obtain ⟨b8, hd16⟩ := b
          refine TO.rewL (L' := [cells b1 [.int .i64 0, .int .i64 0] 26, cells b4 [.string p4.text, hd3.v, hd4.v] 128, vec enc_Gapi_Place 130 5 hd3.v p4.places, vec enc_Gplace_ended 132 4 hd4.v p4.lines, cells b3 [.string p14, hd10.v, hd14.v, .string text1] 93, vec enc_Gapi_Verse 36 6 hd10.v p15, vec enc_Gapi_Span 34 2 hd14.v p20, cells b5 [.int .i64 span1, .int .i64 span2] 34, eD D emp [(31, cells b8 [.string (cutB line1 r7 (line1.size : Int)), .int .i64 r7, .int .i64 ((p20.length : Int) - 1), .int .i64 ((p15.length : Int) - q1.From), .int .i64 (span1 + r7), .int .i64 span2] 36)]]) (cons_eq rfl (cons_eq rfl (cons_eq rfl (cons_eq rfl (cons_eq rfl (cons_eq (eD_miss (fun hD => hn (hcl 32 _ rfl hD 5 dc)) eD_nil) (cons_eq rfl (cons_eq rfl (cons_eq rfl rfl))))))))) ?_
          refine TO.load (k := 4) sc_57 rfl dc (dl_lookup (m := 4) rfl rfl (hd 4 dc)) rfl rfl ?_
          exact TX.valG (b8, hd16) 5 (by rfl) (by rfl) rfl (dl_cons_eq (fun _ => rfl) (dl_cons_eq (fun _ => rfl) (dl_cons_eq (fun _ => rfl) (dl_cons_eq (fun _ => rfl) (dl_cons_eq (fun _ => rfl) (dl_cons_eq (fun _ => rfl) (dl_cons_eq (fun _ => rfl) (dl_cons_eq (fun _ => rfl) (dl_cons_eq (fun _ => rfl) (dl_cons_eq (fun _ => rfl) (dl_cons_eq (fun _ => rfl) (dl_cons_eq (fun _ => rfl) (dl_cons_eq (fun _ => rfl) (dl_cons_eq (fun _ => rfl) (dl_cons_eq (fun _ => rfl) (dl_cons_eq (fun _ => rfl) (dl_cons_eq (fun _ => rfl) (dl_cons_eq (fun _ => rfl) (dl_cons_eq (fun _ => rfl) (dl_cons_eq (fun _ => rfl) (dl_cons_eq (fun _ => rfl) (dl_cons_eq (fun _ => rfl) (dl_cons_eq (fun _ => rfl) (dl_cons_eq (fun _ => rfl) (dl_cons_eq (fun _ => rfl) (dl_cons_eq (fun _ => rfl) (dl_cons_eq (fun _ => rfl) (dl_cons_eq (fun _ => rfl) (dl_cons_eq (fun _ => rfl) (dl_cons_eq (fun _ => rfl) (dl_cons_eq (fun _ => rfl) (dl_cons_eq (fun _ => rfl) (dl_cons_eq (fun _ => rfl) rfl))))))))))))))))))))))))))))))))) (cons_eq rfl (cons_eq rfl (cons_eq rfl (cons_eq rfl (cons_eq rfl (cons_eq ((eD_skip (by rfl)).trans (eD_miss (fun hD => hn (hcl 32 _ rfl hD 5 dc)) eD_nil)) (cons_eq rfl (cons_eq rfl (cons_eq ((eD_skip (by rfl)).trans rfl) rfl)))))))))
         ·
          intro D b hn hd hcl
          obtain ⟨b8, hd16⟩ := b
          refine TO.rewL (L' := [cells b1 [.int .i64 0, .int .i64 0] 26, cells b4 [.string p4.text, hd3.v, hd4.v] 128, vec enc_Gapi_Place 130 5 hd3.v p4.places, vec enc_Gplace_ended 132 4 hd4.v p4.lines, cells b3 [.string p14, hd10.v, hd14.v, .string text1] 93, vec enc_Gapi_Verse 36 6 hd10.v p15, vec enc_Gapi_Span 34 2 hd14.v p20, cells b5 [.int .i64 span1, .int .i64 span2] 34, emp]) (cons_eq rfl (cons_eq rfl (cons_eq rfl (cons_eq rfl (cons_eq rfl (cons_eq (eD_miss (fun hD => hn (hcl 8 _ rfl (hcl 30 _ rfl (hcl 31 _ rfl (hcl 32 _ rfl hD 31 dc) 30 dc) 8 dc) 6 dc)) eD_nil) (cons_eq rfl (cons_eq rfl (cons_eq (eD_miss (fun hD => hn (hcl 8 _ rfl (hcl 30 _ rfl (hcl 31 _ rfl hD 30 dc) 8 dc) 6 dc)) eD_nil) rfl))))))))) ?_
          refine TO.move rfl dc (dl_old (by rfl) rfl) ?_
          exact TX.valG (b8, hd16) 6 (by rfl) (by rfl) rfl (dl_cons_eq (fun _ => rfl) (dl_cons_eq (fun _ => rfl) (dl_cons_eq (fun _ => rfl) (dl_cons_eq (fun _ => rfl) (dl_cons_eq (fun _ => rfl) (dl_cons_eq (fun _ => rfl) (dl_cons_eq (fun _ => rfl) (dl_cons_eq (fun _ => rfl) (dl_cons_eq (fun _ => rfl) (dl_cons_eq (fun _ => rfl) (dl_cons_eq (fun _ => rfl) (dl_cons_eq (fun _ => rfl) (dl_cons_eq (fun _ => rfl) (dl_cons_eq (fun _ => rfl) (dl_cons_eq (fun _ => rfl) (dl_cons_eq (fun _ => rfl) (dl_cons_eq (fun _ => rfl) (dl_cons_eq (fun _ => rfl) (dl_cons_eq (fun _ => rfl) (dl_cons_eq (fun _ => rfl) (dl_cons_eq (fun _ => rfl) (dl_cons_eq (fun _ => rfl) (dl_cons_eq (fun _ => rfl) (dl_cons_eq (fun _ => rfl) (dl_cons_eq (fun _ => rfl) (dl_cons_eq (fun _ => rfl) (dl_cons_eq (fun _ => rfl) (dl_cons_eq (fun _ => rfl) (dl_cons_eq (fun _ => rfl) (dl_cons_eq (fun _ => rfl) (dl_cons_eq (fun _ => rfl) (dl_cons_eq (fun _ => rfl) (dl_cons_eq (fun _ => rfl) rfl))))))))))))))))))))))))))))))))) (cons_eq rfl (cons_eq rfl (cons_eq rfl (cons_eq rfl (cons_eq rfl (cons_eq ((eD_skip (by rfl)).trans (eD_miss (fun hD => hn (hcl 8 _ rfl (hcl 30 _ rfl (hcl 31 _ rfl (hcl 32 _ rfl hD 31 dc) 30 dc) 8 dc) 6 dc)) eD_nil)) (cons_eq rfl (cons_eq rfl (cons_eq ((eD_skip (by rfl)).trans (eD_miss (fun hD => hn (hcl 8 _ rfl (hcl 30 _ rfl (hcl 31 _ rfl hD 30 dc) 8 dc) 6 dc)) eD_nil)) rfl)))))))))
         ·
          intro D b hn hd hcl
          obtain ⟨b8, hd16⟩ := b
          refine TO.rewL (L' := [cells b1 [.int .i64 0, .int .i64 0] 26, cells b4 [.string p4.text, hd3.v, hd4.v] 128, vec enc_Gapi_Place 130 5 hd3.v p4.places, vec enc_Gplace_ended 132 4 hd4.v p4.lines, cells b3 [.string p14, hd10.v, hd14.v, .string text1] 93, vec enc_Gapi_Verse 36 6 hd10.v p15, vec enc_Gapi_Span 34 2 hd14.v p20, cells b5 [.int .i64 span1, .int .i64 span2] 34, emp]) (cons_eq rfl (cons_eq rfl (cons_eq rfl (cons_eq rfl (cons_eq rfl (cons_eq (eD_miss (fun hD => hn (hcl 8 _ rfl (hcl 30 _ rfl (hcl 31 _ rfl (hcl 32 _ rfl hD 31 dc) 30 dc) 8 dc) 7 dc)) eD_nil) (cons_eq rfl (cons_eq rfl (cons_eq (eD_miss (fun hD => hn (hcl 8 _ rfl (hcl 30 _ rfl (hcl 31 _ rfl hD 30 dc) 8 dc) 7 dc)) eD_nil) rfl))))))))) ?_
          refine TO.move rfl dc (dl_old (by rfl) rfl) ?_
          exact TX.valG (b8, hd16) 7 (by rfl) (by rfl) rfl (dl_cons_eq (fun _ => rfl) (dl_cons_eq (fun _ => rfl) (dl_cons_eq (fun _ => rfl) (dl_cons_eq (fun _ => rfl) (dl_cons_eq (fun _ => rfl) (dl_cons_eq (fun _ => rfl) (dl_cons_eq (fun _ => rfl) (dl_cons_eq (fun _ => rfl) (dl_cons_eq (fun _ => rfl) (dl_cons_eq (fun _ => rfl) (dl_cons_eq (fun _ => rfl) (dl_cons_eq (fun _ => rfl) (dl_cons_eq (fun _ => rfl) (dl_cons_eq (fun _ => rfl) (dl_cons_eq (fun _ => rfl) (dl_cons_eq (fun _ => rfl) (dl_cons_eq (fun _ => rfl) (dl_cons_eq (fun _ => rfl) (dl_cons_eq (fun _ => rfl) (dl_cons_eq (fun _ => rfl) (dl_cons_eq (fun _ => rfl) (dl_cons_eq (fun _ => rfl) (dl_cons_eq (fun _ => rfl) (dl_cons_eq (fun _ => rfl) (dl_cons_eq (fun _ => rfl) (dl_cons_eq (fun _ => rfl) (dl_cons_eq (fun _ => rfl) (dl_cons_eq (fun _ => rfl) (dl_cons_eq (fun _ => rfl) (dl_cons_eq (fun _ => rfl) (dl_cons_eq (fun _ => rfl) (dl_cons_eq (fun _ => rfl) (dl_cons_eq (fun _ => rfl) rfl))))))))))))))))))))))))))))))))) (cons_eq rfl (cons_eq rfl (cons_eq rfl (cons_eq rfl (cons_eq rfl (cons_eq ((eD_skip (by rfl)).trans (eD_miss (fun hD => hn (hcl 8 _ rfl (hcl 30 _ rfl (hcl 31 _ rfl (hcl 32 _ rfl hD 31 dc) 30 dc) 8 dc) 7 dc)) eD_nil)) (cons_eq rfl (cons_eq rfl (cons_eq ((eD_skip (by rfl)).trans (eD_miss (fun hD => hn (hcl 8 _ rfl (hcl 30 _ rfl (hcl 31 _ rfl hD 30 dc) 8 dc) 7 dc)) eD_nil)) rfl)))))))))
         ·
          intro D b hn hd hcl
          obtain ⟨b8, hd16⟩ := b
          refine TO.rewL (L' := [cells b1 [.int .i64 0, .int .i64 0] 26, cells b4 [.string p4.text, hd3.v, hd4.v] 128, vec enc_Gapi_Place 130 5 hd3.v p4.places, vec enc_Gplace_ended 132 4 hd4.v p4.lines, cells b3 [.string p14, hd10.v, hd14.v, .string text1] 93, vec enc_Gapi_Verse 36 6 hd10.v p15, vec enc_Gapi_Span 34 2 hd14.v p20, cells b5 [.int .i64 span1, .int .i64 span2] 34, emp]) (cons_eq rfl (cons_eq rfl (cons_eq rfl (cons_eq rfl (cons_eq rfl (cons_eq (eD_miss (fun hD => hn (hcl 30 _ rfl (hcl 31 _ rfl (hcl 32 _ rfl hD 31 dc) 30 dc) 8 dc)) eD_nil) (cons_eq rfl (cons_eq rfl (cons_eq (eD_miss (fun hD => hn (hcl 30 _ rfl (hcl 31 _ rfl hD 30 dc) 8 dc)) eD_nil) rfl))))))))) ?_
          refine TO.slice rfl dc (dl_lookup (m := 6) rfl rfl (hd 6 dc)) (evO.some (dl_lookup (m := 7) rfl rfl (hd 7 dc))) evO.none (slice_stringI (i := r7) (j := (line1.size : Int)) Tryd.underlying9 (.inr rfl) (.inl ⟨rfl, rfl⟩) hg6) ?_
          exact TX.valG (b8, hd16) 8 (by rfl) (by rfl) rfl (dl_cons_eq (fun _ => rfl) (dl_cons_eq (fun _ => rfl) (dl_cons_eq (fun _ => rfl) (dl_cons_eq (fun _ => rfl) (dl_cons_eq (fun _ => rfl) (dl_cons_eq (fun _ => rfl) (dl_cons_eq (fun _ => rfl) (dl_cons_eq (fun _ => rfl) (dl_cons_eq (fun _ => rfl) (dl_cons_eq (fun _ => rfl) (dl_cons_eq (fun _ => rfl) (dl_cons_eq (fun _ => rfl) (dl_cons_eq (fun _ => rfl) (dl_cons_eq (fun _ => rfl) (dl_cons_eq (fun _ => rfl) (dl_cons_eq (fun _ => rfl) (dl_cons_eq (fun _ => rfl) (dl_cons_eq (fun _ => rfl) (dl_cons_eq (fun _ => rfl) (dl_cons_eq (fun _ => rfl) (dl_cons_eq (fun _ => rfl) (dl_cons_eq (fun _ => rfl) (dl_cons_eq (fun _ => rfl) (dl_cons_eq (fun _ => rfl) (dl_cons_eq (fun _ => rfl) (dl_cons_eq (fun _ => rfl) (dl_cons_eq (fun _ => rfl) (dl_cons_eq (fun _ => rfl) (dl_cons_eq (fun _ => rfl) (dl_cons_eq (fun _ => rfl) (dl_cons_eq (fun _ => rfl) (dl_cons_eq (fun _ => rfl) (dl_cons_eq (fun _ => rfl) rfl))))))))))))))))))))))))))))))))) (cons_eq rfl (cons_eq rfl (cons_eq rfl (cons_eq rfl (cons_eq rfl (cons_eq ((eD_skip (by rfl)).trans (eD_miss (fun hD => hn (hcl 30 _ rfl (hcl 31 _ rfl (hcl 32 _ rfl hD 31 dc) 30 dc) 8 dc)) eD_nil)) (cons_eq rfl (cons_eq rfl (cons_eq ((eD_skip (by rfl)).trans (eD_miss (fun hD => hn (hcl 30 _ rfl (hcl 31 _ rfl hD 30 dc) 8 dc)) eD_nil)) rfl)))))))))
         ·
          intro D b hn hd hcl
          obtain ⟨b8, hd16⟩ := b
          refine TO.rewL (L' := [cells b1 [.int .i64 0, .int .i64 0] 26, cells b4 [.string p4.text, hd3.v, hd4.v] 128, vec enc_Gapi_Place 130 5 hd3.v p4.places, vec enc_Gplace_ended 132 4 hd4.v p4.lines, cells b3 [.string p14, hd10.v, hd14.v, .string text1] 93, vec enc_Gapi_Verse 36 6 hd10.v p15, vec enc_Gapi_Span 34 2 hd14.v p20, cells b5 [.int .i64 span1, .int .i64 span2] 34, emp]) (cons_eq rfl (cons_eq rfl (cons_eq rfl (cons_eq rfl (cons_eq rfl (cons_eq (eD_miss (fun hD => hn (hcl 30 _ rfl (hcl 31 _ rfl (hcl 32 _ rfl hD 31 dc) 30 dc) 9 dc)) eD_nil) (cons_eq rfl (cons_eq rfl (cons_eq (eD_miss (fun hD => hn (hcl 30 _ rfl (hcl 31 _ rfl hD 30 dc) 9 dc)) eD_nil) rfl))))))))) ?_
          refine TO.move rfl dc (dl_old (by rfl) rfl) ?_
          exact TX.valG (b8, hd16) 9 (by rfl) (by rfl) rfl (dl_cons_eq (fun _ => rfl) (dl_cons_eq (fun _ => rfl) (dl_cons_eq (fun _ => rfl) (dl_cons_eq (fun _ => rfl) (dl_cons_eq (fun _ => rfl) (dl_cons_eq (fun _ => rfl) (dl_cons_eq (fun _ => rfl) (dl_cons_eq (fun _ => rfl) (dl_cons_eq (fun _ => rfl) (dl_cons_eq (fun _ => rfl) (dl_cons_eq (fun _ => rfl) (dl_cons_eq (fun _ => rfl) (dl_cons_eq (fun _ => rfl) (dl_cons_eq (fun _ => rfl) (dl_cons_eq (fun _ => rfl) (dl_cons_eq (fun _ => rfl) (dl_cons_eq (fun _ => rfl) (dl_cons_eq (fun _ => rfl) (dl_cons_eq (fun _ => rfl) (dl_cons_eq (fun _ => rfl) (dl_cons_eq (fun _ => rfl) (dl_cons_eq (fun _ => rfl) (dl_cons_eq (fun _ => rfl) (dl_cons_eq (fun _ => rfl) (dl_cons_eq (fun _ => rfl) (dl_cons_eq (fun _ => rfl) (dl_cons_eq (fun _ => rfl) (dl_cons_eq (fun _ => rfl) (dl_cons_eq (fun _ => rfl) (dl_cons_eq (fun _ => rfl) (dl_cons_eq (fun _ => rfl) (dl_cons_eq (fun _ => rfl) (dl_cons_eq (fun _ => rfl) rfl))))))))))))))))))))))))))))))))) (cons_eq rfl (cons_eq rfl (cons_eq rfl (cons_eq rfl (cons_eq rfl (cons_eq ((eD_skip (by rfl)).trans (eD_miss (fun hD => hn (hcl 30 _ rfl (hcl 31 _ rfl (hcl 32 _ rfl hD 31 dc) 30 dc) 9 dc)) eD_nil)) (cons_eq rfl (cons_eq rfl (cons_eq ((eD_skip (by rfl)).trans (eD_miss (fun hD => hn (hcl 30 _ rfl (hcl 31 _ rfl hD 30 dc) 9 dc)) eD_nil)) rfl)))))))))
         ·
          intro D b hn hd hcl
          obtain ⟨b8, hd16⟩ := b
          refine TO.rewL (L' := [cells b1 [.int .i64 0, .int .i64 0] 26, cells b4 [.string p4.text, hd3.v, hd4.v] 128, vec enc_Gapi_Place 130 5 hd3.v p4.places, vec enc_Gplace_ended 132 4 hd4.v p4.lines, cells b3 [.string p14, hd10.v, hd14.v, .string text1] 93, vec enc_Gapi_Verse 36 6 hd10.v p15, vec enc_Gapi_Span 34 2 hd14.v p20, cells b5 [.int .i64 span1, .int .i64 span2] 34, emp]) (cons_eq rfl (cons_eq rfl (cons_eq rfl (cons_eq rfl (cons_eq rfl (cons_eq (eD_miss (fun hD => hn (hcl 11 _ rfl (hcl 12 _ rfl (hcl 13 _ rfl (hcl 14 _ rfl (hcl 15 _ rfl (hcl 16 _ rfl (hcl 30 _ rfl (hcl 31 _ rfl (hcl 32 _ rfl hD 31 dc) 30 dc) 16 dc) 15 dc) 14 dc) 13 dc) 12 dc) 11 dc) 10 dc)) eD_nil) (cons_eq rfl (cons_eq rfl (cons_eq (eD_miss (fun hD => hn (hcl 11 _ rfl (hcl 12 _ rfl (hcl 13 _ rfl (hcl 14 _ rfl (hcl 15 _ rfl (hcl 16 _ rfl (hcl 30 _ rfl (hcl 31 _ rfl hD 30 dc) 16 dc) 15 dc) 14 dc) 13 dc) 12 dc) 11 dc) 10 dc)) eD_nil) rfl))))))))) ?_
          refine TO.move rfl dc (dl_old (by rfl) rfl) ?_
          exact TX.valG (b8, hd16) 10 (by rfl) (by rfl) rfl (dl_cons_eq (fun _ => rfl) (dl_cons_eq (fun _ => rfl) (dl_cons_eq (fun _ => rfl) (dl_cons_eq (fun _ => rfl) (dl_cons_eq (fun _ => rfl) (dl_cons_eq (fun _ => rfl) (dl_cons_eq (fun _ => rfl) (dl_cons_eq (fun _ => rfl) (dl_cons_eq (fun _ => rfl) (dl_cons_eq (fun _ => rfl) (dl_cons_eq (fun _ => rfl) (dl_cons_eq (fun _ => rfl) (dl_cons_eq (fun _ => rfl) (dl_cons_eq (fun _ => rfl) (dl_cons_eq (fun _ => rfl) (dl_cons_eq (fun _ => rfl) (dl_cons_eq (fun _ => rfl) (dl_cons_eq (fun _ => rfl) (dl_cons_eq (fun _ => rfl) (dl_cons_eq (fun _ => rfl) (dl_cons_eq (fun _ => rfl) (dl_cons_eq (fun _ => rfl) (dl_cons_eq (fun _ => rfl) (dl_cons_eq (fun _ => rfl) (dl_cons_eq (fun _ => rfl) (dl_cons_eq (fun _ => rfl) (dl_cons_eq (fun _ => rfl) (dl_cons_eq (fun _ => rfl) (dl_cons_eq (fun _ => rfl) (dl_cons_eq (fun _ => rfl) (dl_cons_eq (fun _ => rfl) (dl_cons_eq (fun _ => rfl) (dl_cons_eq (fun _ => rfl) rfl))))))))))))))))))))))))))))))))) (cons_eq rfl (cons_eq rfl (cons_eq rfl (cons_eq rfl (cons_eq rfl (cons_eq ((eD_skip (by rfl)).trans (eD_miss (fun hD => hn (hcl 11 _ rfl (hcl 12 _ rfl (hcl 13 _ rfl (hcl 14 _ rfl (hcl 15 _ rfl (hcl 16 _ rfl (hcl 30 _ rfl (hcl 31 _ rfl (hcl 32 _ rfl hD 31 dc) 30 dc) 16 dc) 15 dc) 14 dc) 13 dc) 12 dc) 11 dc) 10 dc)) eD_nil)) (cons_eq rfl (cons_eq rfl (cons_eq ((eD_skip (by rfl)).trans (eD_miss (fun hD => hn (hcl 11 _ rfl (hcl 12 _ rfl (hcl 13 _ rfl (hcl 14 _ rfl (hcl 15 _ rfl (hcl 16 _ rfl (hcl 30 _ rfl (hcl 31 _ rfl hD 30 dc) 16 dc) 15 dc) 14 dc) 13 dc) 12 dc) 11 dc) 10 dc)) eD_nil)) rfl)))))))))
         ·
          intro D b hn hd hcl
          obtain ⟨b8, hd16⟩ := b
          refine TO.rewL (L' := [cells b1 [.int .i64 0, .int .i64 0] 26, cells b4 [.string p4.text, hd3.v, hd4.v] 128, vec enc_Gapi_Place 130 5 hd3.v p4.places, vec enc_Gplace_ended 132 4 hd4.v p4.lines, cells b3 [.string p14, hd10.v, hd14.v, .string text1] 93, vec enc_Gapi_Verse 36 6 hd10.v p15, vec enc_Gapi_Span 34 2 hd14.v p20, cells b5 [.int .i64 span1, .int .i64 span2] 34, emp]) (cons_eq rfl (cons_eq rfl (cons_eq rfl (cons_eq rfl (cons_eq rfl (cons_eq (eD_miss (fun hD => hn (hcl 12 _ rfl (hcl 13 _ rfl (hcl 14 _ rfl (hcl 15 _ rfl (hcl 16 _ rfl (hcl 30 _ rfl (hcl 31 _ rfl (hcl 32 _ rfl hD 31 dc) 30 dc) 16 dc) 15 dc) 14 dc) 13 dc) 12 dc) 11 dc)) eD_nil) (cons_eq rfl (cons_eq rfl (cons_eq (eD_miss (fun hD => hn (hcl 12 _ rfl (hcl 13 _ rfl (hcl 14 _ rfl (hcl 15 _ rfl (hcl 16 _ rfl (hcl 30 _ rfl (hcl 31 _ rfl hD 30 dc) 16 dc) 15 dc) 14 dc) 13 dc) 12 dc) 11 dc)) eD_nil) rfl))))))))) ?_
          refine TO.nilCheck rfl dc (dl_lookup (m := 10) rfl rfl (hd 10 dc)) ?_
          exact TX.valG (b8, hd16) 11 (by rfl) (by rfl) rfl (dl_cons_eq (fun _ => rfl) (dl_cons_eq (fun _ => rfl) (dl_cons_eq (fun _ => rfl) (dl_cons_eq (fun _ => rfl) (dl_cons_eq (fun _ => rfl) (dl_cons_eq (fun _ => rfl) (dl_cons_eq (fun _ => rfl) (dl_cons_eq (fun _ => rfl) (dl_cons_eq (fun _ => rfl) (dl_cons_eq (fun _ => rfl) (dl_cons_eq (fun _ => rfl) (dl_cons_eq (fun _ => rfl) (dl_cons_eq (fun _ => rfl) (dl_cons_eq (fun _ => rfl) (dl_cons_eq (fun _ => rfl) (dl_cons_eq (fun _ => rfl) (dl_cons_eq (fun _ => rfl) (dl_cons_eq (fun _ => rfl) (dl_cons_eq (fun _ => rfl) (dl_cons_eq (fun _ => rfl) (dl_cons_eq (fun _ => rfl) (dl_cons_eq (fun _ => rfl) (dl_cons_eq (fun _ => rfl) (dl_cons_eq (fun _ => rfl) (dl_cons_eq (fun _ => rfl) (dl_cons_eq (fun _ => rfl) (dl_cons_eq (fun _ => rfl) (dl_cons_eq (fun _ => rfl) (dl_cons_eq (fun _ => rfl) (dl_cons_eq (fun _ => rfl) (dl_cons_eq (fun _ => rfl) (dl_cons_eq (fun _ => rfl) (dl_cons_eq (fun _ => rfl) rfl))))))))))))))))))))))))))))))))) (cons_eq rfl (cons_eq rfl (cons_eq rfl (cons_eq rfl (cons_eq rfl (cons_eq ((eD_skip (by rfl)).trans (eD_miss (fun hD => hn (hcl 12 _ rfl (hcl 13 _ rfl (hcl 14 _ rfl (hcl 15 _ rfl (hcl 16 _ rfl (hcl 30 _ rfl (hcl 31 _ rfl (hcl 32 _ rfl hD 31 dc) 30 dc) 16 dc) 15 dc) 14 dc) 13 dc) 12 dc) 11 dc)) eD_nil)) (cons_eq rfl (cons_eq rfl (cons_eq ((eD_skip (by rfl)).trans (eD_miss (fun hD => hn (hcl 12 _ rfl (hcl 13 _ rfl (hcl 14 _ rfl (hcl 15 _ rfl (hcl 16 _ rfl (hcl 30 _ rfl (hcl 31 _ rfl hD 30 dc) 16 dc) 15 dc) 14 dc) 13 dc) 12 dc) 11 dc)) eD_nil)) rfl)))))))))
         ·
          intro D b hn hd hcl
          obtain ⟨b8, hd16⟩ := b
          refine TO.rewL (L' := [cells b1 [.int .i64 0, .int .i64 0] 26, cells b4 [.string p4.text, hd3.v, hd4.v] 128, vec enc_Gapi_Place 130 5 hd3.v p4.places, vec enc_Gplace_ended 132 4 hd4.v p4.lines, cells b3 [.string p14, hd10.v, hd14.v, .string text1] 93, vec enc_Gapi_Verse 36 6 hd10.v p15, vec enc_Gapi_Span 34 2 hd14.v p20, cells b5 [.int .i64 span1, .int .i64 span2] 34, emp]) (cons_eq rfl (cons_eq rfl (cons_eq rfl (cons_eq rfl (cons_eq rfl (cons_eq (eD_miss (fun hD => hn (hcl 13 _ rfl (hcl 14 _ rfl (hcl 15 _ rfl (hcl 16 _ rfl (hcl 30 _ rfl (hcl 31 _ rfl (hcl 32 _ rfl hD 31 dc) 30 dc) 16 dc) 15 dc) 14 dc) 13 dc) 12 dc)) eD_nil) (cons_eq rfl (cons_eq rfl (cons_eq (eD_miss (fun hD => hn (hcl 13 _ rfl (hcl 14 _ rfl (hcl 15 _ rfl (hcl 16 _ rfl (hcl 30 _ rfl (hcl 31 _ rfl hD 30 dc) 16 dc) 15 dc) 14 dc) 13 dc) 12 dc)) eD_nil) rfl))))))))) ?_
          refine TO.fieldAddr fl_93_0 rfl dc (dl_lookup (m := 11) rfl rfl (hd 11 dc)) (show _ = 0 from rfl) ?_
          exact TX.valG (b8, hd16) 12 (by rfl) (by rfl) rfl (dl_cons_eq (fun _ => rfl) (dl_cons_eq (fun _ => rfl) (dl_cons_eq (fun _ => rfl) (dl_cons_eq (fun _ => rfl) (dl_cons_eq (fun _ => rfl) (dl_cons_eq (fun _ => rfl) (dl_cons_eq (fun _ => rfl) (dl_cons_eq (fun _ => rfl) (dl_cons_eq (fun _ => rfl) (dl_cons_eq (fun _ => rfl) (dl_cons_eq (fun _ => rfl) (dl_cons_eq (fun _ => rfl) (dl_cons_eq (fun _ => rfl) (dl_cons_eq (fun _ => rfl) (dl_cons_eq (fun _ => rfl) (dl_cons_eq (fun _ => rfl) (dl_cons_eq (fun _ => rfl) (dl_cons_eq (fun _ => rfl) (dl_cons_eq (fun _ => rfl) (dl_cons_eq (fun _ => rfl) (dl_cons_eq (fun _ => rfl) (dl_cons_eq (fun _ => rfl) (dl_cons_eq (fun _ => rfl) (dl_cons_eq (fun _ => rfl) (dl_cons_eq (fun _ => rfl) (dl_cons_eq (fun _ => rfl) (dl_cons_eq (fun _ => rfl) (dl_cons_eq (fun _ => rfl) (dl_cons_eq (fun _ => rfl) (dl_cons_eq (fun _ => rfl) (dl_cons_eq (fun _ => rfl) (dl_cons_eq (fun _ => rfl) (dl_cons_eq (fun _ => rfl) rfl))))))))))))))))))))))))))))))))) (cons_eq rfl (cons_eq rfl (cons_eq rfl (cons_eq rfl (cons_eq rfl (cons_eq ((eD_skip (by rfl)).trans (eD_miss (fun hD => hn (hcl 13 _ rfl (hcl 14 _ rfl (hcl 15 _ rfl (hcl 16 _ rfl (hcl 30 _ rfl (hcl 31 _ rfl (hcl 32 _ rfl hD 31 dc) 30 dc) 16 dc) 15 dc) 14 dc) 13 dc) 12 dc)) eD_nil)) (cons_eq rfl (cons_eq rfl (cons_eq ((eD_skip (by rfl)).trans (eD_miss (fun hD => hn (hcl 13 _ rfl (hcl 14 _ rfl (hcl 15 _ rfl (hcl 16 _ rfl (hcl 30 _ rfl (hcl 31 _ rfl hD 30 dc) 16 dc) 15 dc) 14 dc) 13 dc) 12 dc)) eD_nil)) rfl)))))))))
         ·
          intro D b hn hd hcl
          obtain ⟨b8, hd16⟩ := b
          refine TO.rewL (L' := [cells b1 [.int .i64 0, .int .i64 0] 26, cells b4 [.string p4.text, hd3.v, hd4.v] 128, vec enc_Gapi_Place 130 5 hd3.v p4.places, vec enc_Gplace_ended 132 4 hd4.v p4.lines, cells b3 [.string p14, hd10.v, hd14.v, .string text1] 93, vec enc_Gapi_Verse 36 6 hd10.v p15, vec enc_Gapi_Span 34 2 hd14.v p20, cells b5 [.int .i64 span1, .int .i64 span2] 34, emp]) (cons_eq rfl (cons_eq rfl (cons_eq rfl (cons_eq rfl (cons_eq rfl (cons_eq (eD_miss (fun hD => hn (hcl 14 _ rfl (hcl 15 _ rfl (hcl 16 _ rfl (hcl 30 _ rfl (hcl 31 _ rfl (hcl 32 _ rfl hD 31 dc) 30 dc) 16 dc) 15 dc) 14 dc) 13 dc)) eD_nil) (cons_eq rfl (cons_eq rfl (cons_eq (eD_miss (fun hD => hn (hcl 14 _ rfl (hcl 15 _ rfl (hcl 16 _ rfl (hcl 30 _ rfl (hcl 31 _ rfl hD 30 dc) 16 dc) 15 dc) 14 dc) 13 dc)) eD_nil) rfl))))))))) ?_
          refine TO.fieldAddr fl_91_2 rfl dc (dl_lookup (m := 12) rfl rfl (hd 12 dc)) (show _ = 2 from rfl) ?_
          exact TX.valG (b8, hd16) 13 (by rfl) (by rfl) rfl (dl_cons_eq (fun _ => rfl) (dl_cons_eq (fun _ => rfl) (dl_cons_eq (fun _ => rfl) (dl_cons_eq (fun _ => rfl) (dl_cons_eq (fun _ => rfl) (dl_cons_eq (fun _ => rfl) (dl_cons_eq (fun _ => rfl) (dl_cons_eq (fun _ => rfl) (dl_cons_eq (fun _ => rfl) (dl_cons_eq (fun _ => rfl) (dl_cons_eq (fun _ => rfl) (dl_cons_eq (fun _ => rfl) (dl_cons_eq (fun _ => rfl) (dl_cons_eq (fun _ => rfl) (dl_cons_eq (fun _ => rfl) (dl_cons_eq (fun _ => rfl) (dl_cons_eq (fun _ => rfl) (dl_cons_eq (fun _ => rfl) (dl_cons_eq (fun _ => rfl) (dl_cons_eq (fun _ => rfl) (dl_cons_eq (fun _ => rfl) (dl_cons_eq (fun _ => rfl) (dl_cons_eq (fun _ => rfl) (dl_cons_eq (fun _ => rfl) (dl_cons_eq (fun _ => rfl) (dl_cons_eq (fun _ => rfl) (dl_cons_eq (fun _ => rfl) (dl_cons_eq (fun _ => rfl) (dl_cons_eq (fun _ => rfl) (dl_cons_eq (fun _ => rfl) (dl_cons_eq (fun _ => rfl) (dl_cons_eq (fun _ => rfl) (dl_cons_eq (fun _ => rfl) rfl))))))))))))))))))))))))))))))))) (cons_eq rfl (cons_eq rfl (cons_eq rfl (cons_eq rfl (cons_eq rfl (cons_eq ((eD_skip (by rfl)).trans (eD_miss (fun hD => hn (hcl 14 _ rfl (hcl 15 _ rfl (hcl 16 _ rfl (hcl 30 _ rfl (hcl 31 _ rfl (hcl 32 _ rfl hD 31 dc) 30 dc) 16 dc) 15 dc) 14 dc) 13 dc)) eD_nil)) (cons_eq rfl (cons_eq rfl (cons_eq ((eD_skip (by rfl)).trans (eD_miss (fun hD => hn (hcl 14 _ rfl (hcl 15 _ rfl (hcl 16 _ rfl (hcl 30 _ rfl (hcl 31 _ rfl hD 30 dc) 16 dc) 15 dc) 14 dc) 13 dc)) eD_nil)) rfl)))))))))
         ·
          intro D b hn hd hcl
          obtain ⟨b8, hd16⟩ := b
          refine TO.rewL (L' := [cells b1 [.int .i64 0, .int .i64 0] 26, cells b4 [.string p4.text, hd3.v, hd4.v] 128, vec enc_Gapi_Place 130 5 hd3.v p4.places, vec enc_Gplace_ended 132 4 hd4.v p4.lines, cells b3 [.string p14, hd10.v, hd14.v, .string text1] 93, vec enc_Gapi_Verse 36 6 hd10.v p15, vec enc_Gapi_Span 34 2 hd14.v p20, cells b5 [.int .i64 span1, .int .i64 span2] 34, emp]) (cons_eq rfl (cons_eq rfl (cons_eq rfl (cons_eq rfl (cons_eq rfl (cons_eq (eD_miss (fun hD => hn (hcl 15 _ rfl (hcl 16 _ rfl (hcl 30 _ rfl (hcl 31 _ rfl (hcl 32 _ rfl hD 31 dc) 30 dc) 16 dc) 15 dc) 14 dc)) eD_nil) (cons_eq rfl (cons_eq rfl (cons_eq (eD_miss (fun hD => hn (hcl 15 _ rfl (hcl 16 _ rfl (hcl 30 _ rfl (hcl 31 _ rfl hD 30 dc) 16 dc) 15 dc) 14 dc)) eD_nil) rfl))))))))) ?_
          refine TO.load (k := 4) sc_89 rfl dc (dl_lookup (m := 13) rfl rfl (hd 13 dc)) rfl rfl ?_
          exact TX.valG (b8, hd16) 14 (by rfl) (by rfl) rfl (dl_cons_eq (fun _ => rfl) (dl_cons_eq (fun _ => rfl) (dl_cons_eq (fun _ => rfl) (dl_cons_eq (fun _ => rfl) (dl_cons_eq (fun _ => rfl) (dl_cons_eq (fun _ => rfl) (dl_cons_eq (fun _ => rfl) (dl_cons_eq (fun _ => rfl) (dl_cons_eq (fun _ => rfl) (dl_cons_eq (fun _ => rfl) (dl_cons_eq (fun _ => rfl) (dl_cons_eq (fun _ => rfl) (dl_cons_eq (fun _ => rfl) (dl_cons_eq (fun _ => rfl) (dl_cons_eq (fun _ => rfl) (dl_cons_eq (fun _ => rfl) (dl_cons_eq (fun _ => rfl) (dl_cons_eq (fun _ => rfl) (dl_cons_eq (fun _ => rfl) (dl_cons_eq (fun _ => rfl) (dl_cons_eq (fun _ => rfl) (dl_cons_eq (fun _ => rfl) (dl_cons_eq (fun _ => rfl) (dl_cons_eq (fun _ => rfl) (dl_cons_eq (fun _ => rfl) (dl_cons_eq (fun _ => rfl) (dl_cons_eq (fun _ => rfl) (dl_cons_eq (fun _ => rfl) (dl_cons_eq (fun _ => rfl) (dl_cons_eq (fun _ => rfl) (dl_cons_eq (fun _ => rfl) (dl_cons_eq (fun _ => rfl) (dl_cons_eq (fun _ => rfl) rfl))))))))))))))))))))))))))))))))) (cons_eq rfl (cons_eq rfl (cons_eq rfl (cons_eq rfl (cons_eq rfl (cons_eq ((eD_skip (by rfl)).trans (eD_miss (fun hD => hn (hcl 15 _ rfl (hcl 16 _ rfl (hcl 30 _ rfl (hcl 31 _ rfl (hcl 32 _ rfl hD 31 dc) 30 dc) 16 dc) 15 dc) 14 dc)) eD_nil)) (cons_eq rfl (cons_eq rfl (cons_eq ((eD_skip (by rfl)).trans (eD_miss (fun hD => hn (hcl 15 _ rfl (hcl 16 _ rfl (hcl 30 _ rfl (hcl 31 _ rfl hD 30 dc) 16 dc) 15 dc) 14 dc)) eD_nil)) rfl)))))))))
         ·
          intro D b hn hd hcl
          obtain ⟨b8, hd16⟩ := b
          refine TO.rewL (L' := [cells b1 [.int .i64 0, .int .i64 0] 26, cells b4 [.string p4.text, hd3.v, hd4.v] 128, vec enc_Gapi_Place 130 5 hd3.v p4.places, vec enc_Gplace_ended 132 4 hd4.v p4.lines, cells b3 [.string p14, hd10.v, hd14.v, .string text1] 93, vec enc_Gapi_Verse 36 6 hd10.v p15, vec enc_Gapi_Span 34 2 hd14.v p20, cells b5 [.int .i64 span1, .int .i64 span2] 34, emp]) (cons_eq rfl (cons_eq rfl (cons_eq rfl (cons_eq rfl (cons_eq rfl (cons_eq (eD_miss (fun hD => hn (hcl 16 _ rfl (hcl 30 _ rfl (hcl 31 _ rfl (hcl 32 _ rfl hD 31 dc) 30 dc) 16 dc) 15 dc)) eD_nil) (cons_eq rfl (cons_eq rfl (cons_eq (eD_miss (fun hD => hn (hcl 16 _ rfl (hcl 30 _ rfl (hcl 31 _ rfl hD 30 dc) 16 dc) 15 dc)) eD_nil) rfl))))))))) ?_
          refine TO.lenVec (k := 6) rfl dc (dl_lookup (m := 14) rfl rfl (hd 14 dc)) rfl Tryd.underlying89 ?_
          exact TX.valG (b8, hd16) 15 (by rfl) (by rfl) rfl (dl_cons_eq (fun _ => rfl) (dl_cons_eq (fun _ => rfl) (dl_cons_eq (fun _ => rfl) (dl_cons_eq (fun _ => rfl) (dl_cons_eq (fun _ => rfl) (dl_cons_eq (fun _ => rfl) (dl_cons_eq (fun _ => rfl) (dl_cons_eq (fun _ => rfl) (dl_cons_eq (fun _ => rfl) (dl_cons_eq (fun _ => rfl) (dl_cons_eq (fun _ => rfl) (dl_cons_eq (fun _ => rfl) (dl_cons_eq (fun _ => rfl) (dl_cons_eq (fun _ => rfl) (dl_cons_eq (fun _ => rfl) (dl_cons_eq (fun _ => rfl) (dl_cons_eq (fun _ => rfl) (dl_cons_eq (fun _ => rfl) (dl_cons_eq (fun _ => rfl) (dl_cons_eq (fun _ => rfl) (dl_cons_eq (fun _ => rfl) (dl_cons_eq (fun _ => rfl) (dl_cons_eq (fun _ => rfl) (dl_cons_eq (fun _ => rfl) (dl_cons_eq (fun _ => rfl) (dl_cons_eq (fun _ => rfl) (dl_cons_eq (fun _ => rfl) (dl_cons_eq (fun _ => rfl) (dl_cons_eq (fun _ => rfl) (dl_cons_eq (fun _ => rfl) (dl_cons_eq (fun _ => rfl) (dl_cons_eq (fun _ => rfl) (dl_cons_eq (fun _ => rfl) rfl))))))))))))))))))))))))))))))))) (cons_eq rfl (cons_eq rfl (cons_eq rfl (cons_eq rfl (cons_eq rfl (cons_eq ((eD_skip (by rfl)).trans (eD_miss (fun hD => hn (hcl 16 _ rfl (hcl 30 _ rfl (hcl 31 _ rfl (hcl 32 _ rfl hD 31 dc) 30 dc) 16 dc) 15 dc)) eD_nil)) (cons_eq rfl (cons_eq rfl (cons_eq ((eD_skip (by rfl)).trans (eD_miss (fun hD => hn (hcl 16 _ rfl (hcl 30 _ rfl (hcl 31 _ rfl hD 30 dc) 16 dc) 15 dc)) eD_nil)) rfl)))))))))
         ·
          intro D b hn hd hcl
          obtain ⟨b8, hd16⟩ := b
          refine TO.rewL (L' := [cells b1 [.int .i64 0, .int .i64 0] 26, cells b4 [.string p4.text, hd3.v, hd4.v] 128, vec enc_Gapi_Place 130 5 hd3.v p4.places, vec enc_Gplace_ended 132 4 hd4.v p4.lines, cells b3 [.string p14, hd10.v, hd14.v, .string text1] 93, vec enc_Gapi_Verse 36 6 hd10.v p15, vec enc_Gapi_Span 34 2 hd14.v p20, cells b5 [.int .i64 span1, .int .i64 span2] 34, emp]) (cons_eq rfl (cons_eq rfl (cons_eq rfl (cons_eq rfl (cons_eq rfl (cons_eq (eD_miss (fun hD => hn (hcl 30 _ rfl (hcl 31 _ rfl (hcl 32 _ rfl hD 31 dc) 30 dc) 16 dc)) eD_nil) (cons_eq rfl (cons_eq rfl (cons_eq (eD_miss (fun hD => hn (hcl 30 _ rfl (hcl 31 _ rfl hD 30 dc) 16 dc)) eD_nil) rfl))))))))) ?_
          refine TO.bin rfl dc (dl_lookup (m := 15) rfl rfl (hd 15 dc)) rfl (bin_sub (r := (p20.length : Int) - 1) (IntWalk.i64_in _ hg7)) ?_
          exact TX.valG (b8, hd16) 16 (by rfl) (by rfl) rfl (dl_cons_eq (fun _ => rfl) (dl_cons_eq (fun _ => rfl) (dl_cons_eq (fun _ => rfl) (dl_cons_eq (fun _ => rfl) (dl_cons_eq (fun _ => rfl) (dl_cons_eq (fun _ => rfl) (dl_cons_eq (fun _ => rfl) (dl_cons_eq (fun _ => rfl) (dl_cons_eq (fun _ => rfl) (dl_cons_eq (fun _ => rfl) (dl_cons_eq (fun _ => rfl) (dl_cons_eq (fun _ => rfl) (dl_cons_eq (fun _ => rfl) (dl_cons_eq (fun _ => rfl) (dl_cons_eq (fun _ => rfl) (dl_cons_eq (fun _ => rfl) (dl_cons_eq (fun _ => rfl) (dl_cons_eq (fun _ => rfl) (dl_cons_eq (fun _ => rfl) (dl_cons_eq (fun _ => rfl) (dl_cons_eq (fun _ => rfl) (dl_cons_eq (fun _ => rfl) (dl_cons_eq (fun _ => rfl) (dl_cons_eq (fun _ => rfl) (dl_cons_eq (fun _ => rfl) (dl_cons_eq (fun _ => rfl) (dl_cons_eq (fun _ => rfl) (dl_cons_eq (fun _ => rfl) (dl_cons_eq (fun _ => rfl) (dl_cons_eq (fun _ => rfl) (dl_cons_eq (fun _ => rfl) (dl_cons_eq (fun _ => rfl) (dl_cons_eq (fun _ => rfl) rfl))))))))))))))))))))))))))))))))) (cons_eq rfl (cons_eq rfl (cons_eq rfl (cons_eq rfl (cons_eq rfl (cons_eq ((eD_skip (by rfl)).trans (eD_miss (fun hD => hn (hcl 30 _ rfl (hcl 31 _ rfl (hcl 32 _ rfl hD 31 dc) 30 dc) 16 dc)) eD_nil)) (cons_eq rfl (cons_eq rfl (cons_eq ((eD_skip (by rfl)).trans (eD_miss (fun hD => hn (hcl 30 _ rfl (hcl 31 _ rfl hD 30 dc) 16 dc)) eD_nil)) rfl)))))))))
         ·
          intro D b hn hd hcl
          obtain ⟨b8, hd16⟩ := b
          refine TO.rewL (L' := [cells b1 [.int .i64 0, .int .i64 0] 26, cells b4 [.string p4.text, hd3.v, hd4.v] 128, vec enc_Gapi_Place 130 5 hd3.v p4.places, vec enc_Gplace_ended 132 4 hd4.v p4.lines, cells b3 [.string p14, hd10.v, hd14.v, .string text1] 93, vec enc_Gapi_Verse 36 6 hd10.v p15, vec enc_Gapi_Span 34 2 hd14.v p20, cells b5 [.int .i64 span1, .int .i64 span2] 34, emp]) (cons_eq rfl (cons_eq rfl (cons_eq rfl (cons_eq rfl (cons_eq rfl (cons_eq (eD_miss (fun hD => hn (hcl 22 _ rfl (hcl 30 _ rfl (hcl 31 _ rfl (hcl 32 _ rfl hD 31 dc) 30 dc) 22 dc) 17 dc)) eD_nil) (cons_eq rfl (cons_eq rfl (cons_eq (eD_miss (fun hD => hn (hcl 22 _ rfl (hcl 30 _ rfl (hcl 31 _ rfl hD 30 dc) 22 dc) 17 dc)) eD_nil) rfl))))))))) ?_
          refine TO.move rfl dc (dl_old (by rfl) rfl) ?_
          exact TX.valG (b8, hd16) 17 (by rfl) (by rfl) rfl (dl_cons_eq (fun _ => rfl) (dl_cons_eq (fun _ => rfl) (dl_cons_eq (fun _ => rfl) (dl_cons_eq (fun _ => rfl) (dl_cons_eq (fun _ => rfl) (dl_cons_eq (fun _ => rfl) (dl_cons_eq (fun _ => rfl) (dl_cons_eq (fun _ => rfl) (dl_cons_eq (fun _ => rfl) (dl_cons_eq (fun _ => rfl) (dl_cons_eq (fun _ => rfl) (dl_cons_eq (fun _ => rfl) (dl_cons_eq (fun _ => rfl) (dl_cons_eq (fun _ => rfl) (dl_cons_eq (fun _ => rfl) (dl_cons_eq (fun _ => rfl) (dl_cons_eq (fun _ => rfl) (dl_cons_eq (fun _ => rfl) (dl_cons_eq (fun _ => rfl) (dl_cons_eq (fun _ => rfl) (dl_cons_eq (fun _ => rfl) (dl_cons_eq (fun _ => rfl) (dl_cons_eq (fun _ => rfl) (dl_cons_eq (fun _ => rfl) (dl_cons_eq (fun _ => rfl) (dl_cons_eq (fun _ => rfl) (dl_cons_eq (fun _ => rfl) (dl_cons_eq (fun _ => rfl) (dl_cons_eq (fun _ => rfl) (dl_cons_eq (fun _ => rfl) (dl_cons_eq (fun _ => rfl) (dl_cons_eq (fun _ => rfl) (dl_cons_eq (fun _ => rfl) rfl))))))))))))))))))))))))))))))))) (cons_eq rfl (cons_eq rfl (cons_eq rfl (cons_eq rfl (cons_eq rfl (cons_eq ((eD_skip (by rfl)).trans (eD_miss (fun hD => hn (hcl 22 _ rfl (hcl 30 _ rfl (hcl 31 _ rfl (hcl 32 _ rfl hD 31 dc) 30 dc) 22 dc) 17 dc)) eD_nil)) (cons_eq rfl (cons_eq rfl (cons_eq ((eD_skip (by rfl)).trans (eD_miss (fun hD => hn (hcl 22 _ rfl (hcl 30 _ rfl (hcl 31 _ rfl hD 30 dc) 22 dc) 17 dc)) eD_nil)) rfl)))))))))
         ·
          intro D b hn hd hcl
          obtain ⟨b8, hd16⟩ := b
          refine TO.rewL (L' := [cells b1 [.int .i64 0, .int .i64 0] 26, cells b4 [.string p4.text, hd3.v, hd4.v] 128, vec enc_Gapi_Place 130 5 hd3.v p4.places, vec enc_Gplace_ended 132 4 hd4.v p4.lines, cells b3 [.string p14, hd10.v, hd14.v, .string text1] 93, vec enc_Gapi_Verse 36 6 hd10.v p15, vec enc_Gapi_Span 34 2 hd14.v p20, cells b5 [.int .i64 span1, .int .i64 span2] 34, emp]) (cons_eq rfl (cons_eq rfl (cons_eq rfl (cons_eq rfl (cons_eq rfl (cons_eq (eD_miss (fun hD => hn (hcl 19 _ rfl (hcl 20 _ rfl (hcl 21 _ rfl (hcl 22 _ rfl (hcl 30 _ rfl (hcl 31 _ rfl (hcl 32 _ rfl hD 31 dc) 30 dc) 22 dc) 21 dc) 20 dc) 19 dc) 18 dc)) eD_nil) (cons_eq rfl (cons_eq rfl (cons_eq (eD_miss (fun hD => hn (hcl 19 _ rfl (hcl 20 _ rfl (hcl 21 _ rfl (hcl 22 _ rfl (hcl 30 _ rfl (hcl 31 _ rfl hD 30 dc) 22 dc) 21 dc) 20 dc) 19 dc) 18 dc)) eD_nil) rfl))))))))) ?_
          refine TO.move rfl dc (dl_old (by rfl) rfl) ?_
          exact TX.valG (b8, hd16) 18 (by rfl) (by rfl) rfl (dl_cons_eq (fun _ => rfl) (dl_cons_eq (fun _ => rfl) (dl_cons_eq (fun _ => rfl) (dl_cons_eq (fun _ => rfl) (dl_cons_eq (fun _ => rfl) (dl_cons_eq (fun _ => rfl) (dl_cons_eq (fun _ => rfl) (dl_cons_eq (fun _ => rfl) (dl_cons_eq (fun _ => rfl) (dl_cons_eq (fun _ => rfl) (dl_cons_eq (fun _ => rfl) (dl_cons_eq (fun _ => rfl) (dl_cons_eq (fun _ => rfl) (dl_cons_eq (fun _ => rfl) (dl_cons_eq (fun _ => rfl) (dl_cons_eq (fun _ => rfl) (dl_cons_eq (fun _ => rfl) (dl_cons_eq (fun _ => rfl) (dl_cons_eq (fun _ => rfl) (dl_cons_eq (fun _ => rfl) (dl_cons_eq (fun _ => rfl) (dl_cons_eq (fun _ => rfl) (dl_cons_eq (fun _ => rfl) (dl_cons_eq (fun _ => rfl) (dl_cons_eq (fun _ => rfl) (dl_cons_eq (fun _ => rfl) (dl_cons_eq (fun _ => rfl) (dl_cons_eq (fun _ => rfl) (dl_cons_eq (fun _ => rfl) (dl_cons_eq (fun _ => rfl) (dl_cons_eq (fun _ => rfl) (dl_cons_eq (fun _ => rfl) (dl_cons_eq (fun _ => rfl) rfl))))))))))))))))))))))))))))))))) (cons_eq rfl (cons_eq rfl (cons_eq rfl (cons_eq rfl (cons_eq rfl (cons_eq ((eD_skip (by rfl)).trans (eD_miss (fun hD => hn (hcl 19 _ rfl (hcl 20 _ rfl (hcl 21 _ rfl (hcl 22 _ rfl (hcl 30 _ rfl (hcl 31 _ rfl (hcl 32 _ rfl hD 31 dc) 30 dc) 22 dc) 21 dc) 20 dc) 19 dc) 18 dc)) eD_nil)) (cons_eq rfl (cons_eq rfl (cons_eq ((eD_skip (by rfl)).trans (eD_miss (fun hD => hn (hcl 19 _ rfl (hcl 20 _ rfl (hcl 21 _ rfl (hcl 22 _ rfl (hcl 30 _ rfl (hcl 31 _ rfl hD 30 dc) 22 dc) 21 dc) 20 dc) 19 dc) 18 dc)) eD_nil)) rfl)))))))))
         ·
          intro D b hn hd hcl
          obtain ⟨b8, hd16⟩ := b
          refine TO.rewL (L' := [cells b1 [.int .i64 0, .int .i64 0] 26, cells b4 [.string p4.text, hd3.v, hd4.v] 128, vec enc_Gapi_Place 130 5 hd3.v p4.places, vec enc_Gplace_ended 132 4 hd4.v p4.lines, cells b3 [.string p14, hd10.v, hd14.v, .string text1] 93, vec enc_Gapi_Verse 36 6 hd10.v p15, vec enc_Gapi_Span 34 2 hd14.v p20, cells b5 [.int .i64 span1, .int .i64 span2] 34, emp]) (cons_eq rfl (cons_eq rfl (cons_eq rfl (cons_eq rfl (cons_eq rfl (cons_eq (eD_miss (fun hD => hn (hcl 20 _ rfl (hcl 21 _ rfl (hcl 22 _ rfl (hcl 30 _ rfl (hcl 31 _ rfl (hcl 32 _ rfl hD 31 dc) 30 dc) 22 dc) 21 dc) 20 dc) 19 dc)) eD_nil) (cons_eq rfl (cons_eq rfl (cons_eq (eD_miss (fun hD => hn (hcl 20 _ rfl (hcl 21 _ rfl (hcl 22 _ rfl (hcl 30 _ rfl (hcl 31 _ rfl hD 30 dc) 22 dc) 21 dc) 20 dc) 19 dc)) eD_nil) rfl))))))))) ?_
          refine TO.nilCheck rfl dc (dl_lookup (m := 18) rfl rfl (hd 18 dc)) ?_
          exact TX.valG (b8, hd16) 19 (by rfl) (by rfl) rfl (dl_cons_eq (fun _ => rfl) (dl_cons_eq (fun _ => rfl) (dl_cons_eq (fun _ => rfl) (dl_cons_eq (fun _ => rfl) (dl_cons_eq (fun _ => rfl) (dl_cons_eq (fun _ => rfl) (dl_cons_eq (fun _ => rfl) (dl_cons_eq (fun _ => rfl) (dl_cons_eq (fun _ => rfl) (dl_cons_eq (fun _ => rfl) (dl_cons_eq (fun _ => rfl) (dl_cons_eq (fun _ => rfl) (dl_cons_eq (fun _ => rfl) (dl_cons_eq (fun _ => rfl) (dl_cons_eq (fun _ => rfl) (dl_cons_eq (fun _ => rfl) (dl_cons_eq (fun _ => rfl) (dl_cons_eq (fun _ => rfl) (dl_cons_eq (fun _ => rfl) (dl_cons_eq (fun _ => rfl) (dl_cons_eq (fun _ => rfl) (dl_cons_eq (fun _ => rfl) (dl_cons_eq (fun _ => rfl) (dl_cons_eq (fun _ => rfl) (dl_cons_eq (fun _ => rfl) (dl_cons_eq (fun _ => rfl) (dl_cons_eq (fun _ => rfl) (dl_cons_eq (fun _ => rfl) (dl_cons_eq (fun _ => rfl) (dl_cons_eq (fun _ => rfl) (dl_cons_eq (fun _ => rfl) (dl_cons_eq (fun _ => rfl) (dl_cons_eq (fun _ => rfl) rfl))))))))))))))))))))))))))))))))) (cons_eq rfl (cons_eq rfl (cons_eq rfl (cons_eq rfl (cons_eq rfl (cons_eq ((eD_skip (by rfl)).trans (eD_miss (fun hD => hn (hcl 20 _ rfl (hcl 21 _ rfl (hcl 22 _ rfl (hcl 30 _ rfl (hcl 31 _ rfl (hcl 32 _ rfl hD 31 dc) 30 dc) 22 dc) 21 dc) 20 dc) 19 dc)) eD_nil)) (cons_eq rfl (cons_eq rfl (cons_eq ((eD_skip (by rfl)).trans (eD_miss (fun hD => hn (hcl 20 _ rfl (hcl 21 _ rfl (hcl 22 _ rfl (hcl 30 _ rfl (hcl 31 _ rfl hD 30 dc) 22 dc) 21 dc) 20 dc) 19 dc)) eD_nil)) rfl)))))))))
         ·
          intro D b hn hd hcl
          obtain ⟨b8, hd16⟩ := b
          refine TO.rewL (L' := [cells b1 [.int .i64 0, .int .i64 0] 26, cells b4 [.string p4.text, hd3.v, hd4.v] 128, vec enc_Gapi_Place 130 5 hd3.v p4.places, vec enc_Gplace_ended 132 4 hd4.v p4.lines, cells b3 [.string p14, hd10.v, hd14.v, .string text1] 93, vec enc_Gapi_Verse 36 6 hd10.v p15, vec enc_Gapi_Span 34 2 hd14.v p20, cells b5 [.int .i64 span1, .int .i64 span2] 34, emp]) (cons_eq rfl (cons_eq rfl (cons_eq rfl (cons_eq rfl (cons_eq rfl (cons_eq (eD_miss (fun hD => hn (hcl 21 _ rfl (hcl 22 _ rfl (hcl 30 _ rfl (hcl 31 _ rfl (hcl 32 _ rfl hD 31 dc) 30 dc) 22 dc) 21 dc) 20 dc)) eD_nil) (cons_eq rfl (cons_eq rfl (cons_eq (eD_miss (fun hD => hn (hcl 21 _ rfl (hcl 22 _ rfl (hcl 30 _ rfl (hcl 31 _ rfl hD 30 dc) 22 dc) 21 dc) 20 dc)) eD_nil) rfl))))))))) ?_
          refine TO.fieldAddr fl_34_0 rfl dc (dl_lookup (m := 19) rfl rfl (hd 19 dc)) (show _ = (((p20.length : Int) - 1 : Int).toNat) * 2 from rfl) ?_
          exact TX.valG (b8, hd16) 20 (by rfl) (by rfl) rfl (dl_cons_eq (fun _ => rfl) (dl_cons_eq (fun _ => rfl) (dl_cons_eq (fun _ => rfl) (dl_cons_eq (fun _ => rfl) (dl_cons_eq (fun _ => rfl) (dl_cons_eq (fun _ => rfl) (dl_cons_eq (fun _ => rfl) (dl_cons_eq (fun _ => rfl) (dl_cons_eq (fun _ => rfl) (dl_cons_eq (fun _ => rfl) (dl_cons_eq (fun _ => rfl) (dl_cons_eq (fun _ => rfl) (dl_cons_eq (fun _ => rfl) (dl_cons_eq (fun _ => rfl) (dl_cons_eq (fun _ => rfl) (dl_cons_eq (fun _ => rfl) (dl_cons_eq (fun _ => rfl) (dl_cons_eq (fun _ => rfl) (dl_cons_eq (fun _ => rfl) (dl_cons_eq (fun _ => rfl) (dl_cons_eq (fun _ => rfl) (dl_cons_eq (fun _ => rfl) (dl_cons_eq (fun _ => rfl) (dl_cons_eq (fun _ => rfl) (dl_cons_eq (fun _ => rfl) (dl_cons_eq (fun _ => rfl) (dl_cons_eq (fun _ => rfl) (dl_cons_eq (fun _ => rfl) (dl_cons_eq (fun _ => rfl) (dl_cons_eq (fun _ => rfl) (dl_cons_eq (fun _ => rfl) (dl_cons_eq (fun _ => rfl) (dl_cons_eq (fun _ => rfl) rfl))))))))))))))))))))))))))))))))) (cons_eq rfl (cons_eq rfl (cons_eq rfl (cons_eq rfl (cons_eq rfl (cons_eq ((eD_skip (by rfl)).trans (eD_miss (fun hD => hn (hcl 21 _ rfl (hcl 22 _ rfl (hcl 30 _ rfl (hcl 31 _ rfl (hcl 32 _ rfl hD 31 dc) 30 dc) 22 dc) 21 dc) 20 dc)) eD_nil)) (cons_eq rfl (cons_eq rfl (cons_eq ((eD_skip (by rfl)).trans (eD_miss (fun hD => hn (hcl 21 _ rfl (hcl 22 _ rfl (hcl 30 _ rfl (hcl 31 _ rfl hD 30 dc) 22 dc) 21 dc) 20 dc)) eD_nil)) rfl)))))))))
         ·
          intro D b hn hd hcl
          obtain ⟨b8, hd16⟩ := b
          refine TO.rewL (L' := [cells b1 [.int .i64 0, .int .i64 0] 26, cells b4 [.string p4.text, hd3.v, hd4.v] 128, vec enc_Gapi_Place 130 5 hd3.v p4.places, vec enc_Gplace_ended 132 4 hd4.v p4.lines, cells b3 [.string p14, hd10.v, hd14.v, .string text1] 93, vec enc_Gapi_Verse 36 6 hd10.v p15, vec enc_Gapi_Span 34 2 hd14.v p20, cells b5 [.int .i64 span1, .int .i64 span2] 34, emp]) (cons_eq rfl (cons_eq rfl (cons_eq rfl (cons_eq rfl (cons_eq rfl (cons_eq (eD_miss (fun hD => hn (hcl 22 _ rfl (hcl 30 _ rfl (hcl 31 _ rfl (hcl 32 _ rfl hD 31 dc) 30 dc) 22 dc) 21 dc)) eD_nil) (cons_eq rfl (cons_eq rfl (cons_eq (eD_miss (fun hD => hn (hcl 22 _ rfl (hcl 30 _ rfl (hcl 31 _ rfl hD 30 dc) 22 dc) 21 dc)) eD_nil) rfl))))))))) ?_
          refine TO.loadVec (i := ((p20.length : Int) - 1 : Int).toNat) (j := 0) (k := 6) (q := q1) sc_3 enc_Gapi_Span_len rfl dc (dl_lookup (m := 20) rfl rfl (hd 20 dc)) rfl (getO_get hq8) rfl dc rfl ?_
          exact TX.valG (b8, hd16) 21 (by rfl) (by rfl) rfl (dl_cons_eq (fun _ => rfl) (dl_cons_eq (fun _ => rfl) (dl_cons_eq (fun _ => rfl) (dl_cons_eq (fun _ => rfl) (dl_cons_eq (fun _ => rfl) (dl_cons_eq (fun _ => rfl) (dl_cons_eq (fun _ => rfl) (dl_cons_eq (fun _ => rfl) (dl_cons_eq (fun _ => rfl) (dl_cons_eq (fun _ => rfl) (dl_cons_eq (fun _ => rfl) (dl_cons_eq (fun _ => rfl) (dl_cons_eq (fun _ => rfl) (dl_cons_eq (fun _ => rfl) (dl_cons_eq (fun _ => rfl) (dl_cons_eq (fun _ => rfl) (dl_cons_eq (fun _ => rfl) (dl_cons_eq (fun _ => rfl) (dl_cons_eq (fun _ => rfl) (dl_cons_eq (fun _ => rfl) (dl_cons_eq (fun _ => rfl) (dl_cons_eq (fun _ => rfl) (dl_cons_eq (fun _ => rfl) (dl_cons_eq (fun _ => rfl) (dl_cons_eq (fun _ => rfl) (dl_cons_eq (fun _ => rfl) (dl_cons_eq (fun _ => rfl) (dl_cons_eq (fun _ => rfl) (dl_cons_eq (fun _ => rfl) (dl_cons_eq (fun _ => rfl) (dl_cons_eq (fun _ => rfl) (dl_cons_eq (fun _ => rfl) (dl_cons_eq (fun _ => rfl) rfl))))))))))))))))))))))))))))))))) (cons_eq rfl (cons_eq rfl (cons_eq rfl (cons_eq rfl (cons_eq rfl (cons_eq ((eD_skip (by rfl)).trans (eD_miss (fun hD => hn (hcl 22 _ rfl (hcl 30 _ rfl (hcl 31 _ rfl (hcl 32 _ rfl hD 31 dc) 30 dc) 22 dc) 21 dc)) eD_nil)) (cons_eq rfl (cons_eq rfl (cons_eq ((eD_skip (by rfl)).trans (eD_miss (fun hD => hn (hcl 22 _ rfl (hcl 30 _ rfl (hcl 31 _ rfl hD 30 dc) 22 dc) 21 dc)) eD_nil)) rfl)))))))))
         ·
          intro D b hn hd hcl
          obtain ⟨b8, hd16⟩ := b
          refine TO.rewL (L' := [cells b1 [.int .i64 0, .int .i64 0] 26, cells b4 [.string p4.text, hd3.v, hd4.v] 128, vec enc_Gapi_Place 130 5 hd3.v p4.places, vec enc_Gplace_ended 132 4 hd4.v p4.lines, cells b3 [.string p14, hd10.v, hd14.v, .string text1] 93, vec enc_Gapi_Verse 36 6 hd10.v p15, vec enc_Gapi_Span 34 2 hd14.v p20, cells b5 [.int .i64 span1, .int .i64 span2] 34, emp]) (cons_eq rfl (cons_eq rfl (cons_eq rfl (cons_eq rfl (cons_eq rfl (cons_eq (eD_miss (fun hD => hn (hcl 30 _ rfl (hcl 31 _ rfl (hcl 32 _ rfl hD 31 dc) 30 dc) 22 dc)) eD_nil) (cons_eq rfl (cons_eq rfl (cons_eq (eD_miss (fun hD => hn (hcl 30 _ rfl (hcl 31 _ rfl hD 30 dc) 22 dc)) eD_nil) rfl))))))))) ?_
          refine TO.bin rfl dc (dl_lookup (m := 17) rfl rfl (hd 17 dc)) (dl_lookup (m := 21) rfl rfl (hd 21 dc)) (bin_sub (r := (p15.length : Int) - q1.From) (IntWalk.i64_in _ hg8)) ?_
          exact TX.valG (b8, hd16) 22 (by rfl) (by rfl) rfl (dl_cons_eq (fun _ => rfl) (dl_cons_eq (fun _ => rfl) (dl_cons_eq (fun _ => rfl) (dl_cons_eq (fun _ => rfl) (dl_cons_eq (fun _ => rfl) (dl_cons_eq (fun _ => rfl) (dl_cons_eq (fun _ => rfl) (dl_cons_eq (fun _ => rfl) (dl_cons_eq (fun _ => rfl) (dl_cons_eq (fun _ => rfl) (dl_cons_eq (fun _ => rfl) (dl_cons_eq (fun _ => rfl) (dl_cons_eq (fun _ => rfl) (dl_cons_eq (fun _ => rfl) (dl_cons_eq (fun _ => rfl) (dl_cons_eq (fun _ => rfl) (dl_cons_eq (fun _ => rfl) (dl_cons_eq (fun _ => rfl) (dl_cons_eq (fun _ => rfl) (dl_cons_eq (fun _ => rfl) (dl_cons_eq (fun _ => rfl) (dl_cons_eq (fun _ => rfl) (dl_cons_eq (fun _ => rfl) (dl_cons_eq (fun _ => rfl) (dl_cons_eq (fun _ => rfl) (dl_cons_eq (fun _ => rfl) (dl_cons_eq (fun _ => rfl) (dl_cons_eq (fun _ => rfl) (dl_cons_eq (fun _ => rfl) (dl_cons_eq (fun _ => rfl) (dl_cons_eq (fun _ => rfl) (dl_cons_eq (fun _ => rfl) (dl_cons_eq (fun _ => rfl) rfl))))))))))))))))))))))))))))))))) (cons_eq rfl (cons_eq rfl (cons_eq rfl (cons_eq rfl (cons_eq rfl (cons_eq ((eD_skip (by rfl)).trans (eD_miss (fun hD => hn (hcl 30 _ rfl (hcl 31 _ rfl (hcl 32 _ rfl hD 31 dc) 30 dc) 22 dc)) eD_nil)) (cons_eq rfl (cons_eq rfl (cons_eq ((eD_skip (by rfl)).trans (eD_miss (fun hD => hn (hcl 30 _ rfl (hcl 31 _ rfl hD 30 dc) 22 dc)) eD_nil)) rfl)))))))))
         ·
          intro D b hn hd hcl
          obtain ⟨b8, hd16⟩ := b
          refine TO.rewL (L' := [cells b1 [.int .i64 0, .int .i64 0] 26, cells b4 [.string p4.text, hd3.v, hd4.v] 128, vec enc_Gapi_Place 130 5 hd3.v p4.places, vec enc_Gplace_ended 132 4 hd4.v p4.lines, cells b3 [.string p14, hd10.v, hd14.v, .string text1] 93, vec enc_Gapi_Verse 36 6 hd10.v p15, vec enc_Gapi_Span 34 2 hd14.v p20, cells b5 [.int .i64 span1, .int .i64 span2] 34, emp]) (cons_eq rfl (cons_eq rfl (cons_eq rfl (cons_eq rfl (cons_eq rfl (cons_eq (eD_miss (fun hD => hn (hcl 24 _ rfl (hcl 26 _ rfl (hcl 29 _ rfl (hcl 30 _ rfl (hcl 31 _ rfl (hcl 32 _ rfl hD 31 dc) 30 dc) 29 dc) 26 dc) 24 dc) 23 dc)) eD_nil) (cons_eq rfl (cons_eq rfl (cons_eq (eD_miss (fun hD => hn (hcl 24 _ rfl (hcl 26 _ rfl (hcl 29 _ rfl (hcl 30 _ rfl (hcl 31 _ rfl hD 30 dc) 29 dc) 26 dc) 24 dc) 23 dc)) eD_nil) rfl))))))))) ?_
          refine TO.fieldAddr fl_34_0 rfl dc (dl_old (by rfl) rfl) (show _ = 0 from rfl) ?_
          exact TX.valG (b8, hd16) 23 (by rfl) (by rfl) rfl (dl_cons_eq (fun _ => rfl) (dl_cons_eq (fun _ => rfl) (dl_cons_eq (fun _ => rfl) (dl_cons_eq (fun _ => rfl) (dl_cons_eq (fun _ => rfl) (dl_cons_eq (fun _ => rfl) (dl_cons_eq (fun _ => rfl) (dl_cons_eq (fun _ => rfl) (dl_cons_eq (fun _ => rfl) (dl_cons_eq (fun _ => rfl) (dl_cons_eq (fun _ => rfl) (dl_cons_eq (fun _ => rfl) (dl_cons_eq (fun _ => rfl) (dl_cons_eq (fun _ => rfl) (dl_cons_eq (fun _ => rfl) (dl_cons_eq (fun _ => rfl) (dl_cons_eq (fun _ => rfl) (dl_cons_eq (fun _ => rfl) (dl_cons_eq (fun _ => rfl) (dl_cons_eq (fun _ => rfl) (dl_cons_eq (fun _ => rfl) (dl_cons_eq (fun _ => rfl) (dl_cons_eq (fun _ => rfl) (dl_cons_eq (fun _ => rfl) (dl_cons_eq (fun _ => rfl) (dl_cons_eq (fun _ => rfl) (dl_cons_eq (fun _ => rfl) (dl_cons_eq (fun _ => rfl) (dl_cons_eq (fun _ => rfl) (dl_cons_eq (fun _ => rfl) (dl_cons_eq (fun _ => rfl) (dl_cons_eq (fun _ => rfl) (dl_cons_eq (fun _ => rfl) rfl))))))))))))))))))))))))))))))))) (cons_eq rfl (cons_eq rfl (cons_eq rfl (cons_eq rfl (cons_eq rfl (cons_eq ((eD_skip (by rfl)).trans (eD_miss (fun hD => hn (hcl 24 _ rfl (hcl 26 _ rfl (hcl 29 _ rfl (hcl 30 _ rfl (hcl 31 _ rfl (hcl 32 _ rfl hD 31 dc) 30 dc) 29 dc) 26 dc) 24 dc) 23 dc)) eD_nil)) (cons_eq rfl (cons_eq rfl (cons_eq ((eD_skip (by rfl)).trans (eD_miss (fun hD => hn (hcl 24 _ rfl (hcl 26 _ rfl (hcl 29 _ rfl (hcl 30 _ rfl (hcl 31 _ rfl hD 30 dc) 29 dc) 26 dc) 24 dc) 23 dc)) eD_nil)) rfl)))))))))
         ·
          intro D b hn hd hcl
          obtain ⟨b8, hd16⟩ := b
          refine TO.rewL (L' := [cells b1 [.int .i64 0, .int .i64 0] 26, cells b4 [.string p4.text, hd3.v, hd4.v] 128, vec enc_Gapi_Place 130 5 hd3.v p4.places, vec enc_Gplace_ended 132 4 hd4.v p4.lines, cells b3 [.string p14, hd10.v, hd14.v, .string text1] 93, vec enc_Gapi_Verse 36 6 hd10.v p15, vec enc_Gapi_Span 34 2 hd14.v p20, cells b5 [.int .i64 span1, .int .i64 span2] 34, emp]) (cons_eq rfl (cons_eq rfl (cons_eq rfl (cons_eq rfl (cons_eq rfl (cons_eq (eD_miss (fun hD => hn (hcl 26 _ rfl (hcl 29 _ rfl (hcl 30 _ rfl (hcl 31 _ rfl (hcl 32 _ rfl hD 31 dc) 30 dc) 29 dc) 26 dc) 24 dc)) eD_nil) (cons_eq rfl (cons_eq rfl (cons_eq (eD_miss (fun hD => hn (hcl 26 _ rfl (hcl 29 _ rfl (hcl 30 _ rfl (hcl 31 _ rfl hD 30 dc) 29 dc) 26 dc) 24 dc)) eD_nil) rfl))))))))) ?_
          refine TO.load (k := 7) sc_3 rfl dc (dl_lookup (m := 23) rfl rfl (hd 23 dc)) rfl rfl ?_
          exact TX.valG (b8, hd16) 24 (by rfl) (by rfl) rfl (dl_cons_eq (fun _ => rfl) (dl_cons_eq (fun _ => rfl) (dl_cons_eq (fun _ => rfl) (dl_cons_eq (fun _ => rfl) (dl_cons_eq (fun _ => rfl) (dl_cons_eq (fun _ => rfl) (dl_cons_eq (fun _ => rfl) (dl_cons_eq (fun _ => rfl) (dl_cons_eq (fun _ => rfl) (dl_cons_eq (fun _ => rfl) (dl_cons_eq (fun _ => rfl) (dl_cons_eq (fun _ => rfl) (dl_cons_eq (fun _ => rfl) (dl_cons_eq (fun _ => rfl) (dl_cons_eq (fun _ => rfl) (dl_cons_eq (fun _ => rfl) (dl_cons_eq (fun _ => rfl) (dl_cons_eq (fun _ => rfl) (dl_cons_eq (fun _ => rfl) (dl_cons_eq (fun _ => rfl) (dl_cons_eq (fun _ => rfl) (dl_cons_eq (fun _ => rfl) (dl_cons_eq (fun _ => rfl) (dl_cons_eq (fun _ => rfl) (dl_cons_eq (fun _ => rfl) (dl_cons_eq (fun _ => rfl) (dl_cons_eq (fun _ => rfl) (dl_cons_eq (fun _ => rfl) (dl_cons_eq (fun _ => rfl) (dl_cons_eq (fun _ => rfl) (dl_cons_eq (fun _ => rfl) (dl_cons_eq (fun _ => rfl) (dl_cons_eq (fun _ => rfl) rfl))))))))))))))))))))))))))))))))) (cons_eq rfl (cons_eq rfl (cons_eq rfl (cons_eq rfl (cons_eq rfl (cons_eq ((eD_skip (by rfl)).trans (eD_miss (fun hD => hn (hcl 26 _ rfl (hcl 29 _ rfl (hcl 30 _ rfl (hcl 31 _ rfl (hcl 32 _ rfl hD 31 dc) 30 dc) 29 dc) 26 dc) 24 dc)) eD_nil)) (cons_eq rfl (cons_eq rfl (cons_eq ((eD_skip (by rfl)).trans (eD_miss (fun hD => hn (hcl 26 _ rfl (hcl 29 _ rfl (hcl 30 _ rfl (hcl 31 _ rfl hD 30 dc) 29 dc) 26 dc) 24 dc)) eD_nil)) rfl)))))))))
         ·
          intro D b hn hd hcl
          obtain ⟨b8, hd16⟩ := b
          refine TO.rewL (L' := [cells b1 [.int .i64 0, .int .i64 0] 26, cells b4 [.string p4.text, hd3.v, hd4.v] 128, vec enc_Gapi_Place 130 5 hd3.v p4.places, vec enc_Gplace_ended 132 4 hd4.v p4.lines, cells b3 [.string p14, hd10.v, hd14.v, .string text1] 93, vec enc_Gapi_Verse 36 6 hd10.v p15, vec enc_Gapi_Span 34 2 hd14.v p20, cells b5 [.int .i64 span1, .int .i64 span2] 34, emp]) (cons_eq rfl (cons_eq rfl (cons_eq rfl (cons_eq rfl (cons_eq rfl (cons_eq (eD_miss (fun hD => hn (hcl 26 _ rfl (hcl 29 _ rfl (hcl 30 _ rfl (hcl 31 _ rfl (hcl 32 _ rfl hD 31 dc) 30 dc) 29 dc) 26 dc) 25 dc)) eD_nil) (cons_eq rfl (cons_eq rfl (cons_eq (eD_miss (fun hD => hn (hcl 26 _ rfl (hcl 29 _ rfl (hcl 30 _ rfl (hcl 31 _ rfl hD 30 dc) 29 dc) 26 dc) 25 dc)) eD_nil) rfl))))))))) ?_
          refine TO.move rfl dc (dl_old (by rfl) rfl) ?_
          exact TX.valG (b8, hd16) 25 (by rfl) (by rfl) rfl (dl_cons_eq (fun _ => rfl) (dl_cons_eq (fun _ => rfl) (dl_cons_eq (fun _ => rfl) (dl_cons_eq (fun _ => rfl) (dl_cons_eq (fun _ => rfl) (dl_cons_eq (fun _ => rfl) (dl_cons_eq (fun _ => rfl) (dl_cons_eq (fun _ => rfl) (dl_cons_eq (fun _ => rfl) (dl_cons_eq (fun _ => rfl) (dl_cons_eq (fun _ => rfl) (dl_cons_eq (fun _ => rfl) (dl_cons_eq (fun _ => rfl) (dl_cons_eq (fun _ => rfl) (dl_cons_eq (fun _ => rfl) (dl_cons_eq (fun _ => rfl) (dl_cons_eq (fun _ => rfl) (dl_cons_eq (fun _ => rfl) (dl_cons_eq (fun _ => rfl) (dl_cons_eq (fun _ => rfl) (dl_cons_eq (fun _ => rfl) (dl_cons_eq (fun _ => rfl) (dl_cons_eq (fun _ => rfl) (dl_cons_eq (fun _ => rfl) (dl_cons_eq (fun _ => rfl) (dl_cons_eq (fun _ => rfl) (dl_cons_eq (fun _ => rfl) (dl_cons_eq (fun _ => rfl) (dl_cons_eq (fun _ => rfl) (dl_cons_eq (fun _ => rfl) (dl_cons_eq (fun _ => rfl) (dl_cons_eq (fun _ => rfl) (dl_cons_eq (fun _ => rfl) rfl))))))))))))))))))))))))))))))))) (cons_eq rfl (cons_eq rfl (cons_eq rfl (cons_eq rfl (cons_eq rfl (cons_eq ((eD_skip (by rfl)).trans (eD_miss (fun hD => hn (hcl 26 _ rfl (hcl 29 _ rfl (hcl 30 _ rfl (hcl 31 _ rfl (hcl 32 _ rfl hD 31 dc) 30 dc) 29 dc) 26 dc) 25 dc)) eD_nil)) (cons_eq rfl (cons_eq rfl (cons_eq ((eD_skip (by rfl)).trans (eD_miss (fun hD => hn (hcl 26 _ rfl (hcl 29 _ rfl (hcl 30 _ rfl (hcl 31 _ rfl hD 30 dc) 29 dc) 26 dc) 25 dc)) eD_nil)) rfl)))))))))
         ·
          intro D b hn hd hcl
          obtain ⟨b8, hd16⟩ := b
          refine TO.rewL (L' := [cells b1 [.int .i64 0, .int .i64 0] 26, cells b4 [.string p4.text, hd3.v, hd4.v] 128, vec enc_Gapi_Place 130 5 hd3.v p4.places, vec enc_Gplace_ended 132 4 hd4.v p4.lines, cells b3 [.string p14, hd10.v, hd14.v, .string text1] 93, vec enc_Gapi_Verse 36 6 hd10.v p15, vec enc_Gapi_Span 34 2 hd14.v p20, cells b5 [.int .i64 span1, .int .i64 span2] 34, emp]) (cons_eq rfl (cons_eq rfl (cons_eq rfl (cons_eq rfl (cons_eq rfl (cons_eq (eD_miss (fun hD => hn (hcl 29 _ rfl (hcl 30 _ rfl (hcl 31 _ rfl (hcl 32 _ rfl hD 31 dc) 30 dc) 29 dc) 26 dc)) eD_nil) (cons_eq rfl (cons_eq rfl (cons_eq (eD_miss (fun hD => hn (hcl 29 _ rfl (hcl 30 _ rfl (hcl 31 _ rfl hD 30 dc) 29 dc) 26 dc)) eD_nil) rfl))))))))) ?_
          refine TO.bin rfl dc (dl_lookup (m := 24) rfl rfl (hd 24 dc)) (dl_lookup (m := 25) rfl rfl (hd 25 dc)) (bin_add (r := span1 + r7) (IntWalk.i64_in _ hg9)) ?_
          exact TX.valG (b8, hd16) 26 (by rfl) (by rfl) rfl (dl_cons_eq (fun _ => rfl) (dl_cons_eq (fun _ => rfl) (dl_cons_eq (fun _ => rfl) (dl_cons_eq (fun _ => rfl) (dl_cons_eq (fun _ => rfl) (dl_cons_eq (fun _ => rfl) (dl_cons_eq (fun _ => rfl) (dl_cons_eq (fun _ => rfl) (dl_cons_eq (fun _ => rfl) (dl_cons_eq (fun _ => rfl) (dl_cons_eq (fun _ => rfl) (dl_cons_eq (fun _ => rfl) (dl_cons_eq (fun _ => rfl) (dl_cons_eq (fun _ => rfl) (dl_cons_eq (fun _ => rfl) (dl_cons_eq (fun _ => rfl) (dl_cons_eq (fun _ => rfl) (dl_cons_eq (fun _ => rfl) (dl_cons_eq (fun _ => rfl) (dl_cons_eq (fun _ => rfl) (dl_cons_eq (fun _ => rfl) (dl_cons_eq (fun _ => rfl) (dl_cons_eq (fun _ => rfl) (dl_cons_eq (fun _ => rfl) (dl_cons_eq (fun _ => rfl) (dl_cons_eq (fun _ => rfl) (dl_cons_eq (fun _ => rfl) (dl_cons_eq (fun _ => rfl) (dl_cons_eq (fun _ => rfl) (dl_cons_eq (fun _ => rfl) (dl_cons_eq (fun _ => rfl) (dl_cons_eq (fun _ => rfl) (dl_cons_eq (fun _ => rfl) rfl))))))))))))))))))))))))))))))))) (cons_eq rfl (cons_eq rfl (cons_eq rfl (cons_eq rfl (cons_eq rfl (cons_eq ((eD_skip (by rfl)).trans (eD_miss (fun hD => hn (hcl 29 _ rfl (hcl 30 _ rfl (hcl 31 _ rfl (hcl 32 _ rfl hD 31 dc) 30 dc) 29 dc) 26 dc)) eD_nil)) (cons_eq rfl (cons_eq rfl (cons_eq ((eD_skip (by rfl)).trans (eD_miss (fun hD => hn (hcl 29 _ rfl (hcl 30 _ rfl (hcl 31 _ rfl hD 30 dc) 29 dc) 26 dc)) eD_nil)) rfl)))))))))
         ·
          intro D b hn hd hcl
          obtain ⟨b8, hd16⟩ := b
          refine TO.rewL (L' := [cells b1 [.int .i64 0, .int .i64 0] 26, cells b4 [.string p4.text, hd3.v, hd4.v] 128, vec enc_Gapi_Place 130 5 hd3.v p4.places, vec enc_Gplace_ended 132 4 hd4.v p4.lines, cells b3 [.string p14, hd10.v, hd14.v, .string text1] 93, vec enc_Gapi_Verse 36 6 hd10.v p15, vec enc_Gapi_Span 34 2 hd14.v p20, cells b5 [.int .i64 span1, .int .i64 span2] 34, emp]) (cons_eq rfl (cons_eq rfl (cons_eq rfl (cons_eq rfl (cons_eq rfl (cons_eq (eD_miss (fun hD => hn (hcl 28 _ rfl (hcl 29 _ rfl (hcl 30 _ rfl (hcl 31 _ rfl (hcl 32 _ rfl hD 31 dc) 30 dc) 29 dc) 28 dc) 27 dc)) eD_nil) (cons_eq rfl (cons_eq rfl (cons_eq (eD_miss (fun hD => hn (hcl 28 _ rfl (hcl 29 _ rfl (hcl 30 _ rfl (hcl 31 _ rfl hD 30 dc) 29 dc) 28 dc) 27 dc)) eD_nil) rfl))))))))) ?_
          refine TO.fieldAddr fl_34_1 rfl dc (dl_old (by rfl) rfl) (show _ = 1 from rfl) ?_
          exact TX.valG (b8, hd16) 27 (by rfl) (by rfl) rfl (dl_cons_eq (fun _ => rfl) (dl_cons_eq (fun _ => rfl) (dl_cons_eq (fun _ => rfl) (dl_cons_eq (fun _ => rfl) (dl_cons_eq (fun _ => rfl) (dl_cons_eq (fun _ => rfl) (dl_cons_eq (fun _ => rfl) (dl_cons_eq (fun _ => rfl) (dl_cons_eq (fun _ => rfl) (dl_cons_eq (fun _ => rfl) (dl_cons_eq (fun _ => rfl) (dl_cons_eq (fun _ => rfl) (dl_cons_eq (fun _ => rfl) (dl_cons_eq (fun _ => rfl) (dl_cons_eq (fun _ => rfl) (dl_cons_eq (fun _ => rfl) (dl_cons_eq (fun _ => rfl) (dl_cons_eq (fun _ => rfl) (dl_cons_eq (fun _ => rfl) (dl_cons_eq (fun _ => rfl) (dl_cons_eq (fun _ => rfl) (dl_cons_eq (fun _ => rfl) (dl_cons_eq (fun _ => rfl) (dl_cons_eq (fun _ => rfl) (dl_cons_eq (fun _ => rfl) (dl_cons_eq (fun _ => rfl) (dl_cons_eq (fun _ => rfl) (dl_cons_eq (fun _ => rfl) (dl_cons_eq (fun _ => rfl) (dl_cons_eq (fun _ => rfl) (dl_cons_eq (fun _ => rfl) (dl_cons_eq (fun _ => rfl) (dl_cons_eq (fun _ => rfl) rfl))))))))))))))))))))))))))))))))) (cons_eq rfl (cons_eq rfl (cons_eq rfl (cons_eq rfl (cons_eq rfl (cons_eq ((eD_skip (by rfl)).trans (eD_miss (fun hD => hn (hcl 28 _ rfl (hcl 29 _ rfl (hcl 30 _ rfl (hcl 31 _ rfl (hcl 32 _ rfl hD 31 dc) 30 dc) 29 dc) 28 dc) 27 dc)) eD_nil)) (cons_eq rfl (cons_eq rfl (cons_eq ((eD_skip (by rfl)).trans (eD_miss (fun hD => hn (hcl 28 _ rfl (hcl 29 _ rfl (hcl 30 _ rfl (hcl 31 _ rfl hD 30 dc) 29 dc) 28 dc) 27 dc)) eD_nil)) rfl)))))))))
         ·
          intro D b hn hd hcl
          obtain ⟨b8, hd16⟩ := b
          refine TO.rewL (L' := [cells b1 [.int .i64 0, .int .i64 0] 26, cells b4 [.string p4.text, hd3.v, hd4.v] 128, vec enc_Gapi_Place 130 5 hd3.v p4.places, vec enc_Gplace_ended 132 4 hd4.v p4.lines, cells b3 [.string p14, hd10.v, hd14.v, .string text1] 93, vec enc_Gapi_Verse 36 6 hd10.v p15, vec enc_Gapi_Span 34 2 hd14.v p20, cells b5 [.int .i64 span1, .int .i64 span2] 34, emp]) (cons_eq rfl (cons_eq rfl (cons_eq rfl (cons_eq rfl (cons_eq rfl (cons_eq (eD_miss (fun hD => hn (hcl 29 _ rfl (hcl 30 _ rfl (hcl 31 _ rfl (hcl 32 _ rfl hD 31 dc) 30 dc) 29 dc) 28 dc)) eD_nil) (cons_eq rfl (cons_eq rfl (cons_eq (eD_miss (fun hD => hn (hcl 29 _ rfl (hcl 30 _ rfl (hcl 31 _ rfl hD 30 dc) 29 dc) 28 dc)) eD_nil) rfl))))))))) ?_
          refine TO.load (k := 7) sc_3 rfl dc (dl_lookup (m := 27) rfl rfl (hd 27 dc)) rfl rfl ?_
          exact TX.valG (b8, hd16) 28 (by rfl) (by rfl) rfl (dl_cons_eq (fun _ => rfl) (dl_cons_eq (fun _ => rfl) (dl_cons_eq (fun _ => rfl) (dl_cons_eq (fun _ => rfl) (dl_cons_eq (fun _ => rfl) (dl_cons_eq (fun _ => rfl) (dl_cons_eq (fun _ => rfl) (dl_cons_eq (fun _ => rfl) (dl_cons_eq (fun _ => rfl) (dl_cons_eq (fun _ => rfl) (dl_cons_eq (fun _ => rfl) (dl_cons_eq (fun _ => rfl) (dl_cons_eq (fun _ => rfl) (dl_cons_eq (fun _ => rfl) (dl_cons_eq (fun _ => rfl) (dl_cons_eq (fun _ => rfl) (dl_cons_eq (fun _ => rfl) (dl_cons_eq (fun _ => rfl) (dl_cons_eq (fun _ => rfl) (dl_cons_eq (fun _ => rfl) (dl_cons_eq (fun _ => rfl) (dl_cons_eq (fun _ => rfl) (dl_cons_eq (fun _ => rfl) (dl_cons_eq (fun _ => rfl) (dl_cons_eq (fun _ => rfl) (dl_cons_eq (fun _ => rfl) (dl_cons_eq (fun _ => rfl) (dl_cons_eq (fun _ => rfl) (dl_cons_eq (fun _ => rfl) (dl_cons_eq (fun _ => rfl) (dl_cons_eq (fun _ => rfl) (dl_cons_eq (fun _ => rfl) (dl_cons_eq (fun _ => rfl) rfl))))))))))))))))))))))))))))))))) (cons_eq rfl (cons_eq rfl (cons_eq rfl (cons_eq rfl (cons_eq rfl (cons_eq ((eD_skip (by rfl)).trans (eD_miss (fun hD => hn (hcl 29 _ rfl (hcl 30 _ rfl (hcl 31 _ rfl (hcl 32 _ rfl hD 31 dc) 30 dc) 29 dc) 28 dc)) eD_nil)) (cons_eq rfl (cons_eq rfl (cons_eq ((eD_skip (by rfl)).trans (eD_miss (fun hD => hn (hcl 29 _ rfl (hcl 30 _ rfl (hcl 31 _ rfl hD 30 dc) 29 dc) 28 dc)) eD_nil)) rfl)))))))))
         ·
          intro D b hn hd hcl
          obtain ⟨b8, hd16⟩ := b
          refine TO.rewL (L' := [cells b1 [.int .i64 0, .int .i64 0] 26, cells b4 [.string p4.text, hd3.v, hd4.v] 128, vec enc_Gapi_Place 130 5 hd3.v p4.places, vec enc_Gplace_ended 132 4 hd4.v p4.lines, cells b3 [.string p14, hd10.v, hd14.v, .string text1] 93, vec enc_Gapi_Verse 36 6 hd10.v p15, vec enc_Gapi_Span 34 2 hd14.v p20, cells b5 [.int .i64 span1, .int .i64 span2] 34, emp]) (cons_eq rfl (cons_eq rfl (cons_eq rfl (cons_eq rfl (cons_eq rfl (cons_eq (eD_miss (fun hD => hn (hcl 30 _ rfl (hcl 31 _ rfl (hcl 32 _ rfl hD 31 dc) 30 dc) 29 dc)) eD_nil) (cons_eq rfl (cons_eq rfl (cons_eq (eD_miss (fun hD => hn (hcl 30 _ rfl (hcl 31 _ rfl hD 30 dc) 29 dc)) eD_nil) rfl))))))))) ?_
          refine TO.build (v := .agg #[.int .i64 (span1 + r7), .int .i64 span2]) (ps := [(0, .tmp 145), (1, .tmp 147)]) rfl dc (evP.cons (dl_lookup (m := 26) rfl rfl (hd 26 dc)) (evP.cons (dl_lookup (m := 28) rfl rfl (hd 28 dc)) evP.nil)) (fun _ => by kernel_rfl) ?_
          exact TX.valG (b8, hd16) 29 (by rfl) (by rfl) rfl (dl_cons_eq (fun _ => rfl) (dl_cons_eq (fun _ => rfl) (dl_cons_eq (fun _ => rfl) (dl_cons_eq (fun _ => rfl) (dl_cons_eq (fun _ => rfl) (dl_cons_eq (fun _ => rfl) (dl_cons_eq (fun _ => rfl) (dl_cons_eq (fun _ => rfl) (dl_cons_eq (fun _ => rfl) (dl_cons_eq (fun _ => rfl) (dl_cons_eq (fun _ => rfl) (dl_cons_eq (fun _ => rfl) (dl_cons_eq (fun _ => rfl) (dl_cons_eq (fun _ => rfl) (dl_cons_eq (fun _ => rfl) (dl_cons_eq (fun _ => rfl) (dl_cons_eq (fun _ => rfl) (dl_cons_eq (fun _ => rfl) (dl_cons_eq (fun _ => rfl) (dl_cons_eq (fun _ => rfl) (dl_cons_eq (fun _ => rfl) (dl_cons_eq (fun _ => rfl) (dl_cons_eq (fun _ => rfl) (dl_cons_eq (fun _ => rfl) (dl_cons_eq (fun _ => rfl) (dl_cons_eq (fun _ => rfl) (dl_cons_eq (fun _ => rfl) (dl_cons_eq (fun _ => rfl) (dl_cons_eq (fun _ => rfl) (dl_cons_eq (fun _ => rfl) (dl_cons_eq (fun _ => rfl) (dl_cons_eq (fun _ => rfl) (dl_cons_eq (fun _ => rfl) rfl))))))))))))))))))))))))))))))))) (cons_eq rfl (cons_eq rfl (cons_eq rfl (cons_eq rfl (cons_eq rfl (cons_eq ((eD_skip (by rfl)).trans (eD_miss (fun hD => hn (hcl 30 _ rfl (hcl 31 _ rfl (hcl 32 _ rfl hD 31 dc) 30 dc) 29 dc)) eD_nil)) (cons_eq rfl (cons_eq rfl (cons_eq ((eD_skip (by rfl)).trans (eD_miss (fun hD => hn (hcl 30 _ rfl (hcl 31 _ rfl hD 30 dc) 29 dc)) eD_nil)) rfl)))))))))
         ·
          intro D b hn hd hcl
          obtain ⟨b8, hd16⟩ := b
          refine TO.rewL (L' := [cells b1 [.int .i64 0, .int .i64 0] 26, cells b4 [.string p4.text, hd3.v, hd4.v] 128, vec enc_Gapi_Place 130 5 hd3.v p4.places, vec enc_Gplace_ended 132 4 hd4.v p4.lines, cells b3 [.string p14, hd10.v, hd14.v, .string text1] 93, vec enc_Gapi_Verse 36 6 hd10.v p15, vec enc_Gapi_Span 34 2 hd14.v p20, cells b5 [.int .i64 span1, .int .i64 span2] 34, emp]) (cons_eq rfl (cons_eq rfl (cons_eq rfl (cons_eq rfl (cons_eq rfl (cons_eq (eD_miss (fun hD => hn (hcl 31 _ rfl (hcl 32 _ rfl hD 31 dc) 30 dc)) eD_nil) (cons_eq rfl (cons_eq rfl (cons_eq (eD_miss (fun hD => hn (hcl 31 _ rfl hD 30 dc)) eD_nil) rfl))))))))) ?_
          refine TO.build (v := .agg #[.string (cutB line1 r7 (line1.size : Int)), .int .i64 r7, .int .i64 ((p20.length : Int) - 1), .int .i64 ((p15.length : Int) - q1.From), .int .i64 (span1 + r7), .int .i64 span2]) (ps := [(0, .tmp 127), (1, .tmp 128), (2, .tmp 135), (3, .tmp 141), (4, .tmp 148)]) rfl dc (evP.cons (dl_lookup (m := 8) rfl rfl (hd 8 dc)) (evP.cons (dl_lookup (m := 9) rfl rfl (hd 9 dc)) (evP.cons (dl_lookup (m := 16) rfl rfl (hd 16 dc)) (evP.cons (dl_lookup (m := 22) rfl rfl (hd 22 dc)) (evP.cons (dl_lookup (m := 29) rfl rfl (hd 29 dc)) evP.nil))))) (fun _ => by kernel_rfl) ?_
          exact TX.valG (b8, hd16) 30 (by rfl) (by rfl) rfl (dl_cons_eq (fun _ => rfl) (dl_cons_eq (fun _ => rfl) (dl_cons_eq (fun _ => rfl) (dl_cons_eq (fun _ => rfl) (dl_cons_eq (fun _ => rfl) (dl_cons_eq (fun _ => rfl) (dl_cons_eq (fun _ => rfl) (dl_cons_eq (fun _ => rfl) (dl_cons_eq (fun _ => rfl) (dl_cons_eq (fun _ => rfl) (dl_cons_eq (fun _ => rfl) (dl_cons_eq (fun _ => rfl) (dl_cons_eq (fun _ => rfl) (dl_cons_eq (fun _ => rfl) (dl_cons_eq (fun _ => rfl) (dl_cons_eq (fun _ => rfl) (dl_cons_eq (fun _ => rfl) (dl_cons_eq (fun _ => rfl) (dl_cons_eq (fun _ => rfl) (dl_cons_eq (fun _ => rfl) (dl_cons_eq (fun _ => rfl) (dl_cons_eq (fun _ => rfl) (dl_cons_eq (fun _ => rfl) (dl_cons_eq (fun _ => rfl) (dl_cons_eq (fun _ => rfl) (dl_cons_eq (fun _ => rfl) (dl_cons_eq (fun _ => rfl) (dl_cons_eq (fun _ => rfl) (dl_cons_eq (fun _ => rfl) (dl_cons_eq (fun _ => rfl) (dl_cons_eq (fun _ => rfl) (dl_cons_eq (fun _ => rfl) (dl_cons_eq (fun _ => rfl) rfl))))))))))))))))))))))))))))))))) (cons_eq rfl (cons_eq rfl (cons_eq rfl (cons_eq rfl (cons_eq rfl (cons_eq ((eD_skip (by rfl)).trans (eD_miss (fun hD => hn (hcl 31 _ rfl (hcl 32 _ rfl hD 31 dc) 30 dc)) eD_nil)) (cons_eq rfl (cons_eq rfl (cons_eq ((eD_skip (by rfl)).trans (eD_miss (fun hD => hn (hcl 31 _ rfl hD 30 dc)) eD_nil)) rfl)))))))))
         ·
          intro D b hn hd hcl
          obtain ⟨_, hd16⟩ := b
          refine TO.rewL (L' := [cells b1 [.int .i64 0, .int .i64 0] 26, cells b4 [.string p4.text, hd3.v, hd4.v] 128, vec enc_Gapi_Place 130 5 hd3.v p4.places, vec enc_Gplace_ended 132 4 hd4.v p4.lines, cells b3 [.string p14, hd10.v, hd14.v, .string text1] 93, vec enc_Gapi_Verse 36 6 hd10.v p15, vec enc_Gapi_Span 34 2 hd14.v p20, cells b5 [.int .i64 span1, .int .i64 span2] 34, emp]) (cons_eq rfl (cons_eq rfl (cons_eq rfl (cons_eq rfl (cons_eq rfl (cons_eq (eD_miss (fun hD => hn (hcl 32 _ rfl hD 31 dc)) eD_nil) (cons_eq rfl (cons_eq rfl (cons_eq (eD_miss hn eD_nil) rfl))))))))) ?_
          refine TO.buildSlice (cs := [.string (cutB line1 r7 (line1.size : Int)), .int .i64 r7, .int .i64 ((p20.length : Int) - 1), .int .i64 ((p15.length : Int) - q1.From), .int .i64 (span1 + r7), .int .i64 span2]) (te := 36) (ps := [(0, .tmp 149)]) rfl dc (evP.cons (dl_lookup (m := 30) rfl rfl (hd 30 dc)) evP.nil) (fun _ => by kernel_rfl) (fun b8 => ?_)
          refine TO.place 8 rfl rfl ?_
          show TO _ _ _ _ _ _ _ _ _ _ [cells b1 [.int .i64 0, .int .i64 0] 26, cells b4 [.string p4.text, hd3.v, hd4.v] 128, vec enc_Gapi_Place 130 5 hd3.v p4.places, vec enc_Gplace_ended 132 4 hd4.v p4.lines, cells b3 [.string p14, hd10.v, hd14.v, .string text1] 93, vec enc_Gapi_Verse 36 6 hd10.v p15, vec enc_Gapi_Span 34 2 hd14.v p20, cells b5 [.int .i64 span1, .int .i64 span2] 34, cells b8 [.string (cutB line1 r7 (line1.size : Int)), .int .i64 r7, .int .i64 ((p20.length : Int) - 1), .int .i64 ((p15.length : Int) - q1.From), .int .i64 (span1 + r7), .int .i64 span2] 36]
          exact TX.valG (b8, hd16) 31 (by rfl) (by rfl) rfl (dl_cons_eq (fun _ => rfl) (dl_cons_eq (fun _ => rfl) (dl_cons_eq (fun _ => rfl) (dl_cons_eq (fun _ => rfl) (dl_cons_eq (fun _ => rfl) (dl_cons_eq (fun _ => rfl) (dl_cons_eq (fun _ => rfl) (dl_cons_eq (fun _ => rfl) (dl_cons_eq (fun _ => rfl) (dl_cons_eq (fun _ => rfl) (dl_cons_eq (fun _ => rfl) (dl_cons_eq (fun _ => rfl) (dl_cons_eq (fun _ => rfl) (dl_cons_eq (fun _ => rfl) (dl_cons_eq (fun _ => rfl) (dl_cons_eq (fun _ => rfl) (dl_cons_eq (fun _ => rfl) (dl_cons_eq (fun _ => rfl) (dl_cons_eq (fun _ => rfl) (dl_cons_eq (fun _ => rfl) (dl_cons_eq (fun _ => rfl) (dl_cons_eq (fun _ => rfl) (dl_cons_eq (fun _ => rfl) (dl_cons_eq (fun _ => rfl) (dl_cons_eq (fun _ => rfl) (dl_cons_eq (fun _ => rfl) (dl_cons_eq (fun _ => rfl) (dl_cons_eq (fun _ => rfl) (dl_cons_eq (fun _ => rfl) (dl_cons_eq (fun _ => rfl) (dl_cons_eq (fun _ => rfl) (dl_cons_eq (fun hD => absurd hD hn) (dl_cons_eq (fun _ => rfl) rfl))))))))))))))))))))))))))))))))) (cons_eq rfl (cons_eq rfl (cons_eq rfl (cons_eq rfl (cons_eq rfl (cons_eq ((eD_skip (by rfl)).trans (eD_miss (fun hD => hn (hcl 32 _ rfl hD 31 dc)) eD_nil)) (cons_eq rfl (cons_eq rfl (cons_eq (eD_hit (Or.inr rfl) rfl) rfl)))))))))
         ·
          intro D b hn hd hcl
          obtain ⟨b8, _⟩ := b
          refine TO.rewL (L' := [cells b1 [.int .i64 0, .int .i64 0] 26, cells b4 [.string p4.text, hd3.v, hd4.v] 128, vec enc_Gapi_Place 130 5 hd3.v p4.places, vec enc_Gplace_ended 132 4 hd4.v p4.lines, cells b3 [.string p14, hd10.v, hd14.v, .string text1] 93, vec enc_Gapi_Verse 36 6 hd10.v p15, vec enc_Gapi_Span 34 2 hd14.v p20, cells b5 [.int .i64 span1, .int .i64 span2] 34, cells b8 [.string (cutB line1 r7 (line1.size : Int)), .int .i64 r7, .int .i64 ((p20.length : Int) - 1), .int .i64 ((p15.length : Int) - q1.From), .int .i64 (span1 + r7), .int .i64 span2] 36]) (cons_eq rfl (cons_eq rfl (cons_eq rfl (cons_eq rfl (cons_eq rfl (cons_eq (eD_miss hn eD_nil) (cons_eq rfl (cons_eq rfl (cons_eq (eD_hit (hd 31 dc) rfl) rfl))))))))) ?_
          refine TO.appendVec (k := 5) (k2 := 8) (ys := [(⟨cutB line1 r7 (line1.size : Int), r7, (p20.length : Int) - 1, (p15.length : Int) - q1.From, span1 + r7, span2⟩ : Gapi_Verse)]) Tryd.underlying57 el_36 enc_Gapi_Verse_len enc_Gapi_Verse_one rfl dc (dl_lookup (m := 5) rfl rfl (hd 5 dc)) (dl_lookup (m := 31) rfl rfl (hd 31 dc)) rfl rfl rfl rfl hg10 (fun v3 => ?_)
          refine TO.nameHd (k := 5) rfl (fun hd16 he2 => ?_)
          subst he2
          exact TX.valG (b8, hd16) 32 (by rfl) (by rfl) rfl (dl_cons_eq (fun _ => rfl) (dl_cons_eq (fun _ => rfl) (dl_cons_eq (fun _ => rfl) (dl_cons_eq (fun _ => rfl) (dl_cons_eq (fun _ => rfl) (dl_cons_eq (fun _ => rfl) (dl_cons_eq (fun _ => rfl) (dl_cons_eq (fun _ => rfl) (dl_cons_eq (fun _ => rfl) (dl_cons_eq (fun _ => rfl) (dl_cons_eq (fun _ => rfl) (dl_cons_eq (fun _ => rfl) (dl_cons_eq (fun _ => rfl) (dl_cons_eq (fun _ => rfl) (dl_cons_eq (fun _ => rfl) (dl_cons_eq (fun _ => rfl) (dl_cons_eq (fun _ => rfl) (dl_cons_eq (fun _ => rfl) (dl_cons_eq (fun _ => rfl) (dl_cons_eq (fun _ => rfl) (dl_cons_eq (fun _ => rfl) (dl_cons_eq (fun _ => rfl) (dl_cons_eq (fun _ => rfl) (dl_cons_eq (fun _ => rfl) (dl_cons_eq (fun _ => rfl) (dl_cons_eq (fun _ => rfl) (dl_cons_eq (fun _ => rfl) (dl_cons_eq (fun _ => rfl) (dl_cons_eq (fun _ => rfl) (dl_cons_eq (fun _ => rfl) (dl_cons_eq (fun _ => rfl) (dl_cons_eq (fun _ => rfl) (dl_cons_eq (fun hD => absurd hD hn) rfl))))))))))))))))))))))))))))))))) (cons_eq rfl (cons_eq rfl (cons_eq rfl (cons_eq rfl (cons_eq rfl (cons_eq (eD_hit (Or.inr rfl) rfl) (cons_eq rfl (cons_eq rfl (cons_eq ((eD_skip (by rfl)).trans (eD_hit (hd 31 dc) rfl)) rfl)))))))))
         intro D b hall
         obtain ⟨b8, hd16⟩ := b
         refine TO.rewL (L' := [cells b1 [.int .i64 0, .int .i64 0] 26, cells b4 [.string p4.text, hd3.v, hd4.v] 128, vec enc_Gapi_Place 130 5 hd3.v p4.places, vec enc_Gplace_ended 132 4 hd4.v p4.lines, cells b3 [.string p14, hd10.v, hd14.v, .string text1] 93, vec enc_Gapi_Verse 36 6 hd16.v (p15 ++ [(⟨cutB line1 r7 (line1.size : Int), r7, (p20.length : Int) - 1, (p15.length : Int) - q1.From, span1 + r7, span2⟩ : Gapi_Verse)]), vec enc_Gapi_Span 34 2 hd14.v p20, cells b5 [.int .i64 span1, .int .i64 span2] 34, cells b8 [.string (cutB line1 r7 (line1.size : Int)), .int .i64 r7, .int .i64 ((p20.length : Int) - 1), .int .i64 ((p15.length : Int) - q1.From), .int .i64 (span1 + r7), .int .i64 span2] 36]) (cons_eq rfl (cons_eq rfl (cons_eq rfl (cons_eq rfl (cons_eq rfl (cons_eq (eD_hit (hall 32 dc) rfl) (cons_eq rfl (cons_eq rfl (cons_eq (eD_hit (hall 31 dc) rfl) rfl))))))))) (TO.nilCheck rfl dc rfl (TO.fieldAddr fl_93_0 rfl dc rfl (show _ = 0 from rfl) (TO.fieldAddr fl_91_1 rfl dc rfl (show _ = 1 from rfl) ?_)))
         refine TO.store (k := 4) (l' := [.string p14, hd16.v, hd14.v, .string text1]) sz_57 rfl rfl rfl rfl rfl (fun _ _ => rfl) rfl ?_
         refine TO.nil (TX.next (TC.region (TO.move rfl dc rfl (TO.move rfl dc rfl ?_))))
         obtain ⟨hg11, h⟩ := grdE h
         refine TO.bin rfl dc rfl rfl (bin_add (r := (p15.length : Int) + 1) (IntWalk.i64_in _ hg11)) (TO.nilCheck rfl dc rfl (TO.fieldAddr fl_34_1 rfl dc rfl (show _ = (((p20.length : Int) - 1 : Int).toNat) * 2 + 1 from rfl) ?_))
         refine TO.storeVec (i := ((p20.length : Int) - 1 : Int).toNat) (j := 1) (k := 6) (q := q1) (q' := (⟨q1.From, (p15.length : Int) + 1⟩ : Gapi_Span)) sz_3 enc_Gapi_Span_len rfl rfl rfl rfl (getO_get hq8) rfl dc rfl (fun _ _ => rfl) ?_
         show TO _ _ _ _ _ _ _ _ _ _ [cells b1 [.int .i64 0, .int .i64 0] 26, cells b4 [.string p4.text, hd3.v, hd4.v] 128, vec enc_Gapi_Place 130 5 hd3.v p4.places, vec enc_Gplace_ended 132 4 hd4.v p4.lines, cells b3 [.string p14, hd16.v, hd14.v, .string text1] 93, vec enc_Gapi_Verse 36 6 hd16.v (p15 ++ [(⟨cutB line1 r7 (line1.size : Int), r7, (p20.length : Int) - 1, (p15.length : Int) - q1.From, span1 + r7, span2⟩ : Gapi_Verse)]), vec enc_Gapi_Span 34 2 hd14.v (p20.set ((p20.length : Int) - 1 : Int).toNat (⟨q1.From, (p15.length : Int) + 1⟩ : Gapi_Span)), cells b5 [.int .i64 span1, .int .i64 span2] 34, cells b8 [.string (cutB line1 r7 (line1.size : Int)), .int .i64 r7, .int .i64 ((p20.length : Int) - 1), .int .i64 ((p15.length : Int) - q1.From), .int .i64 (span1 + r7), .int .i64 span2] 36]
         refine TO.nil (TX.blockNormal ?_)
         exact TX.meetD (p14, p15 ++ [(⟨cutB line1 r7 (line1.size : Int), r7, (p20.length : Int) - 1, (p15.length : Int) - q1.From, span1 + r7, span2⟩ : Gapi_Verse)], p20.set ((p20.length : Int) - 1 : Int).toNat (⟨q1.From, (p15.length : Int) + 1⟩ : Gapi_Span), false, true, hd16, hd14) h rfl (Sbs.cons rfl (Sbs.cons rfl (Sbs.cons rfl (Sbs.cons rfl (Sbs.cons rfl (Sbs.cons rfl (Sbs.cons rfl (Sbs.cons rfl (Sbs.nil))))))))) (Splits.of [0, 1, 2, 3, 4, 5, 6] kr rfl)
      ·
       rintro ⟨p17, p18, p19, first4, row4, hd12, hd13⟩ h
       rw [hj2] at h
       show TC _ _ _ _ _ ([]) _ _ [(0, .string text1), (3, .pointer (some ⟨b1, 0, none⟩)), (4, .pointer (some ⟨b4, 0, none⟩)), (6, .pointer (some ⟨b3, 0, none⟩)), (7, .bool first4), (8, .bool row4), (30, .int .i64 r2), (31, .int .i64 x3)] [cells b1 [.int .i64 0, .int .i64 0] 26, cells b4 [.string p4.text, hd3.v, hd4.v] 128, vec enc_Gapi_Place 130 5 hd3.v p4.places, vec enc_Gplace_ended 132 4 hd4.v p4.lines, cells b3 [.string p17, hd12.v, hd13.v, .string text1] 93, vec enc_Gapi_Verse 36 6 hd12.v p18, vec enc_Gapi_Span 34 2 hd13.v p19]
       refine TC.region ?_
       obtain ⟨hg12, h⟩ := grdE h
       refine TO.bin rfl dc rfl rfl (bin_add (r := x3 + 1) (IntWalk.i64_in _ hg12)) (TO.move rfl dc rfl (TO.nil ?_))
       subst hag1
       exact TX.againD (n1, p17, p18, p19, first4, row4, x3 + 1, hd12, hd13) h (Nat.lt_succ_self _) rfl (Sbs.cons rfl (Sbs.cons rfl (Sbs.cons rfl (Sbs.cons rfl (Sbs.cons rfl (Sbs.cons rfl (Sbs.cons rfl (Sbs.cons rfl (Sbs.nil))))))))) (Splits.of [0, 1, 2, 3, 4, 5, 6] kr rfl)
     ·
      have h := condF hb2 h
      refine TC.exit (TX.thenExit (TX.thenExit (TX.blockHere ?_)))
      exact TX.meetD (p14, p15, p16, b3, hd10, hd11) h rfl (Sbs.cons rfl (Sbs.cons rfl (Sbs.nil))) (Splits.of [0, 4, 5, 6] kr rfl)
   ·
    rintro ⟨p1, p2, p3, b2, hd1, hd2⟩ h
    rw [hj1] at h
    show TC _ _ _ _ _ ([]) _ _ [(3, .pointer (some ⟨b1, 0, none⟩)), (6, .pointer (some ⟨b2, 0, none⟩))] [cells b1 [.int .i64 0, .int .i64 0] 26, cells b2 [.string p1, hd1.v, hd2.v, .string text1] 93, vec enc_Gapi_Verse 36 6 hd1.v p2, vec enc_Gapi_Span 34 2 hd2.v p3]
    refine TC.seq (TC.region (TO.move rfl dc rfl ?_))
    refine TO.build (v := .agg #[.int .i64 0, .int .i64 0]) (ps := []) rfl dc rfl (fun _ => by kernel_rfl) ?_
    refine TO.assign rfl dc rfl (TO.stores (k := 0) (vs := [.int .i64 0, .int .i64 0]) (l' := [.int .i64 0, .int .i64 0]) sz_26 rfl rfl rfl rfl rfl (show _ ≤ _ by simp) rfl rfl (TO.nil (TX.next (TC.ret (TX.jumpOn (by simp) ?_)))))
    refine TX.entl (As := [cells b2 [.string p1, hd1.v, hd2.v, .string text1] 93, vec enc_Gapi_Verse 36 6 hd1.v p2, vec enc_Gapi_Span 34 2 hd2.v p3]) (Splits.of [1, 2, 3] kr rfl) (Entl.objMk (enc := encN_Gpoem_Poem) (nest := nest_Gpoem_Poem) (t := 93) (x := (⟨p1, p2, p3, text1⟩ : Gpoem_Poem)) (b := b2) (hd := (hd1, hd2))) (fun _ _ => ?_)
    show TX _ _ _ _ _ _ _ [cells b1 [.int .i64 0, .int .i64 0] 26, emp, emp, emp, pobj encN_Gpoem_Poem nest_Gpoem_Poem 93 (.pointer (some ⟨b2, 0, none⟩)) (some (⟨p1, p2, p3, text1⟩ : Gpoem_Poem))]
    cases h
    exact TX.fin (rs := [.tmp 2, .cell 3 26]) (.pointer (some ⟨b2, 0, none⟩)) (.inl rfl) Tryd.results13 (.cons (.tmp rfl) (.cons (.cells rw_26 (k := 0) rfl rfl rfl) .nil)) rfl (Splits.of [4] kr rfl)
 ·
  exact fun b hb => hb.elim
end Go.Proofs.YtgfkogafkhbgnaaDoor
namespace Go.Proofs.YtgfkogafkhbgnaaDoor
open Go.RowKit Go.Lib
set_option linter.unusedVariables false
set_option linter.unusedSimpArgs false
theorem roRow_vecK {α : Type} {enc : α → List Value} {size k : Nat} {vv : Value} {xs : List α} {e : TypeId} (hz : ∀ x, (enc x).length = size) {C : Nat → Prop} {w : World} (h : (vec enc e size vv xs).P C w) : (roRow enc size vv k xs).P C w :=
  ⟨(roRow_vec hz h).1, fun i x j v h1 h2 h3 => (roRow_vec hz h).2 i x j v (Nat.zero_le _) h2 h3⟩
/-- Where a slice's records lie: a block's beginning, a place, what lies there. -/
structure Seat (α : Type) where
  vv : Value
  k : Nat
  L : List α
/-- The slice of that header can be read: xs. -/
def rdSl {α : Type} (enc : α → List Value) (size : Nat) (hd : Hd) (xs : List α) : Asn :=
  exA fun b : {b : Seat α // Vw b.vv b.L size b.k hd.v xs} => roRow enc size b.1.vv b.1.k b.1.L
theorem rdSl_vec {α : Type} {enc : α → List Value} {size : Nat} {e : TypeId} {hd : Hd} {xs : List α} (hlen : ∀ x, (enc x).length = size) {C : Nat → Prop} {w : World} (h : (vec enc e size hd.v xs).P C w) : (rdSl enc size hd xs).P C w :=
  ⟨⟨⟨hd.v, 0, xs⟩, vec_capR h⟩, roRow_vec hlen h⟩
section
variable {α η : Type} {enc : α × η → List Value} {nest nestR : α × η → List Asn} {e : TypeId} {size : Nat} {v : Value} {xs : List α} {zs : List (α × η)} {z : α × η}
/-- What the records zs own can be read. -/
def rdOwn (nestR : α × η → List Asn) (zs : List (α × η)) : Asn :=
  ⟨fun C w => (∀ k, C k → k < w.heap.size) ∧ ∀ z ∈ zs, ∀ A ∈ nestR z, ∃ D, A.P D w ∧ ∀ k, D k → C k,
   fun h k hk => h.1 k hk,
   fun {C w w'} h hs hk => ⟨fun k hC => Nat.lt_of_lt_of_le (h.1 k hC) hs, fun z hz A hA => by
     obtain ⟨D, h1, h2⟩ := h.2 z hz A hA
     exact ⟨D, A.loc h1 hs (fun k hD => hk k (h2 k hD)), h2⟩⟩⟩
/-- What is owned gives what is read. -/
def Gives (nest nestR : α × η → List Asn) : Prop := ∀ z C w, sepL (nest z) C w → ∀ A ∈ nestR z, ∃ D, A.P D w ∧ ∀ k, D k → C k
theorem flat_each {C : Nat → Prop} {w : World} (h : sepL (zs.flatMap nest) C w) (hz : z ∈ zs) : ∃ D, sepL (nest z) D w ∧ ∀ k, D k → C k := by
  obtain ⟨i, hi⟩ := List.getElem?_of_mem hz
  obtain ⟨C1, C2, h1, _, _, h4⟩ := (sepL.pull hi).1 h
  exact ⟨C1, h1, fun k hk => (h4 k).2 (.inl hk)⟩
theorem rdOwn_own (hG : Gives nest nestR) {C : Nat → Prop} {w : World} (h : (own nest zs).P C w) : (rdOwn nestR zs).P C w :=
  ⟨(own nest zs).lt h, fun z hz A hA => by
    obtain ⟨D, h1, h2⟩ := flat_each (show sepL (zs.flatMap nest) C w from h) hz
    obtain ⟨E, h3, h4⟩ := hG z D w h1 A hA
    exact ⟨E, h3, fun k hk => h2 k (h4 k hk)⟩⟩
variable {w0 : World} {K : Nat → Prop} {RD : List Asn} {i j : Nat}
theorem Rd.openEl (hr : Rd w0 K RD) (hi : RD[i]? = some (rdOwn nestR zs)) (hz : zs[j]? = some z) : Rd w0 K (RD ++ nestR z) :=
  hr.more hi fun C hC B hB => hC.2 z (List.mem_of_getElem? hz) B hB
theorem Rd.openSl {β : Type} {enc1 : β → List Value} {hd : Hd} {ys : List β} (hr : Rd w0 K RD) (hi : RD[i]? = some (rdSl enc1 size hd ys)) : ∃ vv k L, Vw vv L size k hd.v ys ∧ Rd w0 K (RD ++ [roRow enc1 size vv k L]) := by
  obtain ⟨C, ⟨⟨⟨vv, k, L⟩, hV⟩, hC⟩, hk⟩ := hr _ (List.mem_of_getElem? hi)
  refine ⟨vv, k, L, hV, hr.append fun B hB => ?_⟩
  rw [List.mem_singleton] at hB
  subst hB
  exact ⟨C, hC, hk⟩
theorem Rd.openN (hr : Rd w0 K RD) (hi : RD[i]? = some (vecN enc nest e size v xs)) (hlen : ∀ z, (enc z).length = size) (hG : Gives nest nestR) :
    ∃ zs : List (α × η), zs.map Prod.fst = xs ∧ Vw v zs size 0 v zs ∧ Rd w0 K (RD ++ [roRow enc size v 0 zs, rdOwn nestR zs]) := by
  obtain ⟨C, h, hk⟩ := hr _ (List.mem_of_getElem? hi)
  obtain ⟨zs, hz, h1⟩ := openE C w0 h
  obtain ⟨C1, C2, g1, g2, _, g4⟩ := sepL.perm2 h1
  refine ⟨zs, hz, vec_capR g1, hr.append fun B hB => ?_⟩
  rcases List.mem_cons.1 hB with rfl | hB
  · exact ⟨C1, roRow_vec hlen g1, fun k h => hk k ((g4 k).2 (.inl h))⟩
  · rw [List.mem_singleton] at hB
    subst hB
    exact ⟨C2, rdOwn_own hG g2, fun k h => hk k ((g4 k).2 (.inr h))⟩
/-- A contract that reads a slice's records, closed: it reads the slice that owns them. -/
theorem FnR.closeN {P : Program} {f : FuncId} {vs : List Value} {RD1 RD2 As : List Asn} {β : Type} {V : β → Value} {Bs : β → List Asn} (hlen : ∀ z, (enc z).length = size) (hG : Gives nest nestR)
    (h : ∀ zs : List (α × η), zs.map Prod.fst = xs → Vw v zs size 0 v zs → FnR P f vs (RD1 ++ [roRow enc size v 0 zs, rdOwn nestR zs] ++ RD2) As V Bs) : FnR P f vs (RD1 ++ [vecN enc nest e size v xs] ++ RD2) As V Bs := fun w C hR => by
  obtain ⟨zs, hz, hV, h1⟩ := hR.openN (i := RD1.length) (nest := nest) (e := e) (v := v) (xs := xs) (by simp) hlen hG
  refine h zs hz hV w C fun A hA => h1 A ?_
  simp only [List.mem_append, List.mem_cons, List.not_mem_nil, or_false] at hA ⊢
  rcases hA with (hA | hA) | hA
  · exact .inl (.inl (.inl hA))
  · exact .inr hA
  · exact .inl (.inr hA)
end
section
variable {α η : Type} {nest : α × η → List Asn} {zs ys : List (α × η)}
end
section
variable {F : Fence} {P : Program} {w0 : World} {K : Nat → Prop} {N : Nat} {dfs : List Deferred} {Q : Exit → Act → World → Prop} {σ : List (Nat × Value)} {L : List Asn} {c : Code} {k : Nat} {α η : Type} {enc : α × η → List Value} {nest : α × η → List Asn} {t : TypeId} {p : Value} {m : Option α}
theorem TC.objVal (hk : L[k]? = some (pobj enc nest t p m)) (h : objV p m → TC F P w0 K N dfs Q c σ L) : TC F P w0 K N dfs Q c σ L := fun a w ha hw => by
  obtain ⟨C1, h1, _⟩ := hw.focus hk
  refine h ?_ a w ha hw
  rcases pobj_shape h1 with ⟨rfl, h2⟩ | ⟨x, b, rfl, h2⟩
  · exact .inl ⟨rfl, h2⟩
  · exact .inr ⟨rfl, b, h2⟩
end
end Go.Proofs.YtgfkogafkhbgnaaDoor
namespace Go.Proofs.YtgfkogafkhbgnaaDoor
open Go.RowKit Go.Lib
def nestR_T_string (z : (List ByteArray) × Hd) : List Asn := [rdSl encS 1 z.2 z.1]
theorem gives_T_string : Gives nest_T_string nestR_T_string := by
  intro z C w h A hA
  simp only [nestR_T_string, List.mem_cons, List.not_mem_nil, or_false] at hA
  rcases hA with rfl
  · obtain ⟨D, h1, h2⟩ := sepL.each h _ (List.mem_of_getElem? (i := 0) rfl); exact ⟨D, rdSl_vec encS_len h1, h2⟩
end Go.Proofs.YtgfkogafkhbgnaaDoor
namespace Go.Proofs.YtgfkogafkhbgnaaDoor
open Go.RowKit Go.Lib
set_option linter.unusedVariables false
set_option linter.unusedSimpArgs false
def ref17_Print_s2 (p1 : Gref17_Poem) (i3 : Int) (j3 : ByteArray → Option ByteArray) (ag2 : ByteArray → Int → Option ByteArray) (s10 : ByteArray) (k4 : Int) : Option ByteArray :=
andThen (getO p1.Stanzas i3) fun (x2 : List ByteArray) =>
bcond (decide ((k4 : Int) < (x2.length : Int))) (
andThen (getO p1.Stanzas i3) fun (x3 : List ByteArray) =>
andThen (getO x3 k4) fun (q2 : ByteArray) =>
grd (q2.size + (⟨#[10]⟩ : ByteArray).size ≤ 9223372036854775807) <|
grd (s10.size + (q2 ++ (⟨#[10]⟩ : ByteArray)).size ≤ 9223372036854775807) <|
grd (I64 (k4 + 1)) <|
ag2 (s10 ++ (q2 ++ (⟨#[10]⟩ : ByteArray))) (k4 + 1)
) (
j3 s10
)
def ref17_Print_s1 (p1 : Gref17_Poem) (j2 : ByteArray → Option ByteArray) (ag1 : ByteArray → Int → Option ByteArray) (s5 : ByteArray) (i3 : Int) : Option ByteArray :=
bcond (decide ((i3 : Int) < (p1.Stanzas.length : Int))) (
joinK (fun (j3 : ByteArray → Option ByteArray) =>
joinK (fun (j4 : ByteArray → Option ByteArray) =>
bcond (!decide (s5 = (⟨#[]⟩ : ByteArray))) (
grd (s5.size + (⟨#[10]⟩ : ByteArray).size ≤ 9223372036854775807) <|
j4 (s5 ++ (⟨#[10]⟩ : ByteArray))
) (
j4 s5
)
) (fun (s7 : ByteArray) =>
loopG (fun _ _ => none) (ref17_Print_s2 p1 i3 j3) fuel s7 0
)
) (fun (s6 : ByteArray) =>
grd (I64 (i3 + 1)) <|
ag1 s6 (i3 + 1)
)
) (
j2 s5
)
def ref17_Print_v (p1 : Gref17_Poem) : Option ByteArray :=
joinK (fun (j1 : ByteArray → Option ByteArray) =>
bcond (!decide (p1.Title = (⟨#[]⟩ : ByteArray))) (
grd ((⟨#[35, 32]⟩ : ByteArray).size + p1.Title.size ≤ 9223372036854775807) <|
grd (((⟨#[35, 32]⟩ : ByteArray) ++ p1.Title).size + (⟨#[10]⟩ : ByteArray).size ≤ 9223372036854775807) <|
j1 (((⟨#[35, 32]⟩ : ByteArray) ++ p1.Title) ++ (⟨#[10]⟩ : ByteArray))
) (
bcond (decide ((0 : Int) < (p1.Stanzas.length : Int))) (
andThen (getO p1.Stanzas 0) fun (x1 : List ByteArray) =>
andThen (getO x1 0) fun (q1 : ByteArray) =>
andThen (ref17_Titled_v q1) fun (r1 : Bool) =>
bcond (r1) (
grd ((⟨#[35, 32]⟩ : ByteArray).size + p1.Title.size ≤ 9223372036854775807) <|
grd (((⟨#[35, 32]⟩ : ByteArray) ++ p1.Title).size + (⟨#[10]⟩ : ByteArray).size ≤ 9223372036854775807) <|
j1 (((⟨#[35, 32]⟩ : ByteArray) ++ p1.Title) ++ (⟨#[10]⟩ : ByteArray))
) (
j1 (⟨#[]⟩ : ByteArray)
)
) (
j1 (⟨#[]⟩ : ByteArray)
)
)
) (fun (s1 : ByteArray) =>
joinK (fun (j2 : ByteArray → Option ByteArray) =>
loopG (fun _ _ => none) (ref17_Print_s1 p1 j2) fuel s1 0
) (fun (s2 : ByteArray) =>
some s2
)
)
set_option maxRecDepth 100000 in
set_option maxHeartbeats 4000000 in
theorem ref17_Print_fn {p1 : Gref17_Poem} {p1_h0 : Hd} {vvp10 : Value} {kp10 : Nat} {Zp10 zp10 : List ((List ByteArray) × Hd)} (hwp10 : Vw vvp10 Zp10 1 kp10 p1_h0.v zp10) (hzp10 : zp10.map Prod.fst = p1.Stanzas) {r : ByteArray} (h : ref17_Print_v p1 = some r) : FnR Tryd.prog 68 [.agg #[.string p1.Title, p1_h0.v]] [roRow encN_T_string 1 vvp10 kp10 Zp10, rdOwn nestR_T_string Zp10] [] (fun _ : Unit => (.string r)) (fun _ => []) := by
 unfold ref17_Print_v at h
 refine FnR.intro Tryd.func68 rfl Tryd.ntmps68 (by simp) ?_
 intro w0 K hrd
 obtain ⟨j1, hj1, h⟩ := joinE h
 refine TC.cutN (β := ByteArray × Nat) 2 rfl (fun b => j1 b.1 = some r) (fun b => []) (fun b => [(1, .pointer (some ⟨b.2, 0, none⟩)), (3, .string b.1)]) (fun b => [cells b.2 [.string p1.Title, p1_h0.v] 56]) (fun cut => ?_) ?_
 ·
  refine TC.seq (TC.region ?_)
  refine TO.box rfl dc rfl (fun b2 => ?_)
  refine TO.assign rfl dc rfl (TO.nil (TX.next (TC.seq (TC.region (TO.assign rfl dc rfl (TO.nil (TX.next (cut (TC.seq (TC.region (TO.fieldAddr fl_56_0 rfl dc rfl (show _ = 0 from rfl) (TO.load (k := 0) sc_9 rfl dc rfl rfl rfl (TO.bin rfl dc rfl rfl bin_sneq ?_)))))))))))))
  refine TO.move rfl dc rfl ?_
  refine TO.split (s := 9) rfl (fun hb1 => ?_) (fun hb1 => ?_)
  ·
   have h := condT hb1 h
   refine TO.skip rfl dc (TO.skip rfl dc (TO.skip rfl dc (TO.skip rfl dc (TO.skip rfl dc (TO.skip rfl dc (TO.skip rfl dc (TO.skip rfl dc (TO.skip rfl dc (TO.skip rfl dc (TO.skip rfl dc (TO.skip rfl dc (TO.skip rfl dc (TO.pick (b := true) rfl dc rfl rfl ?_)))))))))))))
   refine TO.nil (TX.next (TC.condT rfl (TC.region (TO.fieldAddr fl_56_0 rfl dc rfl (show _ = 0 from rfl) (TO.load (k := 0) sc_9 rfl dc rfl rfl rfl ?_)))))
   obtain ⟨hg1, h⟩ := grdE h
   refine TO.bin rfl dc rfl rfl (bin_sadd hg1) ?_
   obtain ⟨hg2, h⟩ := grdE h
   refine TO.bin rfl dc rfl rfl (bin_sadd hg2) (TO.assign rfl dc rfl (TO.nil ?_))
   exact TX.meetD (((⟨#[35, 32]⟩ : ByteArray) ++ p1.Title) ++ (⟨#[10]⟩ : ByteArray), b2) h rfl (Sbs.cons rfl (Sbs.cons rfl (Sbs.nil))) (Splits.of [0] kr rfl)
  ·
   have h := condF hb1 h
   refine TO.fieldAddr fl_56_1 rfl dc rfl (show _ = 1 from rfl) (TO.load (k := 0) sc_54 rfl dc rfl rfl rfl (TO.lenVwZ hzp10 hwp10 rfl dc rfl Tryd.underlying54 (TO.bin rfl dc rfl rfl bin_gtr (TO.move rfl dc rfl ?_))))
   refine TO.split (s := 14) rfl (fun hb2 => ?_) (fun hb2 => ?_)
   ·
    have h := condT hb2 h
    refine TO.fieldAddr fl_56_1 rfl dc rfl (show _ = 1 from rfl) (TO.load (k := 0) sc_54 rfl dc rfl rfl rfl ?_)
    obtain ⟨x1, hq1, h⟩ := andE h
    obtain ⟨eh1, eq1⟩ := getO_z hzp10 hq1
    have hrd : Rd _ _ [roRow encN_T_string 1 vvp10 kp10 Zp10, rdOwn nestR_T_string Zp10, rdSl encS 1 eh1 x1] := hrd.openEl (i := 1) (z := (x1, eh1)) rfl (Vw.get hwp10 eq1)
    obtain ⟨vv1, k1, L1, hV1, hrd⟩ := hrd.openSl (i := 2) rfl
    replace hrd : Rd _ _ [roRow encN_T_string 1 vvp10 kp10 Zp10, rdOwn nestR_T_string Zp10, rdSl encS 1 eh1 x1, roRow encS 1 vv1 k1 L1] := hrd
    refine TO.indexVw hwp10 eq1 Tryd.underlying54 sz_48 rfl dc rfl rfl rfl (TO.loadRowRd (n := kp10 + (0 : Int).toNat) (j := 0) (i := 0) (q := (x1, eh1)) hrd rfl (by omega) sc_48 rfl dc rfl (Vw.get hwp10 eq1) rfl rfl ?_)
    obtain ⟨q1, hq2, h⟩ := andE h
    refine TO.indexVw hV1 hq2 Tryd.underlying48 sz_9 rfl dc rfl rfl rfl (TO.loadRowRd (n := k1 + (0 : Int).toNat) (j := 0) (i := 3) (q := q1) hrd rfl (by omega) sc_9 rfl dc rfl (Vw.get hV1 hq2) rfl rfl ?_)
    obtain ⟨r1, hq3, h⟩ := andE h
    refine TO.callP (v := .bool r1) (vs := [.string q1]) rfl dc rfl rfl rfl en_66 (ref17_Titled_fn hq3) (TO.pick (b := true) rfl dc rfl rfl (TO.pick (b := false) rfl dc rfl rfl (TO.nil (TX.next ?_))))
    refine TC.condB rfl (fun hb3 => ?_) (fun hb3 => ?_)
    ·
     have h := condT hb3 h
     refine TC.region (TO.fieldAddr fl_56_0 rfl dc rfl (show _ = 0 from rfl) (TO.load (k := 0) sc_9 rfl dc rfl rfl rfl ?_))
     obtain ⟨hg3, h⟩ := grdE h
     refine TO.bin rfl dc rfl rfl (bin_sadd hg3) ?_
     obtain ⟨hg4, h⟩ := grdE h
     refine TO.bin rfl dc rfl rfl (bin_sadd hg4) (TO.assign rfl dc rfl (TO.nil ?_))
     exact TX.meetD (((⟨#[35, 32]⟩ : ByteArray) ++ p1.Title) ++ (⟨#[10]⟩ : ByteArray), b2) h rfl (Sbs.cons rfl (Sbs.cons rfl (Sbs.nil))) (Splits.of [0] kr rfl)
    ·
     have h := condF hb3 h
     refine TC.skip ?_
     exact TX.meetD ((⟨#[]⟩ : ByteArray), b2) h rfl (Sbs.cons rfl (Sbs.cons rfl (Sbs.nil))) (Splits.of [0] kr rfl)
   ·
    have h := condF hb2 h
    refine TO.skip rfl dc (TO.skip rfl dc (TO.skip rfl dc (TO.skip rfl dc (TO.skip rfl dc (TO.skip rfl dc (TO.skip rfl dc (TO.pick (b := false) rfl dc rfl rfl (TO.pick (b := false) rfl dc rfl rfl (TO.nil (TX.next (TC.condF rfl (TC.skip ?_))))))))))))
    exact TX.meetD ((⟨#[]⟩ : ByteArray), b2) h rfl (Sbs.cons rfl (Sbs.cons rfl (Sbs.nil))) (Splits.of [0] kr rfl)
 ·
  rintro ⟨s1, b1⟩ h
  rw [hj1] at h
  show TC _ _ _ _ _ ([]) _ _ [(1, .pointer (some ⟨b1, 0, none⟩)), (3, .string s1)] [cells b1 [.string p1.Title, p1_h0.v] 56]
  obtain ⟨j2, hj2, h⟩ := joinE h
  refine TC.cutN (β := ByteArray) 0 rfl (fun b => j2 b = some r) (fun b => []) (fun b => [(3, .string b)]) (fun b => []) (fun cut => ?_) ?_
  ·
   refine cut (TC.seq (TC.region (TO.assign rfl dc rfl (TO.nil (TX.next (TC.block ?_))))))
   refine TC.loopD (β := Nat × ByteArray × Int) (fun b => loopG (fun _ _ => none) (ref17_Print_s1 p1 j2) b.1 b.2.1 b.2.2 = some r) (fun b => []) (fun b => [(1, .pointer (some ⟨b1, 0, none⟩)), (3, .string b.2.1), (4, .int .i64 b.2.2)]) (fun b => [cells b1 [.string p1.Title, p1_h0.v] 56]) (fun b => b.1) (fuel, s1, 0) h rfl (Sbs.cons rfl (Sbs.cons rfl (Sbs.cons rfl (Sbs.nil)))) (Splits.of [0] kr rfl) ?_
   rintro ⟨n1, s5, i3⟩ h
   cases n1 with
   | zero => exact noneE h
   | succ n1 =>
    obtain ⟨ag1, hag1⟩ : ∃ ag, ag = loopG (fun _ _ => none) (ref17_Print_s1 p1 j2) n1 := ⟨_, rfl⟩
    have h : ref17_Print_s1 p1 j2 ag1 s5 i3 = some r := by rw [hag1]; exact h
    unfold ref17_Print_s1 at h
    show TC _ _ _ _ _ ([]) _ _ [(1, .pointer (some ⟨b1, 0, none⟩)), (3, .string s5), (4, .int .i64 i3)] [cells b1 [.string p1.Title, p1_h0.v] 56]
    refine TC.seq (TC.seq (TC.region (TO.move rfl dc rfl (TO.fieldAddr fl_56_1 rfl dc rfl (show _ = 1 from rfl) (TO.load (k := 0) sc_54 rfl dc rfl rfl rfl (TO.lenVwZ hzp10 hwp10 rfl dc rfl Tryd.underlying54 (TO.bin rfl dc rfl rfl bin_lss (TO.nil (TX.next ?_)))))))))
    refine TC.condB rfl (fun hb4 => ?_) (fun hb4 => ?_)
    ·
     have h := condT hb4 h
     refine TC.skip (TX.next ?_)
     obtain ⟨j3, hj3, h⟩ := joinE h
     refine TC.cutN (β := ByteArray) 0 rfl (fun b => j3 b = some r) (fun b => []) (fun b => [(1, .pointer (some ⟨b1, 0, none⟩)), (3, .string b), (4, .int .i64 i3)]) (fun b => [cells b1 [.string p1.Title, p1_h0.v] 56]) (fun cut => ?_) ?_
     ·
      refine cut (TC.block ?_)
      obtain ⟨j4, hj4, h⟩ := joinE h
      refine TC.cutN (β := ByteArray) 0 rfl (fun b => j4 b = some r) (fun b => []) (fun b => [(1, .pointer (some ⟨b1, 0, none⟩)), (3, .string b), (4, .int .i64 i3)]) (fun b => [cells b1 [.string p1.Title, p1_h0.v] 56]) (fun cut => ?_) ?_
      ·
       refine cut (TC.seq (TC.region (TO.move rfl dc rfl (TO.bin rfl dc rfl rfl bin_sneq (TO.nil (TX.next ?_))))))
       refine TC.condB rfl (fun hb5 => ?_) (fun hb5 => ?_)
       ·
        have h := condT hb5 h
        refine TC.region (TO.move rfl dc rfl ?_)
        obtain ⟨hg5, h⟩ := grdE h
        refine TO.bin rfl dc rfl rfl (bin_sadd hg5) (TO.assign rfl dc rfl (TO.nil ?_))
        exact TX.meetD (s5 ++ (⟨#[10]⟩ : ByteArray)) h rfl (Sbs.cons rfl (Sbs.cons rfl (Sbs.cons rfl (Sbs.nil)))) (Splits.of [0] kr rfl)
       ·
        have h := condF hb5 h
        refine TC.skip ?_
        exact TX.meetD s5 h rfl (Sbs.cons rfl (Sbs.cons rfl (Sbs.cons rfl (Sbs.nil)))) (Splits.of [0] kr rfl)
      ·
       rintro s7 h
       rw [hj4] at h
       show TC _ _ _ _ _ ([]) _ _ [(1, .pointer (some ⟨b1, 0, none⟩)), (3, .string s7), (4, .int .i64 i3)] [cells b1 [.string p1.Title, p1_h0.v] 56]
       refine TC.seq (TC.region (TO.assign rfl dc rfl (TO.nil (TX.next (TC.block ?_)))))
       refine TC.loopD (β := Nat × ByteArray × Int) (fun b => loopG (fun _ _ => none) (ref17_Print_s2 p1 i3 j3) b.1 b.2.1 b.2.2 = some r) (fun b => []) (fun b => [(1, .pointer (some ⟨b1, 0, none⟩)), (3, .string b.2.1), (4, .int .i64 i3), (5, .int .i64 b.2.2)]) (fun b => [cells b1 [.string p1.Title, p1_h0.v] 56]) (fun b => b.1) (fuel, s7, 0) h rfl (Sbs.cons rfl (Sbs.cons rfl (Sbs.cons rfl (Sbs.cons rfl (Sbs.nil))))) (Splits.of [0] kr rfl) ?_
       rintro ⟨n2, s10, k4⟩ h
       cases n2 with
       | zero => exact noneE h
       | succ n2 =>
        obtain ⟨ag2, hag2⟩ : ∃ ag, ag = loopG (fun _ _ => none) (ref17_Print_s2 p1 i3 j3) n2 := ⟨_, rfl⟩
        have h : ref17_Print_s2 p1 i3 j3 ag2 s10 k4 = some r := by rw [hag2]; exact h
        unfold ref17_Print_s2 at h
        show TC _ _ _ _ _ ([]) _ _ [(1, .pointer (some ⟨b1, 0, none⟩)), (3, .string s10), (4, .int .i64 i3), (5, .int .i64 k4)] [cells b1 [.string p1.Title, p1_h0.v] 56]
        refine TC.seq (TC.seq (TC.region (TO.move rfl dc rfl (TO.fieldAddr fl_56_1 rfl dc rfl (show _ = 1 from rfl) (TO.load (k := 0) sc_54 rfl dc rfl rfl rfl (TO.move rfl dc rfl ?_))))))
        obtain ⟨x2, hq4, h⟩ := andE h
        obtain ⟨eh2, eq2⟩ := getO_z hzp10 hq4
        have hrd : Rd _ _ [roRow encN_T_string 1 vvp10 kp10 Zp10, rdOwn nestR_T_string Zp10, rdSl encS 1 eh2 x2] := hrd.openEl (i := 1) (z := (x2, eh2)) rfl (Vw.get hwp10 eq2)
        obtain ⟨vv2, k5, L2, hV2, hrd⟩ := hrd.openSl (i := 2) rfl
        replace hrd : Rd _ _ [roRow encN_T_string 1 vvp10 kp10 Zp10, rdOwn nestR_T_string Zp10, rdSl encS 1 eh2 x2, roRow encS 1 vv2 k5 L2] := hrd
        refine TO.indexVw hwp10 eq2 Tryd.underlying54 sz_48 rfl dc rfl rfl rfl (TO.loadRowRd (n := kp10 + (i3 : Int).toNat) (j := 0) (i := 0) (q := (x2, eh2)) hrd rfl (by omega) sc_48 rfl dc rfl (Vw.get hwp10 eq2) rfl rfl (TO.lenVw hV2 rfl dc rfl Tryd.underlying48 (TO.bin rfl dc rfl rfl bin_lss (TO.nil (TX.next ?_)))))
        refine TC.condB rfl (fun hb6 => ?_) (fun hb6 => ?_)
        ·
         have h := condT hb6 h
         refine TC.skip (TX.next (TC.seq (TC.block (TC.region (TO.move rfl dc rfl (TO.fieldAddr fl_56_1 rfl dc rfl (show _ = 1 from rfl) (TO.load (k := 0) sc_54 rfl dc rfl rfl rfl (TO.move rfl dc rfl ?_))))))))
         obtain ⟨x3, hq5, h⟩ := andE h
         obtain ⟨eh3, eq3⟩ := getO_z hzp10 hq5
         have hrd : Rd _ _ [roRow encN_T_string 1 vvp10 kp10 Zp10, rdOwn nestR_T_string Zp10, rdSl encS 1 eh2 x2, roRow encS 1 vv2 k5 L2, rdSl encS 1 eh3 x3] := hrd.openEl (i := 1) (z := (x3, eh3)) rfl (Vw.get hwp10 eq3)
         obtain ⟨vv3, k6, L3, hV3, hrd⟩ := hrd.openSl (i := 4) rfl
         replace hrd : Rd _ _ [roRow encN_T_string 1 vvp10 kp10 Zp10, rdOwn nestR_T_string Zp10, rdSl encS 1 eh2 x2, roRow encS 1 vv2 k5 L2, rdSl encS 1 eh3 x3, roRow encS 1 vv3 k6 L3] := hrd
         refine TO.indexVw hwp10 eq3 Tryd.underlying54 sz_48 rfl dc rfl rfl rfl (TO.loadRowRd (n := kp10 + (i3 : Int).toNat) (j := 0) (i := 0) (q := (x3, eh3)) hrd rfl (by omega) sc_48 rfl dc rfl (Vw.get hwp10 eq3) rfl rfl (TO.move rfl dc rfl ?_))
         obtain ⟨q2, hq6, h⟩ := andE h
         refine TO.indexVw hV3 hq6 Tryd.underlying48 sz_9 rfl dc rfl rfl rfl (TO.loadRowRd (n := k6 + (k4 : Int).toNat) (j := 0) (i := 5) (q := q2) hrd rfl (by omega) sc_9 rfl dc rfl (Vw.get hV3 hq6) rfl rfl ?_)
         obtain ⟨hg6, h⟩ := grdE h
         refine TO.bin rfl dc rfl rfl (bin_sadd hg6) ?_
         obtain ⟨hg7, h⟩ := grdE h
         refine TO.bin rfl dc rfl rfl (bin_sadd hg7) (TO.assign rfl dc rfl (TO.nil (TX.blockNormal (TX.next (TC.region (TO.move rfl dc rfl ?_))))))
         obtain ⟨hg8, h⟩ := grdE h
         refine TO.bin rfl dc rfl rfl (bin_add (r := k4 + 1) (IntWalk.i64_in _ hg8)) (TO.assign rfl dc rfl (TO.nil ?_))
         subst hag2
         exact TX.againD (n2, s10 ++ (q2 ++ (⟨#[10]⟩ : ByteArray)), k4 + 1) h (Nat.lt_succ_self _) rfl (Sbs.cons rfl (Sbs.cons rfl (Sbs.cons rfl (Sbs.cons rfl (Sbs.nil))))) (Splits.of [0] kr rfl)
        ·
         have h := condF hb6 h
         refine TC.exit (TX.thenExit (TX.thenExit (TX.blockHere (TX.blockNormal ?_))))
         exact TX.meetD s10 h rfl (Sbs.cons rfl (Sbs.cons rfl (Sbs.cons rfl (Sbs.nil)))) (Splits.of [0] kr rfl)
     ·
      rintro s6 h
      rw [hj3] at h
      show TC _ _ _ _ _ ([]) _ _ [(1, .pointer (some ⟨b1, 0, none⟩)), (3, .string s6), (4, .int .i64 i3)] [cells b1 [.string p1.Title, p1_h0.v] 56]
      refine TC.region (TO.move rfl dc rfl ?_)
      obtain ⟨hg9, h⟩ := grdE h
      refine TO.bin rfl dc rfl rfl (bin_add (r := i3 + 1) (IntWalk.i64_in _ hg9)) (TO.assign rfl dc rfl (TO.nil ?_))
      subst hag1
      exact TX.againD (n1, s6, i3 + 1) h (Nat.lt_succ_self _) rfl (Sbs.cons rfl (Sbs.cons rfl (Sbs.cons rfl (Sbs.nil)))) (Splits.of [0] kr rfl)
    ·
     have h := condF hb4 h
     refine TC.exit (TX.thenExit (TX.thenExit (TX.blockHere ?_)))
     exact TX.meetD s5 h rfl (Sbs.cons rfl (Sbs.nil)) Splits.nil
  ·
   rintro s2 h
   rw [hj2] at h
   show TC _ _ _ _ _ ([]) _ _ [(3, .string s2)] []
   refine TC.seq (TC.region (TO.move rfl dc rfl (TO.assign rfl dc rfl (TO.nil (TX.next (TC.ret ?_))))))
   cases h
   exact TX.fin (rs := [.tmp 2]) () (.inl rfl) Tryd.results68 (.cons (.tmp rfl) .nil) rfl Splits.nil
def ref17_Read_s1 (s1 : ByteArray) (j1 : ByteArray → (List (List ByteArray)) → (List Gapi_Verse) → Option (Gref17_Poem × (List Gapi_Verse) × Gapi_Spot)) (r1 : (List Gapi_Span)) (ag1 : ByteArray → (List (List ByteArray)) → (List Gapi_Verse) → Bool → Bool → Int → Option (Gref17_Poem × (List Gapi_Verse) × Gapi_Spot)) (p10 : ByteArray) (p11 : List (List ByteArray)) (l4 : List Gapi_Verse) (first3 : Bool) (row3 : Bool) (i3 : Int) : Option (Gref17_Poem × (List Gapi_Verse) × Gapi_Spot) :=
bcond (decide ((i3 : Int) < (r1.length : Int))) (
joinK (fun (j2 : ByteArray → (List (List ByteArray)) → (List Gapi_Verse) → Bool → Bool → Option (Gref17_Poem × (List Gapi_Verse) × Gapi_Spot)) =>
andThen (getO r1 i3) fun (q1 : Gapi_Span) =>
grd (0 ≤ (q1.From : Int) ∧ (q1.From : Int) ≤ q1.To ∧ (q1.To : Int) ≤ (s1.size : Int)) <|
andThen (ref17_Empty_v (cutB s1 q1.From q1.To)) fun (r2 : Bool) =>
bcond (r2) (
j2 p10 p11 l4 first3 false
) (
bcond (decide ((1024 : Int) < ((cutB s1 q1.From q1.To).size : Int))) (
grd (I64 (q1.From + 1024)) <|
some ((⟨ByteArray.empty, ([] : List (List ByteArray))⟩ : Gref17_Poem), ([] : List Gapi_Verse), (⟨3, q1.From + 1024⟩ : Gapi_Spot))
) (
joinK (fun (j3 : Option (Gref17_Poem × (List Gapi_Verse) × Gapi_Spot)) =>
bcond (first3) (
andThen (ref17_Titled_v (cutB s1 q1.From q1.To)) fun (r3 : Bool) =>
bcond (r3) (
joinK (fun (j4 : ByteArray → Option (Gref17_Poem × (List Gapi_Verse) × Gapi_Spot)) =>
bcond (decide ((2 : Int) < ((cutB s1 q1.From q1.To).size : Int))) (
grd (0 ≤ (2 : Int) ∧ (2 : Int) ≤ ((cutB s1 q1.From q1.To).size : Int) ∧ (((cutB s1 q1.From q1.To).size : Int) : Int) ≤ ((cutB s1 q1.From q1.To).size : Int)) <|
j4 (cutB (cutB s1 q1.From q1.To) 2 ((cutB s1 q1.From q1.To).size : Int))
) (
j4 p10
)
) (fun (p14 : ByteArray) =>
j2 p14 p11 l4 false row3
)
) (
j3
)
) (
j3
)
) (
bcond (((l4.length : Int) : Int) == 512) (
some ((⟨ByteArray.empty, ([] : List (List ByteArray))⟩ : Gref17_Poem), ([] : List Gapi_Verse), (⟨3, q1.From⟩ : Gapi_Spot))
) (
joinK (fun (j5 : (List (List ByteArray)) → Option (Gref17_Poem × (List Gapi_Verse) × Gapi_Spot)) =>
bcond (!row3) (
grd (p11.length + 1 ≤ 2147483648) <|
j5 (p11 ++ [([] : List ByteArray)])
) (
j5 p11
)
) (fun (p15 : List (List ByteArray)) =>
grd (I64 ((p15.length : Int) - 1)) <|
andThen (ref17_Indent_v (cutB s1 q1.From q1.To)) fun (r4 : Int) =>
grd (0 ≤ (r4 : Int) ∧ (r4 : Int) ≤ ((cutB s1 q1.From q1.To).size : Int) ∧ (((cutB s1 q1.From q1.To).size : Int) : Int) ≤ ((cutB s1 q1.From q1.To).size : Int)) <|
andThen (ref17_Indent_v (cutB s1 q1.From q1.To)) fun (r5 : Int) =>
andThen (getO p15 ((p15.length : Int) - 1)) fun (x1 : List ByteArray) =>
andThen (ref17_Indent_v (cutB s1 q1.From q1.To)) fun (r6 : Int) =>
grd (I64 (q1.From + r6)) <|
grd (l4.length + 1 ≤ 2147483648) <|
andThen (getO p15 ((p15.length : Int) - 1)) fun (x2 : List ByteArray) =>
grd (x2.length + 1 ≤ 2147483648) <|
j2 p10 (p15.set ((p15.length : Int) - 1 : Int).toNat (x2 ++ [cutB s1 q1.From q1.To])) (l4 ++ [(⟨cutB (cutB s1 q1.From q1.To) r4 ((cutB s1 q1.From q1.To).size : Int), r5, (p15.length : Int) - 1, (x1.length : Int), q1.From + r6, q1.To⟩ : Gapi_Verse)]) false true
)
)
)
)
)
) (fun (p12 : ByteArray) (p13 : List (List ByteArray)) (l5 : List Gapi_Verse) (first4 : Bool) (row4 : Bool) =>
grd (I64 (i3 + 1)) <|
ag1 p12 p13 l5 first4 row4 (i3 + 1)
)
) (
j1 p10 p11 l4
)
def ref17_Read_v (s1 : ByteArray) : Option (Gref17_Poem × (List Gapi_Verse) × Gapi_Spot) :=
bcond (decide ((65536 : Int) < (s1.size : Int))) (
some ((⟨ByteArray.empty, ([] : List (List ByteArray))⟩ : Gref17_Poem), ([] : List Gapi_Verse), (⟨3, 65536⟩ : Gapi_Spot))
) (
joinK (fun (j1 : ByteArray → (List (List ByteArray)) → (List Gapi_Verse) → Option (Gref17_Poem × (List Gapi_Verse) × Gapi_Spot)) =>
andThen (ref17_Lines_v s1) fun (r1 : (List Gapi_Span)) =>
loopG (fun _ _ _ _ _ _ => none) (ref17_Read_s1 s1 j1 r1) fuel ByteArray.empty ([] : List (List ByteArray)) ([] : List Gapi_Verse) true false 0
) (fun (p1 : ByteArray) (p2 : List (List ByteArray)) (l1 : List Gapi_Verse) =>
some ((⟨p1, p2⟩ : Gref17_Poem), l1, (⟨0, 0⟩ : Gapi_Spot))
)
)
set_option maxRecDepth 100000 in
set_option maxHeartbeats 4000000 in
theorem ref17_Read_fn {s1 : ByteArray} {r : (Gref17_Poem × (List Gapi_Verse) × Gapi_Spot)} (h : ref17_Read_v s1 = some r) : Fn Tryd.prog 30 [.string s1] [] (fun b : Hd × Value => .tuple #[.agg #[.string r.1.Title, b.1.v], b.2, .agg #[.int .i64 r.2.2.Err, .int .i64 r.2.2.At]]) (fun b => [vecN encN_T_string nest_T_string 48 1 b.1.v r.1.Stanzas, vec enc_Gapi_Verse 36 6 b.2 r.2.1]) := by
 unfold ref17_Read_v at h
 refine Fn.intro Tryd.func30 rfl Tryd.ntmps30 (by simp) ?_
 intro w0 K
 refine TC.seq (TC.region ?_)
 refine TO.alloc zr_56 rfl dc (fun b1 => ?_)
 refine TO.assign rfl dc rfl ?_
 refine TO.alloc zr_26 rfl dc (fun b2 => ?_)
 show TO _ _ _ _ _ _ _ _ _ _ [cells b1 [.string ByteArray.empty, .slice none 0 0] 56, cells b2 [.int .i64 0, .int .i64 0] 26]
 refine TO.nil (TX.next (TC.seq (TC.region ?_)))
 refine TO.alloc zr_56 rfl dc (fun b3 => ?_)
 refine TO.nil (TX.next (TC.seq (TC.region (TO.assign rfl dc rfl (TO.nil (TX.next (TC.seq (TC.seq (TC.region (TO.move rfl dc rfl (TO.lenStr rfl dc rfl Tryd.underlying9 (TO.bin rfl dc rfl rfl bin_gtr (TO.nil ?_)))))))))))))
 refine TX.next ?_
 refine TC.condB rfl (fun hb1 => ?_) (fun hb1 => ?_)
 ·
  have h := condT hb1 h
  refine TC.seq (TC.region (TO.loads (k := 2) (cs := [.string ByteArray.empty, .slice none 0 0]) rw_56 rfl dc rfl rfl rfl rfl ?_))
  refine TO.build (v := .agg #[.int .i64 3, .int .i64 65536]) (ps := [(0, .const (.int .i64 3)), (1, .const (.int .i64 65536))]) rfl dc rfl (fun _ => by kernel_rfl) ?_
  refine TO.stores (k := 0) (vs := [.string ByteArray.empty, .slice none 0 0]) (l' := [.string ByteArray.empty, .slice none 0 0]) sz_56 rfl rfl rfl rfl rfl (show _ ≤ _ by simp) rfl rfl ?_
  show TO _ _ _ _ _ _ _ _ _ _ [cells b1 [.string ByteArray.empty, .slice none 0 0] 56, cells b2 [.int .i64 0, .int .i64 0] 26, cells b3 [.string ByteArray.empty, .slice none 0 0] 56]
  refine TO.assign rfl dc rfl (TO.stores (k := 1) (vs := [.int .i64 3, .int .i64 65536]) (l' := [.int .i64 3, .int .i64 65536]) sz_26 rfl rfl rfl rfl rfl (show _ ≤ _ by simp) rfl rfl (TO.nil (TX.next (TC.ret (TX.thenRet (TX.newN (enc := encN_T_string) (nest := nest_T_string) (e := 48) (size := 1) ?_))))))
  show TX _ _ _ _ _ _ _ [cells b1 [.string ByteArray.empty, .slice none 0 0] 56, cells b2 [.int .i64 3, .int .i64 65536] 26, cells b3 [.string ByteArray.empty, .slice none 0 0] 56, vecN encN_T_string nest_T_string 48 1 (.slice none 0 0) ([] : List (List ByteArray))]
  refine TX.newVec (enc := enc_Gapi_Verse) (e := 36) (size := 6) ?_
  show TX _ _ _ _ _ _ _ [cells b1 [.string ByteArray.empty, .slice none 0 0] 56, cells b2 [.int .i64 3, .int .i64 65536] 26, cells b3 [.string ByteArray.empty, .slice none 0 0] 56, vecN encN_T_string nest_T_string 48 1 (.slice none 0 0) ([] : List (List ByteArray)), vec enc_Gapi_Verse 36 6 (.slice none 0 0) ([] : List Gapi_Verse)]
  cases h
  exact TX.fin (rs := [.cell 2 56, .tmp 3, .cell 4 26]) (Hd.nil, (.slice none 0 0)) (.inl rfl) Tryd.results30 (.cons (.cells rw_56 (k := 0) rfl rfl rfl) (.cons (.tmp rfl) (.cons (.cells rw_26 (k := 1) rfl rfl rfl) .nil))) rfl (Splits.of [3, 4] kr rfl)
 ·
  have h := condF hb1 h
  refine TC.skip (TX.next ?_)
  obtain ⟨j1, hj1, h⟩ := joinE h
  refine TC.cutN (β := ByteArray × (List (List ByteArray)) × (List Gapi_Verse) × Hd × Hd) 2 rfl (fun b => j1 b.1 b.2.1 b.2.2.1 = some r) (fun b => []) (fun b => [(2, .pointer (some ⟨b1, 0, none⟩)), (4, .pointer (some ⟨b2, 0, none⟩)), (5, .pointer (some ⟨b3, 0, none⟩)), (6, b.2.2.2.2.v)]) (fun b => [cells b1 [.string ByteArray.empty, .slice none 0 0] 56, cells b2 [.int .i64 0, .int .i64 0] 26, cells b3 [.string b.1, b.2.2.2.1.v] 56, vecN encN_T_string nest_T_string 48 1 b.2.2.2.1.v b.2.1, vec enc_Gapi_Verse 36 6 b.2.2.2.2.v b.2.2.1]) (fun cut => ?_) ?_
  ·
   refine TC.seq (TC.region (TO.move rfl dc rfl ?_))
   obtain ⟨r1, hq1, h⟩ := andE h
   refine TO.call (vs := [.string s1]) rfl dc rfl rfl rfl en_64 (ref17_Lines_fn hq1) Splits.nil ?_
   rintro v1
   show TO _ _ _ _ _ _ _ _ _ _ [cells b1 [.string ByteArray.empty, .slice none 0 0] 56, cells b2 [.int .i64 0, .int .i64 0] 26, cells b3 [.string ByteArray.empty, .slice none 0 0] 56, vec enc_Gapi_Span 34 2 v1 r1]
   refine TO.weakenL (L' := [cells b1 [.string ByteArray.empty, .slice none 0 0] 56, cells b2 [.int .i64 0, .int .i64 0] 26, cells b3 [.string ByteArray.empty, .slice none 0 0] 56, vec enc_Gapi_Span 34 2 v1 r1]) (Splits.of [0, 1, 2, 3] kr rfl) ?_
   refine TO.nameHd (k := 3) rfl (fun hd3 he1 => ?_)
   subst he1
   refine TO.assign rfl dc rfl (TO.nil (TX.next (TC.seq (TC.region (TO.assign rfl dc rfl (TO.assign rfl dc rfl (TO.nil (TX.next (cut (TC.seq (TC.region (TO.assign rfl dc rfl (TO.nil ?_)))))))))))))
   refine TX.next (TC.block (TC.newN (enc := encN_T_string) (nest := nest_T_string) (e := 48) (size := 1) ?_))
   show TC _ _ _ _ _ _ _ _ _ [cells b1 [.string ByteArray.empty, .slice none 0 0] 56, cells b2 [.int .i64 0, .int .i64 0] 26, cells b3 [.string ByteArray.empty, .slice none 0 0] 56, vec enc_Gapi_Span 34 2 hd3.v r1, vecN encN_T_string nest_T_string 48 1 (.slice none 0 0) ([] : List (List ByteArray))]
   refine TC.newVec (enc := enc_Gapi_Verse) (e := 36) (size := 6) ?_
   show TC _ _ _ _ _ _ _ _ _ [cells b1 [.string ByteArray.empty, .slice none 0 0] 56, cells b2 [.int .i64 0, .int .i64 0] 26, cells b3 [.string ByteArray.empty, (.slice none 0 0)] 56, vec enc_Gapi_Span 34 2 hd3.v r1, vecN encN_T_string nest_T_string 48 1 (.slice none 0 0) ([] : List (List ByteArray)), vec enc_Gapi_Verse 36 6 (.slice none 0 0) ([] : List Gapi_Verse)]
   refine TC.loopD (β := Nat × ByteArray × (List (List ByteArray)) × (List Gapi_Verse) × Bool × Bool × Int × Hd × Hd) (fun b => loopG (fun _ _ _ _ _ _ => none) (ref17_Read_s1 s1 j1 r1) b.1 b.2.1 b.2.2.1 b.2.2.2.1 b.2.2.2.2.1 b.2.2.2.2.2.1 b.2.2.2.2.2.2.1 = some r) (fun b => []) (fun b => [(0, .string s1), (2, .pointer (some ⟨b1, 0, none⟩)), (4, .pointer (some ⟨b2, 0, none⟩)), (5, .pointer (some ⟨b3, 0, none⟩)), (6, b.2.2.2.2.2.2.2.2.v), (7, hd3.v), (8, .bool b.2.2.2.2.1), (9, .bool b.2.2.2.2.2.1), (10, .int .i64 b.2.2.2.2.2.2.1)]) (fun b => [cells b1 [.string ByteArray.empty, .slice none 0 0] 56, cells b2 [.int .i64 0, .int .i64 0] 26, cells b3 [.string b.2.1, b.2.2.2.2.2.2.2.1.v] 56, vecN encN_T_string nest_T_string 48 1 b.2.2.2.2.2.2.2.1.v b.2.2.1, vec enc_Gapi_Verse 36 6 b.2.2.2.2.2.2.2.2.v b.2.2.2.1, vec enc_Gapi_Span 34 2 hd3.v r1]) (fun b => b.1) (fuel, ByteArray.empty, ([] : List (List ByteArray)), ([] : List Gapi_Verse), true, false, 0, Hd.nil, Hd.nil) h rfl (Sbs.cons rfl (Sbs.cons rfl (Sbs.cons rfl (Sbs.cons rfl (Sbs.cons rfl (Sbs.cons rfl (Sbs.cons rfl (Sbs.cons rfl (Sbs.cons rfl (Sbs.nil)))))))))) (Splits.of [0, 1, 2, 4, 5, 3] kr rfl) ?_
   rintro ⟨n1, p10, p11, l4, first3, row3, i3, hd9, hd10⟩ h
   cases n1 with
   | zero => exact noneE h
   | succ n1 =>
    obtain ⟨ag1, hag1⟩ : ∃ ag, ag = loopG (fun _ _ _ _ _ _ => none) (ref17_Read_s1 s1 j1 r1) n1 := ⟨_, rfl⟩
    have h : ref17_Read_s1 s1 j1 r1 ag1 p10 p11 l4 first3 row3 i3 = some r := by rw [hag1]; exact h
    unfold ref17_Read_s1 at h
    show TC _ _ _ _ _ ([]) _ _ [(0, .string s1), (2, .pointer (some ⟨b1, 0, none⟩)), (4, .pointer (some ⟨b2, 0, none⟩)), (5, .pointer (some ⟨b3, 0, none⟩)), (6, hd10.v), (7, hd3.v), (8, .bool first3), (9, .bool row3), (10, .int .i64 i3)] [cells b1 [.string ByteArray.empty, .slice none 0 0] 56, cells b2 [.int .i64 0, .int .i64 0] 26, cells b3 [.string p10, hd9.v] 56, vecN encN_T_string nest_T_string 48 1 hd9.v p11, vec enc_Gapi_Verse 36 6 hd10.v l4, vec enc_Gapi_Span 34 2 hd3.v r1]
    refine TC.seq (TC.seq (TC.region (TO.move rfl dc rfl (TO.move rfl dc rfl (TO.lenVec (k := 5) rfl dc rfl rfl Tryd.underlying89 (TO.bin rfl dc rfl rfl bin_lss (TO.nil (TX.next ?_))))))))
    refine TC.condB rfl (fun hb2 => ?_) (fun hb2 => ?_)
    ·
     have h := condT hb2 h
     refine TC.skip (TX.next ?_)
     obtain ⟨j2, hj2, h⟩ := joinE h
     refine TC.cutN (β := ByteArray × (List (List ByteArray)) × (List Gapi_Verse) × Bool × Bool × Hd × Hd) 0 rfl (fun b => j2 b.1 b.2.1 b.2.2.1 b.2.2.2.1 b.2.2.2.2.1 = some r) (fun b => []) (fun b => [(0, .string s1), (2, .pointer (some ⟨b1, 0, none⟩)), (4, .pointer (some ⟨b2, 0, none⟩)), (5, .pointer (some ⟨b3, 0, none⟩)), (6, b.2.2.2.2.2.2.v), (7, hd3.v), (8, .bool b.2.2.2.1), (9, .bool b.2.2.2.2.1), (10, .int .i64 i3)]) (fun b => [cells b1 [.string ByteArray.empty, .slice none 0 0] 56, cells b2 [.int .i64 0, .int .i64 0] 26, cells b3 [.string b.1, b.2.2.2.2.2.1.v] 56, vecN encN_T_string nest_T_string 48 1 b.2.2.2.2.2.1.v b.2.1, vec enc_Gapi_Verse 36 6 b.2.2.2.2.2.2.v b.2.2.1, vec enc_Gapi_Span 34 2 hd3.v r1]) (fun cut => ?_) ?_
     ·
      refine cut (TC.block (TC.seq (TC.region (TO.move rfl dc rfl (TO.move rfl dc rfl ?_)))))
      obtain ⟨q1, hq2, h⟩ := andE h
      refine TO.indexVecI (k := 5) hq2 Tryd.underlying89 sz_34 rfl dc rfl rfl rfl rfl (TO.loadsVec (i := (i3 : Int).toNat) (j := 0) (k := 5) (q := q1) (cs := [.int .i64 q1.From, .int .i64 q1.To]) rw_34 enc_Gapi_Span_len rfl dc rfl rfl (getO_get hq2) rfl rfl rfl ?_)
      refine TO.alloc zr_34 rfl dc (fun b4 => ?_)
      refine TO.stores (k := 6) (vs := [.int .i64 q1.From, .int .i64 q1.To]) (l' := [.int .i64 q1.From, .int .i64 q1.To]) sz_34 rfl rfl rfl rfl rfl (show _ ≤ _ by simp) rfl rfl ?_
      show TO _ _ _ _ _ _ _ _ _ _ [cells b1 [.string ByteArray.empty, .slice none 0 0] 56, cells b2 [.int .i64 0, .int .i64 0] 26, cells b3 [.string p10, hd9.v] 56, vecN encN_T_string nest_T_string 48 1 hd9.v p11, vec enc_Gapi_Verse 36 6 hd10.v l4, vec enc_Gapi_Span 34 2 hd3.v r1, cells b4 [.int .i64 q1.From, .int .i64 q1.To] 34]
      refine TO.nil (TX.next (TC.seq (TC.region (TO.move rfl dc rfl (TO.fieldAddr fl_34_0 rfl dc rfl (show _ = 0 from rfl) (TO.load (k := 6) sc_3 rfl dc rfl rfl rfl (TO.fieldAddr fl_34_1 rfl dc rfl (show _ = 1 from rfl) (TO.load (k := 6) sc_3 rfl dc rfl rfl rfl ?_))))))))
      obtain ⟨hg1, h⟩ := grdE h
      refine TO.slice rfl dc rfl rfl rfl (slice_stringI (i := q1.From) (j := q1.To) Tryd.underlying9 (.inr rfl) (.inr rfl) hg1) (TO.assign rfl dc rfl (TO.nil (TX.next (TC.seq (TC.seq (TC.region (TO.move rfl dc rfl ?_)))))))
      obtain ⟨r2, hq3, h⟩ := andE h
      refine TO.callP (v := .bool r2) (vs := [.string (cutB s1 q1.From q1.To)]) rfl dc rfl rfl rfl en_65 (ref17_Empty_fn hq3) (TO.nil (TX.next ?_))
      refine TC.condB rfl (fun hb3 => ?_) (fun hb3 => ?_)
      ·
       have h := condT hb3 h
       refine TC.seq (TC.region (TO.assign rfl dc rfl (TO.nil (TX.next (TC.exit (TX.thenExit (TX.blockHere ?_)))))))
       exact TX.meetD (p10, p11, l4, first3, false, hd9, hd10) h rfl (Sbs.cons rfl (Sbs.cons rfl (Sbs.cons rfl (Sbs.cons rfl (Sbs.cons rfl (Sbs.cons rfl (Sbs.cons rfl (Sbs.cons rfl (Sbs.cons rfl (Sbs.nil)))))))))) (Splits.of [0, 1, 2, 3, 4, 5] kr rfl)
      ·
       have h := condF hb3 h
       refine TC.skip (TX.next (TC.seq (TC.seq (TC.region (TO.move rfl dc rfl (TO.lenStr rfl dc rfl Tryd.underlying9 (TO.bin rfl dc rfl rfl bin_gtr (TO.nil (TX.next ?_)))))))))
       refine TC.condB rfl (fun hb4 => ?_) (fun hb4 => ?_)
       ·
        have h := condT hb4 h
        refine TC.seq ?_
        obtain ⟨hg2, h⟩ := grdE h
        refine TC.drawN 7 [(0, 43, .agg #[.string ByteArray.empty, .slice none 0 0]), (1, 44, .pointer (some ⟨b4, 0, none⟩)), (2, 45, .int .i64 q1.From), (3, 46, .int .i64 (q1.From + 1024)), (4, 47, .agg #[.int .i64 3, .int .i64 (q1.From + 1024)]), (6, 3, .slice none 0 0)] mixed kr kr dc (by rfl) kr kr (DrawPre.cons ?_ (DrawPre.cons ?_ (DrawPre.cons ?_ (DrawPre.cons ?_ (DrawPre.cons ?_ (DrawPre.cons ?_ (DrawPre.cons ?_ DrawPre.nil))))))) ?_
        ·
         intro D hn hd hcl hu hi
         refine TO.build (v := .agg #[.string ByteArray.empty, .slice none 0 0]) (ps := []) rfl dc evP.nil (fun _ => by kernel_rfl) ?_
         exact TX.quiet 0 hu hi rfl
        ·
         intro D hn hd hcl hu hi
         refine TO.fieldAddr fl_34_0 rfl dc (dl_old (by rfl) rfl) (show _ = 0 from rfl) ?_
         exact TX.quiet 1 hu hi rfl
        ·
         intro D hn hd hcl hu hi
         refine TO.load (k := 6) sc_3 rfl dc (dl_lookup (m := 1) hu rfl (hd 1 dc)) rfl rfl ?_
         exact TX.quiet 2 hu hi rfl
        ·
         intro D hn hd hcl hu hi
         refine TO.bin rfl dc (dl_lookup (m := 2) hu rfl (hd 2 dc)) rfl (bin_add (r := q1.From + 1024) (IntWalk.i64_in _ hg2)) ?_
         exact TX.quiet 3 hu hi rfl
        ·
         intro D hn hd hcl hu hi
         refine TO.build (v := .agg #[.int .i64 3, .int .i64 (q1.From + 1024)]) (ps := [(0, .const (.int .i64 3)), (1, .tmp 46)]) rfl dc (evP.cons rfl (evP.cons (dl_lookup (m := 3) hu rfl (hd 3 dc)) evP.nil)) (fun _ => by kernel_rfl) ?_
         exact TX.quiet 4 hu hi rfl
        ·
         intro D hn hd hcl hu hi
         refine TO.stores (k := 0) (vs := [.string ByteArray.empty, .slice none 0 0]) (l' := [.string ByteArray.empty, .slice none 0 0]) sz_56 rfl (dl_old (by rfl) rfl) (dl_lookup (m := 0) hu rfl (hd 0 dc)) rfl rfl (show _ ≤ _ by simp) rfl rfl ?_
         exact TX.quiet0 (by rfl)
        ·
         intro D hn hd hcl hu hi
         refine TO.assign rfl dc rfl ?_
         exact TX.quiet 5 hu hi rfl
        refine TO.stores (k := 1) (vs := [.int .i64 3, .int .i64 (q1.From + 1024)]) (l' := [.int .i64 3, .int .i64 (q1.From + 1024)]) sz_26 rfl rfl rfl rfl rfl (show _ ≤ _ by simp) rfl rfl (TO.nil (TX.next (TC.ret (TX.thenRet (TX.blockRet (TX.thenRet (TX.thenRet (TX.blockRet (TX.thenRet (TX.newN (enc := encN_T_string) (nest := nest_T_string) (e := 48) (size := 1) ?_))))))))))
        show TX _ _ _ _ _ _ _ [cells b1 [.string ByteArray.empty, .slice none 0 0] 56, cells b2 [.int .i64 3, .int .i64 (q1.From + 1024)] 26, cells b3 [.string p10, hd9.v] 56, vecN encN_T_string nest_T_string 48 1 hd9.v p11, vec enc_Gapi_Verse 36 6 hd10.v l4, vec enc_Gapi_Span 34 2 hd3.v r1, cells b4 [.int .i64 q1.From, .int .i64 q1.To] 34, vecN encN_T_string nest_T_string 48 1 (.slice none 0 0) ([] : List (List ByteArray))]
        refine TX.newVec (enc := enc_Gapi_Verse) (e := 36) (size := 6) ?_
        show TX _ _ _ _ _ _ _ [cells b1 [.string ByteArray.empty, .slice none 0 0] 56, cells b2 [.int .i64 3, .int .i64 (q1.From + 1024)] 26, cells b3 [.string p10, hd9.v] 56, vecN encN_T_string nest_T_string 48 1 hd9.v p11, vec enc_Gapi_Verse 36 6 hd10.v l4, vec enc_Gapi_Span 34 2 hd3.v r1, cells b4 [.int .i64 q1.From, .int .i64 q1.To] 34, vecN encN_T_string nest_T_string 48 1 (.slice none 0 0) ([] : List (List ByteArray)), vec enc_Gapi_Verse 36 6 (.slice none 0 0) ([] : List Gapi_Verse)]
        cases h
        exact TX.fin (rs := [.cell 2 56, .tmp 3, .cell 4 26]) (Hd.nil, (.slice none 0 0)) (.inl rfl) Tryd.results30 (.cons (.cells rw_56 (k := 0) rfl rfl rfl) (.cons (.tmp rfl) (.cons (.cells rw_26 (k := 1) rfl rfl rfl) .nil))) rfl (Splits.of [7, 8] kr rfl)
       ·
        have h := condF hb4 h
        refine TC.skip (TX.next ?_)
        obtain ⟨j3, hj3, h⟩ := joinE h
        refine TC.cutN (β := Unit) 0 rfl (fun b => j3 = some r) (fun b => []) (fun b => [(0, .string s1), (2, .pointer (some ⟨b1, 0, none⟩)), (4, .pointer (some ⟨b2, 0, none⟩)), (5, .pointer (some ⟨b3, 0, none⟩)), (6, hd10.v), (7, hd3.v), (9, .bool row3), (10, .int .i64 i3), (11, .pointer (some ⟨b4, 0, none⟩)), (12, .string (cutB s1 q1.From q1.To))]) (fun b => [cells b1 [.string ByteArray.empty, .slice none 0 0] 56, cells b2 [.int .i64 0, .int .i64 0] 26, cells b3 [.string p10, hd9.v] 56, vecN encN_T_string nest_T_string 48 1 hd9.v p11, vec enc_Gapi_Verse 36 6 hd10.v l4, vec enc_Gapi_Span 34 2 hd3.v r1, cells b4 [.int .i64 q1.From, .int .i64 q1.To] 34]) (fun cut => ?_) ?_
        ·
         refine cut (TC.seq (TC.region (TO.move rfl dc rfl (TO.move rfl dc rfl ?_))))
         refine TO.split (s := 49) rfl (fun hb5 => ?_) (fun hb5 => ?_)
         ·
          have h := condT hb5 h
          refine TO.move rfl dc rfl ?_
          obtain ⟨r3, hq4, h⟩ := andE h
          refine TO.callP (v := .bool r3) (vs := [.string (cutB s1 q1.From q1.To)]) rfl dc rfl rfl rfl en_66 (ref17_Titled_fn hq4) (TO.pick (b := true) rfl dc rfl rfl (TO.nil (TX.next ?_)))
          refine TC.condB rfl (fun hb6 => ?_) (fun hb6 => ?_)
          ·
           have h := condT hb6 h
           obtain ⟨j4, hj4, h⟩ := joinE h
           refine TC.cutN (β := ByteArray) 1 rfl (fun b => j4 b = some r) (fun b => []) (fun b => [(0, .string s1), (2, .pointer (some ⟨b1, 0, none⟩)), (4, .pointer (some ⟨b2, 0, none⟩)), (5, .pointer (some ⟨b3, 0, none⟩)), (6, hd10.v), (7, hd3.v), (8, .bool false), (9, .bool row3), (10, .int .i64 i3), (50, .string (cutB s1 q1.From q1.To)), (51, .bool r3)]) (fun b => [cells b1 [.string ByteArray.empty, .slice none 0 0] 56, cells b2 [.int .i64 0, .int .i64 0] 26, cells b3 [.string b, hd9.v] 56, vecN encN_T_string nest_T_string 48 1 hd9.v p11, vec enc_Gapi_Verse 36 6 hd10.v l4, vec enc_Gapi_Span 34 2 hd3.v r1]) (fun cut => ?_) ?_
           ·
            refine TC.seq (TC.region (TO.assign rfl dc rfl (TO.nil (TX.next (cut (TC.seq (TC.region (TO.move rfl dc rfl (TO.lenStr rfl dc rfl Tryd.underlying9 (TO.bin rfl dc rfl rfl bin_gtr (TO.nil (TX.next ?_))))))))))))
            refine TC.condB rfl (fun hb7 => ?_) (fun hb7 => ?_)
            ·
             have h := condT hb7 h
             refine TC.region (TO.move rfl dc rfl ?_)
             obtain ⟨hg3, h⟩ := grdE h
             refine TO.slice rfl dc rfl rfl rfl (slice_stringI (i := 2) (j := ((cutB s1 q1.From q1.To).size : Int)) Tryd.underlying9 (.inr rfl) (.inl ⟨rfl, rfl⟩) hg3) (TO.fieldAddr fl_56_0 rfl dc rfl (show _ = 0 from rfl) ?_)
             refine TO.store (k := 2) (l' := [.string (cutB (cutB s1 q1.From q1.To) 2 ((cutB s1 q1.From q1.To).size : Int)), hd9.v]) sz_9 rfl rfl rfl rfl rfl (fun _ _ => rfl) rfl ?_
             refine TO.nil ?_
             exact TX.meetD (cutB (cutB s1 q1.From q1.To) 2 ((cutB s1 q1.From q1.To).size : Int)) h rfl (Sbs.cons rfl (Sbs.cons rfl (Sbs.cons rfl (Sbs.cons rfl (Sbs.cons rfl (Sbs.cons rfl (Sbs.cons rfl (Sbs.cons rfl (Sbs.cons rfl (Sbs.cons rfl (Sbs.cons rfl (Sbs.nil)))))))))))) (Splits.of [0, 1, 2, 3, 4, 5] kr rfl)
            ·
             have h := condF hb7 h
             refine TC.skip ?_
             exact TX.meetD p10 h rfl (Sbs.cons rfl (Sbs.cons rfl (Sbs.cons rfl (Sbs.cons rfl (Sbs.cons rfl (Sbs.cons rfl (Sbs.cons rfl (Sbs.cons rfl (Sbs.cons rfl (Sbs.cons rfl (Sbs.cons rfl (Sbs.nil)))))))))))) (Splits.of [0, 1, 2, 3, 4, 5] kr rfl)
           ·
            rintro p14 h
            rw [hj4] at h
            show TC _ _ _ _ _ ([]) _ _ [(0, .string s1), (2, .pointer (some ⟨b1, 0, none⟩)), (4, .pointer (some ⟨b2, 0, none⟩)), (5, .pointer (some ⟨b3, 0, none⟩)), (6, hd10.v), (7, hd3.v), (8, .bool false), (9, .bool row3), (10, .int .i64 i3), (50, .string (cutB s1 q1.From q1.To)), (51, .bool r3)] [cells b1 [.string ByteArray.empty, .slice none 0 0] 56, cells b2 [.int .i64 0, .int .i64 0] 26, cells b3 [.string p14, hd9.v] 56, vecN encN_T_string nest_T_string 48 1 hd9.v p11, vec enc_Gapi_Verse 36 6 hd10.v l4, vec enc_Gapi_Span 34 2 hd3.v r1]
            refine TC.exit (TX.thenExit (TX.blockHere ?_))
            exact TX.meetD (p14, p11, l4, false, row3, hd9, hd10) h rfl (Sbs.cons rfl (Sbs.cons rfl (Sbs.cons rfl (Sbs.cons rfl (Sbs.cons rfl (Sbs.cons rfl (Sbs.cons rfl (Sbs.cons rfl (Sbs.cons rfl (Sbs.nil)))))))))) (Splits.of [0, 1, 2, 3, 4, 5] kr rfl)
          ·
           have h := condF hb6 h
           refine TC.skip ?_
           exact TX.meetD () h rfl (Sbs.cons rfl (Sbs.cons rfl (Sbs.cons rfl (Sbs.cons rfl (Sbs.cons rfl (Sbs.cons rfl (Sbs.cons rfl (Sbs.cons rfl (Sbs.cons rfl (Sbs.cons rfl (Sbs.nil))))))))))) (Splits.of [0, 1, 2, 3, 4, 5, 6] kr rfl)
         ·
          have h := condF hb5 h
          refine TO.skip rfl dc (TO.skip rfl dc (TO.pick (b := false) rfl dc rfl rfl (TO.nil (TX.next (TC.condF rfl (TC.skip ?_))))))
          exact TX.meetD () h rfl (Sbs.cons rfl (Sbs.cons rfl (Sbs.cons rfl (Sbs.cons rfl (Sbs.cons rfl (Sbs.cons rfl (Sbs.cons rfl (Sbs.cons rfl (Sbs.cons rfl (Sbs.cons rfl (Sbs.nil))))))))))) (Splits.of [0, 1, 2, 3, 4, 5, 6] kr rfl)
        ·
         rintro _ h
         rw [hj3] at h
         show TC _ _ _ _ _ ([]) _ _ [(0, .string s1), (2, .pointer (some ⟨b1, 0, none⟩)), (4, .pointer (some ⟨b2, 0, none⟩)), (5, .pointer (some ⟨b3, 0, none⟩)), (6, hd10.v), (7, hd3.v), (9, .bool row3), (10, .int .i64 i3), (11, .pointer (some ⟨b4, 0, none⟩)), (12, .string (cutB s1 q1.From q1.To))] [cells b1 [.string ByteArray.empty, .slice none 0 0] 56, cells b2 [.int .i64 0, .int .i64 0] 26, cells b3 [.string p10, hd9.v] 56, vecN encN_T_string nest_T_string 48 1 hd9.v p11, vec enc_Gapi_Verse 36 6 hd10.v l4, vec enc_Gapi_Span 34 2 hd3.v r1, cells b4 [.int .i64 q1.From, .int .i64 q1.To] 34]
         refine TC.seq (TC.region (TO.assign rfl dc rfl (TO.nil (TX.next (TC.seq (TC.seq (TC.region (TO.move rfl dc rfl (TO.lenVec (k := 4) rfl dc rfl rfl Tryd.underlying57 (TO.bin rfl dc rfl rfl bin_eql (TO.nil (TX.next ?_))))))))))))
         refine TC.condB rfl (fun hb8 => ?_) (fun hb8 => ?_)
         ·
          have h := condT hb8 h
          refine TC.seq ?_
          refine TC.drawN 6 [(0, 62, .agg #[.string ByteArray.empty, .slice none 0 0]), (1, 63, .pointer (some ⟨b4, 0, none⟩)), (2, 64, .int .i64 q1.From), (3, 65, .agg #[.int .i64 3, .int .i64 q1.From]), (5, 3, .slice none 0 0)] mixed kr kr dc (by rfl) kr kr (DrawPre.cons ?_ (DrawPre.cons ?_ (DrawPre.cons ?_ (DrawPre.cons ?_ (DrawPre.cons ?_ (DrawPre.cons ?_ DrawPre.nil)))))) ?_
          ·
           intro D hn hd hcl hu hi
           refine TO.build (v := .agg #[.string ByteArray.empty, .slice none 0 0]) (ps := []) rfl dc evP.nil (fun _ => by kernel_rfl) ?_
           exact TX.quiet 0 hu hi rfl
          ·
           intro D hn hd hcl hu hi
           refine TO.fieldAddr fl_34_0 rfl dc (dl_old (by rfl) rfl) (show _ = 0 from rfl) ?_
           exact TX.quiet 1 hu hi rfl
          ·
           intro D hn hd hcl hu hi
           refine TO.load (k := 6) sc_3 rfl dc (dl_lookup (m := 1) hu rfl (hd 1 dc)) rfl rfl ?_
           exact TX.quiet 2 hu hi rfl
          ·
           intro D hn hd hcl hu hi
           refine TO.build (v := .agg #[.int .i64 3, .int .i64 q1.From]) (ps := [(0, .const (.int .i64 3)), (1, .tmp 64)]) rfl dc (evP.cons rfl (evP.cons (dl_lookup (m := 2) hu rfl (hd 2 dc)) evP.nil)) (fun _ => by kernel_rfl) ?_
           exact TX.quiet 3 hu hi rfl
          ·
           intro D hn hd hcl hu hi
           refine TO.stores (k := 0) (vs := [.string ByteArray.empty, .slice none 0 0]) (l' := [.string ByteArray.empty, .slice none 0 0]) sz_56 rfl (dl_old (by rfl) rfl) (dl_lookup (m := 0) hu rfl (hd 0 dc)) rfl rfl (show _ ≤ _ by simp) rfl rfl ?_
           exact TX.quiet0 (by rfl)
          ·
           intro D hn hd hcl hu hi
           refine TO.assign rfl dc rfl ?_
           exact TX.quiet 4 hu hi rfl
          refine TO.stores (k := 1) (vs := [.int .i64 3, .int .i64 q1.From]) (l' := [.int .i64 3, .int .i64 q1.From]) sz_26 rfl rfl rfl rfl rfl (show _ ≤ _ by simp) rfl rfl (TO.nil (TX.next (TC.ret (TX.thenRet (TX.blockRet (TX.thenRet (TX.thenRet (TX.blockRet (TX.thenRet (TX.newN (enc := encN_T_string) (nest := nest_T_string) (e := 48) (size := 1) ?_))))))))))
          show TX _ _ _ _ _ _ _ [cells b1 [.string ByteArray.empty, .slice none 0 0] 56, cells b2 [.int .i64 3, .int .i64 q1.From] 26, cells b3 [.string p10, hd9.v] 56, vecN encN_T_string nest_T_string 48 1 hd9.v p11, vec enc_Gapi_Verse 36 6 hd10.v l4, vec enc_Gapi_Span 34 2 hd3.v r1, cells b4 [.int .i64 q1.From, .int .i64 q1.To] 34, vecN encN_T_string nest_T_string 48 1 (.slice none 0 0) ([] : List (List ByteArray))]
          refine TX.newVec (enc := enc_Gapi_Verse) (e := 36) (size := 6) ?_
          show TX _ _ _ _ _ _ _ [cells b1 [.string ByteArray.empty, .slice none 0 0] 56, cells b2 [.int .i64 3, .int .i64 q1.From] 26, cells b3 [.string p10, hd9.v] 56, vecN encN_T_string nest_T_string 48 1 hd9.v p11, vec enc_Gapi_Verse 36 6 hd10.v l4, vec enc_Gapi_Span 34 2 hd3.v r1, cells b4 [.int .i64 q1.From, .int .i64 q1.To] 34, vecN encN_T_string nest_T_string 48 1 (.slice none 0 0) ([] : List (List ByteArray)), vec enc_Gapi_Verse 36 6 (.slice none 0 0) ([] : List Gapi_Verse)]
          cases h
          exact TX.fin (rs := [.cell 2 56, .tmp 3, .cell 4 26]) (Hd.nil, (.slice none 0 0)) (.inl rfl) Tryd.results30 (.cons (.cells rw_56 (k := 0) rfl rfl rfl) (.cons (.tmp rfl) (.cons (.cells rw_26 (k := 1) rfl rfl rfl) .nil))) rfl (Splits.of [7, 8] kr rfl)
         ·
          have h := condF hb8 h
          refine TC.skip (TX.next ?_)
          obtain ⟨j5, hj5, h⟩ := joinE h
          refine TC.cutN (β := (List (List ByteArray)) × Hd) 0 rfl (fun b => j5 b.1 = some r) (fun b => []) (fun b => [(0, .string s1), (2, .pointer (some ⟨b1, 0, none⟩)), (4, .pointer (some ⟨b2, 0, none⟩)), (5, .pointer (some ⟨b3, 0, none⟩)), (6, hd10.v), (7, hd3.v), (8, .bool false), (10, .int .i64 i3), (11, .pointer (some ⟨b4, 0, none⟩)), (12, .string (cutB s1 q1.From q1.To))]) (fun b => [cells b1 [.string ByteArray.empty, .slice none 0 0] 56, cells b2 [.int .i64 0, .int .i64 0] 26, cells b3 [.string p10, b.2.v] 56, vecN encN_T_string nest_T_string 48 1 b.2.v b.1, vec enc_Gapi_Verse 36 6 hd10.v l4, vec enc_Gapi_Span 34 2 hd3.v r1, cells b4 [.int .i64 q1.From, .int .i64 q1.To] 34]) (fun cut => ?_) ?_
          ·
           refine cut (TC.seq (TC.region (TO.move rfl dc rfl (TO.un rfl dc rfl un_not (TO.nil (TX.next ?_))))))
           refine TC.condB rfl (fun hb9 => ?_) (fun hb9 => ?_)
           ·
            have h := condT hb9 h
            refine TC.region (TO.fieldAddr fl_56_1 rfl dc rfl (show _ = 1 from rfl) (TO.load (k := 2) sc_54 rfl dc rfl rfl rfl ?_))
            refine TO.buildSlice (cs := [.slice none 0 0]) (te := 48) (ps := [(0, .const (.slice none 0 0))]) rfl dc rfl (fun _ => by kernel_rfl) (fun b5 => ?_)
            refine TO.newVec (enc := encS) (e := 9) (size := 1) ?_
            show TO _ _ _ _ _ _ _ _ _ _ [cells b1 [.string ByteArray.empty, .slice none 0 0] 56, cells b2 [.int .i64 0, .int .i64 0] 26, cells b3 [.string p10, hd9.v] 56, vecN encN_T_string nest_T_string 48 1 hd9.v p11, vec enc_Gapi_Verse 36 6 hd10.v l4, vec enc_Gapi_Span 34 2 hd3.v r1, cells b4 [.int .i64 q1.From, .int .i64 q1.To] 34, cells b5 [.slice none 0 0] 48, vec encS 9 1 (.slice none 0 0) ([] : List ByteArray)]
            refine TO.unfold1 (k := 3) rfl openE (fun zs1 hz1 => ?_)
            show TO _ _ _ _ _ _ _ _ _ _ [cells b1 [.string ByteArray.empty, .slice none 0 0] 56, cells b2 [.int .i64 0, .int .i64 0] 26, cells b3 [.string p10, hd9.v] 56, vec encN_T_string 48 1 hd9.v zs1, vec enc_Gapi_Verse 36 6 hd10.v l4, vec enc_Gapi_Span 34 2 hd3.v r1, cells b4 [.int .i64 q1.From, .int .i64 q1.To] 34, cells b5 [.slice none 0 0] 48, vec encS 9 1 (.slice none 0 0) ([] : List ByteArray), own nest_T_string zs1]
            obtain ⟨hg4, h⟩ := grdE h
            refine TO.appendVec (k := 3) (k2 := 7) (ys := [(([] : List ByteArray), Hd.nil)]) Tryd.underlying54 el_48 encN_T_string_len encN_T_string_one rfl dc rfl rfl rfl rfl rfl rfl (by rw [zlen hz1]; exact hg4) (fun v2 => ?_)
            show TO _ _ _ _ _ _ _ _ _ _ [cells b1 [.string ByteArray.empty, .slice none 0 0] 56, cells b2 [.int .i64 0, .int .i64 0] 26, cells b3 [.string p10, hd9.v] 56, vec encN_T_string 48 1 v2 (zs1 ++ [(([] : List ByteArray), Hd.nil)]), vec enc_Gapi_Verse 36 6 hd10.v l4, vec enc_Gapi_Span 34 2 hd3.v r1, cells b4 [.int .i64 q1.From, .int .i64 q1.To] 34, cells b5 [.slice none 0 0] 48, vec encS 9 1 (.slice none 0 0) ([] : List ByteArray), own nest_T_string zs1]
            refine TO.nameHd (k := 3) rfl (fun hd14 he2 => ?_)
            subst he2
            refine TO.fold1 (k := 9) rfl (Splits.of [8] kr rfl) rfl (ownApp (nest := nest_T_string) (zs := zs1) (z := (([] : List ByteArray), Hd.nil))) ?_
            show TO _ _ _ _ _ _ _ _ _ _ [cells b1 [.string ByteArray.empty, .slice none 0 0] 56, cells b2 [.int .i64 0, .int .i64 0] 26, cells b3 [.string p10, hd9.v] 56, vec encN_T_string 48 1 hd14.v (zs1 ++ [(([] : List ByteArray), Hd.nil)]), vec enc_Gapi_Verse 36 6 hd10.v l4, vec enc_Gapi_Span 34 2 hd3.v r1, cells b4 [.int .i64 q1.From, .int .i64 q1.To] 34, cells b5 [.slice none 0 0] 48, emp, own nest_T_string (zs1 ++ [(([] : List ByteArray), Hd.nil)])]
            refine TO.fold1 (k := 3) rfl (Splits.of [9] kr rfl) rfl (closeE (enc := encN_T_string) (nest := nest_T_string) (zapp hz1)) ?_
            show TO _ _ _ _ _ _ _ _ _ _ [cells b1 [.string ByteArray.empty, .slice none 0 0] 56, cells b2 [.int .i64 0, .int .i64 0] 26, cells b3 [.string p10, hd9.v] 56, vecN encN_T_string nest_T_string 48 1 hd14.v (p11 ++ [([] : List ByteArray)]), vec enc_Gapi_Verse 36 6 hd10.v l4, vec enc_Gapi_Span 34 2 hd3.v r1, cells b4 [.int .i64 q1.From, .int .i64 q1.To] 34, cells b5 [.slice none 0 0] 48, emp, emp]
            refine TO.weakenL (L' := [cells b1 [.string ByteArray.empty, .slice none 0 0] 56, cells b2 [.int .i64 0, .int .i64 0] 26, cells b3 [.string p10, hd9.v] 56, vecN encN_T_string nest_T_string 48 1 hd14.v (p11 ++ [([] : List ByteArray)]), vec enc_Gapi_Verse 36 6 hd10.v l4, vec enc_Gapi_Span 34 2 hd3.v r1, cells b4 [.int .i64 q1.From, .int .i64 q1.To] 34, cells b5 [.slice none 0 0] 48]) (Splits.of [0, 1, 2, 3, 4, 5, 6, 7] kr rfl) (TO.fieldAddr fl_56_1 rfl dc rfl (show _ = 1 from rfl) ?_)
            refine TO.store (k := 2) (l' := [.string p10, hd14.v]) sz_54 rfl rfl rfl rfl rfl (fun _ _ => rfl) rfl ?_
            show TO _ _ _ _ _ _ _ _ _ _ [cells b1 [.string ByteArray.empty, .slice none 0 0] 56, cells b2 [.int .i64 0, .int .i64 0] 26, cells b3 [.string p10, hd14.v] 56, vecN encN_T_string nest_T_string 48 1 hd14.v (p11 ++ [([] : List ByteArray)]), vec enc_Gapi_Verse 36 6 hd10.v l4, vec enc_Gapi_Span 34 2 hd3.v r1, cells b4 [.int .i64 q1.From, .int .i64 q1.To] 34, cells b5 [.slice none 0 0] 48]
            refine TO.nil ?_
            exact TX.meetD (p11 ++ [([] : List ByteArray)], hd14) h rfl (Sbs.cons rfl (Sbs.cons rfl (Sbs.cons rfl (Sbs.cons rfl (Sbs.cons rfl (Sbs.cons rfl (Sbs.cons rfl (Sbs.cons rfl (Sbs.cons rfl (Sbs.cons rfl (Sbs.nil))))))))))) (Splits.of [0, 1, 2, 3, 4, 5, 6] kr rfl)
           ·
            have h := condF hb9 h
            refine TC.skip ?_
            exact TX.meetD (p11, hd9) h rfl (Sbs.cons rfl (Sbs.cons rfl (Sbs.cons rfl (Sbs.cons rfl (Sbs.cons rfl (Sbs.cons rfl (Sbs.cons rfl (Sbs.cons rfl (Sbs.cons rfl (Sbs.cons rfl (Sbs.nil))))))))))) (Splits.of [0, 1, 2, 3, 4, 5, 6] kr rfl)
          ·
           rintro ⟨p15, hd13⟩ h
           rw [hj5] at h
           show TC _ _ _ _ _ ([]) _ _ [(0, .string s1), (2, .pointer (some ⟨b1, 0, none⟩)), (4, .pointer (some ⟨b2, 0, none⟩)), (5, .pointer (some ⟨b3, 0, none⟩)), (6, hd10.v), (7, hd3.v), (8, .bool false), (10, .int .i64 i3), (11, .pointer (some ⟨b4, 0, none⟩)), (12, .string (cutB s1 q1.From q1.To))] [cells b1 [.string ByteArray.empty, .slice none 0 0] 56, cells b2 [.int .i64 0, .int .i64 0] 26, cells b3 [.string p10, hd13.v] 56, vecN encN_T_string nest_T_string 48 1 hd13.v p15, vec enc_Gapi_Verse 36 6 hd10.v l4, vec enc_Gapi_Span 34 2 hd3.v r1, cells b4 [.int .i64 q1.From, .int .i64 q1.To] 34]
           refine TC.seq (TC.region (TO.assign rfl dc rfl (TO.nil (TX.next (TC.seq (TC.region (TO.fieldAddr fl_56_1 rfl dc rfl (show _ = 1 from rfl) (TO.load (k := 2) sc_54 rfl dc rfl rfl rfl (TO.lenVecN (k := 3) rfl dc rfl rfl Tryd.underlying54 ?_)))))))))
           obtain ⟨hg5, h⟩ := grdE h
           refine TO.bin rfl dc rfl rfl (bin_sub (r := (p15.length : Int) - 1) (IntWalk.i64_in _ hg5)) (TO.assign rfl dc rfl (TO.nil (TX.next (TC.seq ?_))))
           refine TC.unfold1 (k := 3) rfl openE (fun zs2 hz2 => ?_)
           show TC _ _ _ _ _ _ _ _ _ [cells b1 [.string ByteArray.empty, .slice none 0 0] 56, cells b2 [.int .i64 0, .int .i64 0] 26, cells b3 [.string p10, hd13.v] 56, vec encN_T_string 48 1 hd13.v zs2, vec enc_Gapi_Verse 36 6 hd10.v l4, vec enc_Gapi_Span 34 2 hd3.v r1, cells b4 [.int .i64 q1.From, .int .i64 q1.To] 34, own nest_T_string zs2]
           obtain ⟨r4, hq5, h⟩ := andE h
           obtain ⟨hg6, h⟩ := grdE h
           obtain ⟨r5, hq6, h⟩ := andE h
           obtain ⟨x1, hq7, h⟩ := andE h
           obtain ⟨eh1, eq1⟩ := getO_z hz2 hq7
           obtain ⟨r6, hq8, h⟩ := andE h
           obtain ⟨hg7, h⟩ := grdE h
           refine TC.unfold1 (k := 7) rfl (pullE (getO_get eq1)) (fun _ _ => ?_)
           show TC _ _ _ _ _ _ _ _ _ [cells b1 [.string ByteArray.empty, .slice none 0 0] 56, cells b2 [.int .i64 0, .int .i64 0] 26, cells b3 [.string p10, hd13.v] 56, vec encN_T_string 48 1 hd13.v zs2, vec enc_Gapi_Verse 36 6 hd10.v l4, vec enc_Gapi_Span 34 2 hd3.v r1, cells b4 [.int .i64 q1.From, .int .i64 q1.To] 34, own nest_T_string (zs2.eraseIdx (((p15.length : Int) - 1 : Int).toNat)), vec encS 9 1 eh1.v x1]
           refine TC.drawB (β := Nat) 23 22 _ [(0, 77, .string (cutB s1 q1.From q1.To)), (1, 78, .string (cutB s1 q1.From q1.To)), (2, 79, .int .i64 r4), (3, 80, .string (cutB (cutB s1 q1.From q1.To) r4 ((cutB s1 q1.From q1.To).size : Int))), (4, 81, .string (cutB s1 q1.From q1.To)), (5, 82, .int .i64 r5), (6, 83, .int .i64 ((p15.length : Int) - 1)), (7, 84, .pointer (some ⟨b3, 1, none⟩)), (8, 85, hd13.v), (9, 86, .int .i64 ((p15.length : Int) - 1)), (10, 87, .pointer (some ⟨vblk hd13.v, ((p15.length : Int) - 1 : Int).toNat * 1, none⟩)), (11, 88, eh1.v), (12, 89, .int .i64 (x1.length : Int)), (13, 90, .pointer (some ⟨b4, 0, none⟩)), (14, 91, .int .i64 q1.From), (15, 92, .string (cutB s1 q1.From q1.To)), (16, 93, .int .i64 r6), (17, 94, .int .i64 (q1.From + r6)), (18, 95, .pointer (some ⟨b4, 1, none⟩)), (19, 96, .int .i64 q1.To), (20, 97, .agg #[.int .i64 (q1.From + r6), .int .i64 q1.To]), (21, 98, .agg #[.string (cutB (cutB s1 q1.From q1.To) r4 ((cutB s1 q1.From q1.To).size : Int)), .int .i64 r5, .int .i64 ((p15.length : Int) - 1), .int .i64 (x1.length : Int), .int .i64 (q1.From + r6), .int .i64 q1.To])] (fun b6 => [(14, .pointer (some ⟨b6, 0, none⟩))]) (fun b6 => [cells b1 [.string ByteArray.empty, .slice none 0 0] 56, cells b2 [.int .i64 0, .int .i64 0] 26, cells b3 [.string p10, hd13.v] 56, vec encN_T_string 48 1 hd13.v zs2, vec enc_Gapi_Verse 36 6 hd10.v l4, vec enc_Gapi_Span 34 2 hd3.v r1, cells b4 [.int .i64 q1.From, .int .i64 q1.To] 34, own nest_T_string (zs2.eraseIdx (((p15.length : Int) - 1 : Int).toNat)), vec encS 9 1 eh1.v x1, cells b6 [.string ByteArray.empty, .int .i64 0, .int .i64 0, .int .i64 0, .int .i64 0, .int .i64 0] 36]) mixed kr kr rfl dc dc (by rfl) kr kr (DrawPreX.cons ?_ (DrawPreX.cons ?_ (DrawPreX.cons ?_ (DrawPreX.cons ?_ (DrawPreX.cons ?_ (DrawPreX.cons ?_ (DrawPreX.cons ?_ (DrawPreX.cons ?_ (DrawPreX.cons ?_ (DrawPreX.cons ?_ (DrawPreX.cons ?_ (DrawPreX.cons ?_ (DrawPreX.cons ?_ (DrawPreX.cons ?_ (DrawPreX.cons ?_ (DrawPreX.cons ?_ (DrawPreX.cons ?_ (DrawPreX.cons ?_ (DrawPreX.cons ?_ (DrawPreX.cons ?_ (DrawPreX.cons ?_ (DrawPreX.cons ?_ (DrawPreX.here DrawPreX.nil))))))))))))))))))))))) (fun b6 => (DrawPreX.cons ?_ (DrawPreX.cons ?_ (DrawPreX.cons ?_ (DrawPreX.cons ?_ (DrawPreX.cons ?_ (DrawPreX.cons ?_ (DrawPreX.cons ?_ (DrawPreX.cons ?_ (DrawPreX.cons ?_ (DrawPreX.cons ?_ (DrawPreX.cons ?_ (DrawPreX.cons ?_ (DrawPreX.cons ?_ (DrawPreX.cons ?_ (DrawPreX.cons ?_ (DrawPreX.cons ?_ (DrawPreX.cons ?_ (DrawPreX.cons ?_ (DrawPreX.cons ?_ (DrawPreX.cons ?_ (DrawPreX.cons ?_ (DrawPreX.cons ?_ (DrawPreX.here DrawPreX.nil)))))))))))))))))))))))) ?_ ?_
           ·
            intro D hn hd hcl hu hi
            refine TO.move rfl dc (dl_old (by rfl) rfl) ?_
            exact TX.quiet 0 hu hi rfl
           ·
            intro D hn hd hcl hu hi
            refine TO.move rfl dc (dl_old (by rfl) rfl) ?_
            exact TX.quiet 1 hu hi rfl
           ·
            intro D hn hd hcl hu hi
            refine TO.callP (v := .int .i64 r4) (vs := [.string (cutB s1 q1.From q1.To)]) rfl dc rfl (evL.cons (dl_lookup (m := 1) hu rfl (hd 1 dc)) evL.nil) rfl en_67 (ref17_Indent_fn hq5) ?_
            exact TX.quiet 2 hu hi rfl
           ·
            intro D hn hd hcl hu hi
            refine TO.slice rfl dc (dl_lookup (m := 0) hu rfl (hd 0 dc)) (evO.some (dl_lookup (m := 2) hu rfl (hd 2 dc))) evO.none (slice_stringI (i := r4) (j := ((cutB s1 q1.From q1.To).size : Int)) Tryd.underlying9 (.inr rfl) (.inl ⟨rfl, rfl⟩) hg6) ?_
            exact TX.quiet 3 hu hi rfl
           ·
            intro D hn hd hcl hu hi
            refine TO.move rfl dc (dl_old (by rfl) rfl) ?_
            exact TX.quiet 4 hu hi rfl
           ·
            intro D hn hd hcl hu hi
            refine TO.callP (v := .int .i64 r5) (vs := [.string (cutB s1 q1.From q1.To)]) rfl dc rfl (evL.cons (dl_lookup (m := 4) hu rfl (hd 4 dc)) evL.nil) rfl en_67 (ref17_Indent_fn hq6) ?_
            exact TX.quiet 5 hu hi rfl
           ·
            intro D hn hd hcl hu hi
            refine TO.move rfl dc (dl_old (by rfl) rfl) ?_
            exact TX.quiet 6 hu hi rfl
           ·
            intro D hn hd hcl hu hi
            refine TO.fieldAddr fl_56_1 rfl dc (dl_old (by rfl) rfl) (show _ = 1 from rfl) ?_
            exact TX.quiet 7 hu hi rfl
           ·
            intro D hn hd hcl hu hi
            refine TO.load (k := 2) sc_54 rfl dc (dl_lookup (m := 7) hu rfl (hd 7 dc)) rfl rfl ?_
            exact TX.quiet 8 hu hi rfl
           ·
            intro D hn hd hcl hu hi
            refine TO.move rfl dc (dl_old (by rfl) rfl) ?_
            exact TX.quiet 9 hu hi rfl
           ·
            intro D hn hd hcl hu hi
            refine TO.indexVecI (k := 3) eq1 Tryd.underlying54 sz_48 rfl dc (dl_lookup (m := 8) hu rfl (hd 8 dc)) (dl_lookup (m := 9) hu rfl (hd 9 dc)) rfl rfl ?_
            exact TX.quiet 10 hu hi rfl
           ·
            intro D hn hd hcl hu hi
            refine TO.loadVec (i := ((p15.length : Int) - 1 : Int).toNat) (j := 0) (k := 3) (q := (x1, eh1)) sc_48 encN_T_string_len rfl dc (dl_lookup (m := 10) hu rfl (hd 10 dc)) rfl (getO_get eq1) rfl dc rfl ?_
            exact TX.quiet 11 hu hi rfl
           ·
            intro D hn hd hcl hu hi
            refine TO.lenVec (k := 8) rfl dc (dl_lookup (m := 11) hu rfl (hd 11 dc)) rfl Tryd.underlying48 ?_
            exact TX.quiet 12 hu hi rfl
           ·
            intro D hn hd hcl hu hi
            refine TO.fieldAddr fl_34_0 rfl dc (dl_old (by rfl) rfl) (show _ = 0 from rfl) ?_
            exact TX.quiet 13 hu hi rfl
           ·
            intro D hn hd hcl hu hi
            refine TO.load (k := 6) sc_3 rfl dc (dl_lookup (m := 13) hu rfl (hd 13 dc)) rfl rfl ?_
            exact TX.quiet 14 hu hi rfl
           ·
            intro D hn hd hcl hu hi
            refine TO.move rfl dc (dl_old (by rfl) rfl) ?_
            exact TX.quiet 15 hu hi rfl
           ·
            intro D hn hd hcl hu hi
            refine TO.callP (v := .int .i64 r6) (vs := [.string (cutB s1 q1.From q1.To)]) rfl dc rfl (evL.cons (dl_lookup (m := 15) hu rfl (hd 15 dc)) evL.nil) rfl en_67 (ref17_Indent_fn hq8) ?_
            exact TX.quiet 16 hu hi rfl
           ·
            intro D hn hd hcl hu hi
            refine TO.bin rfl dc (dl_lookup (m := 14) hu rfl (hd 14 dc)) (dl_lookup (m := 16) hu rfl (hd 16 dc)) (bin_add (r := q1.From + r6) (IntWalk.i64_in _ hg7)) ?_
            exact TX.quiet 17 hu hi rfl
           ·
            intro D hn hd hcl hu hi
            refine TO.fieldAddr fl_34_1 rfl dc (dl_old (by rfl) rfl) (show _ = 1 from rfl) ?_
            exact TX.quiet 18 hu hi rfl
           ·
            intro D hn hd hcl hu hi
            refine TO.load (k := 6) sc_3 rfl dc (dl_lookup (m := 18) hu rfl (hd 18 dc)) rfl rfl ?_
            exact TX.quiet 19 hu hi rfl
           ·
            intro D hn hd hcl hu hi
            refine TO.build (v := .agg #[.int .i64 (q1.From + r6), .int .i64 q1.To]) (ps := [(0, .tmp 94), (1, .tmp 96)]) rfl dc (evP.cons (dl_lookup (m := 17) hu rfl (hd 17 dc)) (evP.cons (dl_lookup (m := 19) hu rfl (hd 19 dc)) evP.nil)) (fun _ => by kernel_rfl) ?_
            exact TX.quiet 20 hu hi rfl
           ·
            intro D hn hd hcl hu hi
            refine TO.build (v := .agg #[.string (cutB (cutB s1 q1.From q1.To) r4 ((cutB s1 q1.From q1.To).size : Int)), .int .i64 r5, .int .i64 ((p15.length : Int) - 1), .int .i64 (x1.length : Int), .int .i64 (q1.From + r6), .int .i64 q1.To]) (ps := [(0, .tmp 80), (1, .tmp 82), (2, .tmp 83), (3, .tmp 89), (4, .tmp 97)]) rfl dc (evP.cons (dl_lookup (m := 3) hu rfl (hd 3 dc)) (evP.cons (dl_lookup (m := 5) hu rfl (hd 5 dc)) (evP.cons (dl_lookup (m := 6) hu rfl (hd 6 dc)) (evP.cons (dl_lookup (m := 12) hu rfl (hd 12 dc)) (evP.cons (dl_lookup (m := 20) hu rfl (hd 20 dc)) evP.nil))))) (fun _ => by kernel_rfl) ?_
            exact TX.quiet 21 hu hi rfl
           ·
            intro D hn hd hcl hu hi
            refine TO.move rfl dc (dl_old (by rfl) rfl) ?_
            exact TX.quiet 0 hu hi rfl
           ·
            intro D hn hd hcl hu hi
            refine TO.move rfl dc (dl_old (by rfl) rfl) ?_
            exact TX.quiet 1 hu hi rfl
           ·
            intro D hn hd hcl hu hi
            refine TO.callP (v := .int .i64 r4) (vs := [.string (cutB s1 q1.From q1.To)]) rfl dc rfl (evL.cons (dl_lookup (m := 1) hu rfl (hd 1 dc)) evL.nil) rfl en_67 (ref17_Indent_fn hq5) ?_
            exact TX.quiet 2 hu hi rfl
           ·
            intro D hn hd hcl hu hi
            refine TO.slice rfl dc (dl_lookup (m := 0) hu rfl (hd 0 dc)) (evO.some (dl_lookup (m := 2) hu rfl (hd 2 dc))) evO.none (slice_stringI (i := r4) (j := ((cutB s1 q1.From q1.To).size : Int)) Tryd.underlying9 (.inr rfl) (.inl ⟨rfl, rfl⟩) hg6) ?_
            exact TX.quiet 3 hu hi rfl
           ·
            intro D hn hd hcl hu hi
            refine TO.move rfl dc (dl_old (by rfl) rfl) ?_
            exact TX.quiet 4 hu hi rfl
           ·
            intro D hn hd hcl hu hi
            refine TO.callP (v := .int .i64 r5) (vs := [.string (cutB s1 q1.From q1.To)]) rfl dc rfl (evL.cons (dl_lookup (m := 4) hu rfl (hd 4 dc)) evL.nil) rfl en_67 (ref17_Indent_fn hq6) ?_
            exact TX.quiet 5 hu hi rfl
           ·
            intro D hn hd hcl hu hi
            refine TO.move rfl dc (dl_old (by rfl) rfl) ?_
            exact TX.quiet 6 hu hi rfl
           ·
            intro D hn hd hcl hu hi
            refine TO.fieldAddr fl_56_1 rfl dc (dl_old (by rfl) rfl) (show _ = 1 from rfl) ?_
            exact TX.quiet 7 hu hi rfl
           ·
            intro D hn hd hcl hu hi
            refine TO.load (k := 2) sc_54 rfl dc (dl_lookup (m := 7) hu rfl (hd 7 dc)) rfl rfl ?_
            exact TX.quiet 8 hu hi rfl
           ·
            intro D hn hd hcl hu hi
            refine TO.move rfl dc (dl_old (by rfl) rfl) ?_
            exact TX.quiet 9 hu hi rfl
           ·
            intro D hn hd hcl hu hi
            refine TO.indexVecI (k := 3) eq1 Tryd.underlying54 sz_48 rfl dc (dl_lookup (m := 8) hu rfl (hd 8 dc)) (dl_lookup (m := 9) hu rfl (hd 9 dc)) rfl rfl ?_
            exact TX.quiet 10 hu hi rfl
           ·
            intro D hn hd hcl hu hi
            refine TO.loadVec (i := ((p15.length : Int) - 1 : Int).toNat) (j := 0) (k := 3) (q := (x1, eh1)) sc_48 encN_T_string_len rfl dc (dl_lookup (m := 10) hu rfl (hd 10 dc)) rfl (getO_get eq1) rfl dc rfl ?_
            exact TX.quiet 11 hu hi rfl
           ·
            intro D hn hd hcl hu hi
            refine TO.lenVec (k := 8) rfl dc (dl_lookup (m := 11) hu rfl (hd 11 dc)) rfl Tryd.underlying48 ?_
            exact TX.quiet 12 hu hi rfl
           ·
            intro D hn hd hcl hu hi
            refine TO.fieldAddr fl_34_0 rfl dc (dl_old (by rfl) rfl) (show _ = 0 from rfl) ?_
            exact TX.quiet 13 hu hi rfl
           ·
            intro D hn hd hcl hu hi
            refine TO.load (k := 6) sc_3 rfl dc (dl_lookup (m := 13) hu rfl (hd 13 dc)) rfl rfl ?_
            exact TX.quiet 14 hu hi rfl
           ·
            intro D hn hd hcl hu hi
            refine TO.move rfl dc (dl_old (by rfl) rfl) ?_
            exact TX.quiet 15 hu hi rfl
           ·
            intro D hn hd hcl hu hi
            refine TO.callP (v := .int .i64 r6) (vs := [.string (cutB s1 q1.From q1.To)]) rfl dc rfl (evL.cons (dl_lookup (m := 15) hu rfl (hd 15 dc)) evL.nil) rfl en_67 (ref17_Indent_fn hq8) ?_
            exact TX.quiet 16 hu hi rfl
           ·
            intro D hn hd hcl hu hi
            refine TO.bin rfl dc (dl_lookup (m := 14) hu rfl (hd 14 dc)) (dl_lookup (m := 16) hu rfl (hd 16 dc)) (bin_add (r := q1.From + r6) (IntWalk.i64_in _ hg7)) ?_
            exact TX.quiet 17 hu hi rfl
           ·
            intro D hn hd hcl hu hi
            refine TO.fieldAddr fl_34_1 rfl dc (dl_old (by rfl) rfl) (show _ = 1 from rfl) ?_
            exact TX.quiet 18 hu hi rfl
           ·
            intro D hn hd hcl hu hi
            refine TO.load (k := 6) sc_3 rfl dc (dl_lookup (m := 18) hu rfl (hd 18 dc)) rfl rfl ?_
            exact TX.quiet 19 hu hi rfl
           ·
            intro D hn hd hcl hu hi
            refine TO.build (v := .agg #[.int .i64 (q1.From + r6), .int .i64 q1.To]) (ps := [(0, .tmp 94), (1, .tmp 96)]) rfl dc (evP.cons (dl_lookup (m := 17) hu rfl (hd 17 dc)) (evP.cons (dl_lookup (m := 19) hu rfl (hd 19 dc)) evP.nil)) (fun _ => by kernel_rfl) ?_
            exact TX.quiet 20 hu hi rfl
           ·
            intro D hn hd hcl hu hi
            refine TO.build (v := .agg #[.string (cutB (cutB s1 q1.From q1.To) r4 ((cutB s1 q1.From q1.To).size : Int)), .int .i64 r5, .int .i64 ((p15.length : Int) - 1), .int .i64 (x1.length : Int), .int .i64 (q1.From + r6), .int .i64 q1.To]) (ps := [(0, .tmp 80), (1, .tmp 82), (2, .tmp 83), (3, .tmp 89), (4, .tmp 97)]) rfl dc (evP.cons (dl_lookup (m := 3) hu rfl (hd 3 dc)) (evP.cons (dl_lookup (m := 5) hu rfl (hd 5 dc)) (evP.cons (dl_lookup (m := 6) hu rfl (hd 6 dc)) (evP.cons (dl_lookup (m := 12) hu rfl (hd 12 dc)) (evP.cons (dl_lookup (m := 20) hu rfl (hd 20 dc)) evP.nil))))) (fun _ => by kernel_rfl) ?_
            exact TX.quiet 21 hu hi rfl
           ·
            intro D hn hd hcl
            refine TO.alloc zr_36 rfl dc (fun b6 => ?_)
            exact fun a w ha hw => ⟨b6, Sbs.mid (by rfl) _ _ _ ha, hw⟩
           intro b6
           show TO _ _ _ _ _ _ _ _ _ _ [cells b1 [.string ByteArray.empty, .slice none 0 0] 56, cells b2 [.int .i64 0, .int .i64 0] 26, cells b3 [.string p10, hd13.v] 56, vec encN_T_string 48 1 hd13.v zs2, vec enc_Gapi_Verse 36 6 hd10.v l4, vec enc_Gapi_Span 34 2 hd3.v r1, cells b4 [.int .i64 q1.From, .int .i64 q1.To] 34, own nest_T_string (zs2.eraseIdx (((p15.length : Int) - 1 : Int).toNat)), vec encS 9 1 eh1.v x1, cells b6 [.string ByteArray.empty, .int .i64 0, .int .i64 0, .int .i64 0, .int .i64 0, .int .i64 0] 36]
           refine TO.stores (k := 9) (vs := [.string (cutB (cutB s1 q1.From q1.To) r4 ((cutB s1 q1.From q1.To).size : Int)), .int .i64 r5, .int .i64 ((p15.length : Int) - 1), .int .i64 (x1.length : Int), .int .i64 (q1.From + r6), .int .i64 q1.To]) (l' := [.string (cutB (cutB s1 q1.From q1.To) r4 ((cutB s1 q1.From q1.To).size : Int)), .int .i64 r5, .int .i64 ((p15.length : Int) - 1), .int .i64 (x1.length : Int), .int .i64 (q1.From + r6), .int .i64 q1.To]) sz_36 rfl rfl rfl rfl rfl (show _ ≤ _ by simp) rfl rfl (TO.nil (TX.next (TC.seq (TC.region (TO.move rfl dc rfl (TO.loads (k := 9) (cs := [.string (cutB (cutB s1 q1.From q1.To) r4 ((cutB s1 q1.From q1.To).size : Int)), .int .i64 r5, .int .i64 ((p15.length : Int) - 1), .int .i64 (x1.length : Int), .int .i64 (q1.From + r6), .int .i64 q1.To]) rw_36 rfl dc rfl rfl rfl rfl ?_))))))
           refine TO.buildSlice (cs := [.string (cutB (cutB s1 q1.From q1.To) r4 ((cutB s1 q1.From q1.To).size : Int)), .int .i64 r5, .int .i64 ((p15.length : Int) - 1), .int .i64 (x1.length : Int), .int .i64 (q1.From + r6), .int .i64 q1.To]) (te := 36) (ps := [(0, .tmp 100)]) rfl dc rfl (fun _ => by kernel_rfl) (fun b7 => ?_)
           show TO _ _ _ _ _ _ _ _ _ _ [cells b1 [.string ByteArray.empty, .slice none 0 0] 56, cells b2 [.int .i64 0, .int .i64 0] 26, cells b3 [.string p10, hd13.v] 56, vec encN_T_string 48 1 hd13.v zs2, vec enc_Gapi_Verse 36 6 hd10.v l4, vec enc_Gapi_Span 34 2 hd3.v r1, cells b4 [.int .i64 q1.From, .int .i64 q1.To] 34, own nest_T_string (zs2.eraseIdx (((p15.length : Int) - 1 : Int).toNat)), vec encS 9 1 eh1.v x1, cells b6 [.string (cutB (cutB s1 q1.From q1.To) r4 ((cutB s1 q1.From q1.To).size : Int)), .int .i64 r5, .int .i64 ((p15.length : Int) - 1), .int .i64 (x1.length : Int), .int .i64 (q1.From + r6), .int .i64 q1.To] 36, cells b7 [.string (cutB (cutB s1 q1.From q1.To) r4 ((cutB s1 q1.From q1.To).size : Int)), .int .i64 r5, .int .i64 ((p15.length : Int) - 1), .int .i64 (x1.length : Int), .int .i64 (q1.From + r6), .int .i64 q1.To] 36]
           obtain ⟨hg8, h⟩ := grdE h
           refine TO.appendVec (k := 4) (k2 := 10) (ys := [(⟨cutB (cutB s1 q1.From q1.To) r4 ((cutB s1 q1.From q1.To).size : Int), r5, (p15.length : Int) - 1, (x1.length : Int), q1.From + r6, q1.To⟩ : Gapi_Verse)]) Tryd.underlying57 el_36 enc_Gapi_Verse_len enc_Gapi_Verse_one rfl dc rfl rfl rfl rfl rfl rfl hg8 (fun v3 => ?_)
           refine TO.nameHd (k := 4) rfl (fun hd15 he3 => ?_)
           subst he3
           refine TO.assign rfl dc rfl (TO.nil (TX.next (TC.fold1 (k := 7) rfl (Splits.of [8] kr rfl) rfl (pushE (nest := nest_T_string) (getO_get eq1) rfl) ?_)))
           show TC _ _ _ _ _ _ _ _ _ [cells b1 [.string ByteArray.empty, .slice none 0 0] 56, cells b2 [.int .i64 0, .int .i64 0] 26, cells b3 [.string p10, hd13.v] 56, vec encN_T_string 48 1 hd13.v zs2, vec enc_Gapi_Verse 36 6 hd15.v (l4 ++ [(⟨cutB (cutB s1 q1.From q1.To) r4 ((cutB s1 q1.From q1.To).size : Int), r5, (p15.length : Int) - 1, (x1.length : Int), q1.From + r6, q1.To⟩ : Gapi_Verse)]), vec enc_Gapi_Span 34 2 hd3.v r1, cells b4 [.int .i64 q1.From, .int .i64 q1.To] 34, own nest_T_string zs2, emp, cells b6 [.string (cutB (cutB s1 q1.From q1.To) r4 ((cutB s1 q1.From q1.To).size : Int)), .int .i64 r5, .int .i64 ((p15.length : Int) - 1), .int .i64 (x1.length : Int), .int .i64 (q1.From + r6), .int .i64 q1.To] 36, cells b7 [.string (cutB (cutB s1 q1.From q1.To) r4 ((cutB s1 q1.From q1.To).size : Int)), .int .i64 r5, .int .i64 ((p15.length : Int) - 1), .int .i64 (x1.length : Int), .int .i64 (q1.From + r6), .int .i64 q1.To] 36]
           obtain ⟨x2, hq9, h⟩ := andE h
           obtain ⟨eh2, eq2⟩ := getO_z hz2 hq9
           obtain ⟨hg9, h⟩ := grdE h
           refine TC.unfold1 (k := 7) rfl (pullE (getO_get eq2)) (fun _ _ => ?_)
           show TC _ _ _ _ _ _ _ _ _ [cells b1 [.string ByteArray.empty, .slice none 0 0] 56, cells b2 [.int .i64 0, .int .i64 0] 26, cells b3 [.string p10, hd13.v] 56, vec encN_T_string 48 1 hd13.v zs2, vec enc_Gapi_Verse 36 6 hd15.v (l4 ++ [(⟨cutB (cutB s1 q1.From q1.To) r4 ((cutB s1 q1.From q1.To).size : Int), r5, (p15.length : Int) - 1, (x1.length : Int), q1.From + r6, q1.To⟩ : Gapi_Verse)]), vec enc_Gapi_Span 34 2 hd3.v r1, cells b4 [.int .i64 q1.From, .int .i64 q1.To] 34, own nest_T_string (zs2.eraseIdx (((p15.length : Int) - 1 : Int).toNat)), emp, cells b6 [.string (cutB (cutB s1 q1.From q1.To) r4 ((cutB s1 q1.From q1.To).size : Int)), .int .i64 r5, .int .i64 ((p15.length : Int) - 1), .int .i64 (x1.length : Int), .int .i64 (q1.From + r6), .int .i64 q1.To] 36, cells b7 [.string (cutB (cutB s1 q1.From q1.To) r4 ((cutB s1 q1.From q1.To).size : Int)), .int .i64 r5, .int .i64 ((p15.length : Int) - 1), .int .i64 (x1.length : Int), .int .i64 (q1.From + r6), .int .i64 q1.To] 36, vec encS 9 1 eh2.v x2]
           refine TC.pad 1 ?_
           show TC _ _ _ _ _ _ _ _ _ [cells b1 [.string ByteArray.empty, .slice none 0 0] 56, cells b2 [.int .i64 0, .int .i64 0] 26, cells b3 [.string p10, hd13.v] 56, vec encN_T_string 48 1 hd13.v zs2, vec enc_Gapi_Verse 36 6 hd15.v (l4 ++ [(⟨cutB (cutB s1 q1.From q1.To) r4 ((cutB s1 q1.From q1.To).size : Int), r5, (p15.length : Int) - 1, (x1.length : Int), q1.From + r6, q1.To⟩ : Gapi_Verse)]), vec enc_Gapi_Span 34 2 hd3.v r1, cells b4 [.int .i64 q1.From, .int .i64 q1.To] 34, own nest_T_string (zs2.eraseIdx (((p15.length : Int) - 1 : Int).toNat)), emp, cells b6 [.string (cutB (cutB s1 q1.From q1.To) r4 ((cutB s1 q1.From q1.To).size : Int)), .int .i64 r5, .int .i64 ((p15.length : Int) - 1), .int .i64 (x1.length : Int), .int .i64 (q1.From + r6), .int .i64 q1.To] 36, cells b7 [.string (cutB (cutB s1 q1.From q1.To) r4 ((cutB s1 q1.From q1.To).size : Int)), .int .i64 r5, .int .i64 ((p15.length : Int) - 1), .int .i64 (x1.length : Int), .int .i64 (q1.From + r6), .int .i64 q1.To] 36, vec encS 9 1 eh2.v x2, emp]
           refine let vals1 : (Nat × Hd) → List (Nat × Nat × Value) := fun b => [(0, 103, .pointer (some ⟨b3, 1, none⟩)), (1, 104, hd13.v), (2, 105, .int .i64 ((p15.length : Int) - 1)), (3, 106, .pointer (some ⟨b3, 1, none⟩)), (4, 107, hd13.v), (5, 108, .int .i64 ((p15.length : Int) - 1)), (6, 109, .pointer (some ⟨vblk hd13.v, ((p15.length : Int) - 1 : Int).toNat * 1, none⟩)), (7, 110, eh2.v), (8, 111, .string (cutB s1 q1.From q1.To)), (9, 112, .slice (some ⟨b.1, 0, none⟩) 1 1), (10, 113, b.2.v)]; let LL1 : (Nat → Prop) → (Nat × Hd) → List Asn := fun D b => [cells b1 [.string ByteArray.empty, .slice none 0 0] 56, cells b2 [.int .i64 0, .int .i64 0] 26, cells b3 [.string p10, hd13.v] 56, vec encN_T_string 48 1 hd13.v zs2, vec enc_Gapi_Verse 36 6 hd15.v (l4 ++ [(⟨cutB (cutB s1 q1.From q1.To) r4 ((cutB s1 q1.From q1.To).size : Int), r5, (p15.length : Int) - 1, (x1.length : Int), q1.From + r6, q1.To⟩ : Gapi_Verse)]), vec enc_Gapi_Span 34 2 hd3.v r1, cells b4 [.int .i64 q1.From, .int .i64 q1.To] 34, own nest_T_string (zs2.eraseIdx (((p15.length : Int) - 1 : Int).toNat)), emp, cells b6 [.string (cutB (cutB s1 q1.From q1.To) r4 ((cutB s1 q1.From q1.To).size : Int)), .int .i64 r5, .int .i64 ((p15.length : Int) - 1), .int .i64 (x1.length : Int), .int .i64 (q1.From + r6), .int .i64 q1.To] 36, cells b7 [.string (cutB (cutB s1 q1.From q1.To) r4 ((cutB s1 q1.From q1.To).size : Int)), .int .i64 r5, .int .i64 ((p15.length : Int) - 1), .int .i64 (x1.length : Int), .int .i64 (q1.From + r6), .int .i64 q1.To] 36, eD D (vec encS 9 1 eh2.v x2) [(10, vec encS 9 1 b.2.v (x2 ++ [cutB s1 q1.From q1.To]))], eD D emp [(9, cells b.1 [.string (cutB s1 q1.From q1.To)] 9)]]; ?_
           refine TC.drawG (β := Nat × Hd) 11 ((0 : Nat), Hd.nil) vals1 LL1 mixed kr kr dc (fun _ => rfl) (cons_eq rfl (cons_eq rfl (cons_eq rfl (cons_eq rfl (cons_eq rfl (cons_eq rfl (cons_eq rfl (cons_eq rfl (cons_eq rfl (cons_eq rfl (cons_eq rfl (cons_eq eD_none (cons_eq eD_none rfl))))))))))))) (DrawG.cons ?_ (DrawG.cons ?_ (DrawG.cons ?_ (DrawG.cons ?_ (DrawG.cons ?_ (DrawG.cons ?_ (DrawG.cons ?_ (DrawG.cons ?_ (DrawG.cons ?_ (DrawG.cons ?_ (DrawG.cons ?_ DrawG.nil))))))))))) ?_
           ·
            intro D b hn hd hcl
            obtain ⟨b8, hd16⟩ := b
            refine TO.rewL (L' := [cells b1 [.string ByteArray.empty, .slice none 0 0] 56, cells b2 [.int .i64 0, .int .i64 0] 26, cells b3 [.string p10, hd13.v] 56, vec encN_T_string 48 1 hd13.v zs2, vec enc_Gapi_Verse 36 6 hd15.v (l4 ++ [(⟨cutB (cutB s1 q1.From q1.To) r4 ((cutB s1 q1.From q1.To).size : Int), r5, (p15.length : Int) - 1, (x1.length : Int), q1.From + r6, q1.To⟩ : Gapi_Verse)]), vec enc_Gapi_Span 34 2 hd3.v r1, cells b4 [.int .i64 q1.From, .int .i64 q1.To] 34, own nest_T_string (zs2.eraseIdx (((p15.length : Int) - 1 : Int).toNat)), emp, cells b6 [.string (cutB (cutB s1 q1.From q1.To) r4 ((cutB s1 q1.From q1.To).size : Int)), .int .i64 r5, .int .i64 ((p15.length : Int) - 1), .int .i64 (x1.length : Int), .int .i64 (q1.From + r6), .int .i64 q1.To] 36, cells b7 [.string (cutB (cutB s1 q1.From q1.To) r4 ((cutB s1 q1.From q1.To).size : Int)), .int .i64 r5, .int .i64 ((p15.length : Int) - 1), .int .i64 (x1.length : Int), .int .i64 (q1.From + r6), .int .i64 q1.To] 36, eD D (vec encS 9 1 eh2.v x2) [(10, vec encS 9 1 hd16.v (x2 ++ [cutB s1 q1.From q1.To]))], eD D emp [(9, cells b8 [.string (cutB s1 q1.From q1.To)] 9)]]) (cons_eq rfl (cons_eq rfl (cons_eq rfl (cons_eq rfl (cons_eq rfl (cons_eq rfl (cons_eq rfl (cons_eq rfl (cons_eq rfl (cons_eq rfl (cons_eq rfl (cons_eq rfl (cons_eq rfl rfl))))))))))))) (TO.fieldAddr fl_56_1 rfl dc (dl_old (by rfl) rfl) (show _ = 1 from rfl) ?_)
            exact TX.valG (b8, hd16) 0 (by rfl) (by rfl) rfl (dl_cons_eq (fun _ => rfl) (dl_cons_eq (fun _ => rfl) (dl_cons_eq (fun _ => rfl) (dl_cons_eq (fun _ => rfl) (dl_cons_eq (fun _ => rfl) (dl_cons_eq (fun _ => rfl) (dl_cons_eq (fun _ => rfl) (dl_cons_eq (fun _ => rfl) (dl_cons_eq (fun _ => rfl) (dl_cons_eq (fun _ => rfl) (dl_cons_eq (fun _ => rfl) rfl))))))))))) (cons_eq rfl (cons_eq rfl (cons_eq rfl (cons_eq rfl (cons_eq rfl (cons_eq rfl (cons_eq rfl (cons_eq rfl (cons_eq rfl (cons_eq rfl (cons_eq rfl (cons_eq ((eD_skip (by rfl)).trans rfl) (cons_eq ((eD_skip (by rfl)).trans rfl) rfl)))))))))))))
           ·
            intro D b hn hd hcl
            obtain ⟨b8, hd16⟩ := b
            refine TO.rewL (L' := [cells b1 [.string ByteArray.empty, .slice none 0 0] 56, cells b2 [.int .i64 0, .int .i64 0] 26, cells b3 [.string p10, hd13.v] 56, vec encN_T_string 48 1 hd13.v zs2, vec enc_Gapi_Verse 36 6 hd15.v (l4 ++ [(⟨cutB (cutB s1 q1.From q1.To) r4 ((cutB s1 q1.From q1.To).size : Int), r5, (p15.length : Int) - 1, (x1.length : Int), q1.From + r6, q1.To⟩ : Gapi_Verse)]), vec enc_Gapi_Span 34 2 hd3.v r1, cells b4 [.int .i64 q1.From, .int .i64 q1.To] 34, own nest_T_string (zs2.eraseIdx (((p15.length : Int) - 1 : Int).toNat)), emp, cells b6 [.string (cutB (cutB s1 q1.From q1.To) r4 ((cutB s1 q1.From q1.To).size : Int)), .int .i64 r5, .int .i64 ((p15.length : Int) - 1), .int .i64 (x1.length : Int), .int .i64 (q1.From + r6), .int .i64 q1.To] 36, cells b7 [.string (cutB (cutB s1 q1.From q1.To) r4 ((cutB s1 q1.From q1.To).size : Int)), .int .i64 r5, .int .i64 ((p15.length : Int) - 1), .int .i64 (x1.length : Int), .int .i64 (q1.From + r6), .int .i64 q1.To] 36, eD D (vec encS 9 1 eh2.v x2) [(10, vec encS 9 1 hd16.v (x2 ++ [cutB s1 q1.From q1.To]))], eD D emp [(9, cells b8 [.string (cutB s1 q1.From q1.To)] 9)]]) (cons_eq rfl (cons_eq rfl (cons_eq rfl (cons_eq rfl (cons_eq rfl (cons_eq rfl (cons_eq rfl (cons_eq rfl (cons_eq rfl (cons_eq rfl (cons_eq rfl (cons_eq rfl (cons_eq rfl rfl))))))))))))) (TO.load (k := 2) sc_54 rfl dc (dl_lookup (m := 0) rfl rfl (hd 0 dc)) rfl rfl ?_)
            exact TX.valG (b8, hd16) 1 (by rfl) (by rfl) rfl (dl_cons_eq (fun _ => rfl) (dl_cons_eq (fun _ => rfl) (dl_cons_eq (fun _ => rfl) (dl_cons_eq (fun _ => rfl) (dl_cons_eq (fun _ => rfl) (dl_cons_eq (fun _ => rfl) (dl_cons_eq (fun _ => rfl) (dl_cons_eq (fun _ => rfl) (dl_cons_eq (fun _ => rfl) (dl_cons_eq (fun _ => rfl) (dl_cons_eq (fun _ => rfl) rfl))))))))))) (cons_eq rfl (cons_eq rfl (cons_eq rfl (cons_eq rfl (cons_eq rfl (cons_eq rfl (cons_eq rfl (cons_eq rfl (cons_eq rfl (cons_eq rfl (cons_eq rfl (cons_eq ((eD_skip (by rfl)).trans rfl) (cons_eq ((eD_skip (by rfl)).trans rfl) rfl)))))))))))))
           ·
            intro D b hn hd hcl
            obtain ⟨b8, hd16⟩ := b
            refine TO.rewL (L' := [cells b1 [.string ByteArray.empty, .slice none 0 0] 56, cells b2 [.int .i64 0, .int .i64 0] 26, cells b3 [.string p10, hd13.v] 56, vec encN_T_string 48 1 hd13.v zs2, vec enc_Gapi_Verse 36 6 hd15.v (l4 ++ [(⟨cutB (cutB s1 q1.From q1.To) r4 ((cutB s1 q1.From q1.To).size : Int), r5, (p15.length : Int) - 1, (x1.length : Int), q1.From + r6, q1.To⟩ : Gapi_Verse)]), vec enc_Gapi_Span 34 2 hd3.v r1, cells b4 [.int .i64 q1.From, .int .i64 q1.To] 34, own nest_T_string (zs2.eraseIdx (((p15.length : Int) - 1 : Int).toNat)), emp, cells b6 [.string (cutB (cutB s1 q1.From q1.To) r4 ((cutB s1 q1.From q1.To).size : Int)), .int .i64 r5, .int .i64 ((p15.length : Int) - 1), .int .i64 (x1.length : Int), .int .i64 (q1.From + r6), .int .i64 q1.To] 36, cells b7 [.string (cutB (cutB s1 q1.From q1.To) r4 ((cutB s1 q1.From q1.To).size : Int)), .int .i64 r5, .int .i64 ((p15.length : Int) - 1), .int .i64 (x1.length : Int), .int .i64 (q1.From + r6), .int .i64 q1.To] 36, eD D (vec encS 9 1 eh2.v x2) [(10, vec encS 9 1 hd16.v (x2 ++ [cutB s1 q1.From q1.To]))], eD D emp [(9, cells b8 [.string (cutB s1 q1.From q1.To)] 9)]]) (cons_eq rfl (cons_eq rfl (cons_eq rfl (cons_eq rfl (cons_eq rfl (cons_eq rfl (cons_eq rfl (cons_eq rfl (cons_eq rfl (cons_eq rfl (cons_eq rfl (cons_eq rfl (cons_eq rfl rfl))))))))))))) (TO.move rfl dc (dl_old (by rfl) rfl) ?_)
            exact TX.valG (b8, hd16) 2 (by rfl) (by rfl) rfl (dl_cons_eq (fun _ => rfl) (dl_cons_eq (fun _ => rfl) (dl_cons_eq (fun _ => rfl) (dl_cons_eq (fun _ => rfl) (dl_cons_eq (fun _ => rfl) (dl_cons_eq (fun _ => rfl) (dl_cons_eq (fun _ => rfl) (dl_cons_eq (fun _ => rfl) (dl_cons_eq (fun _ => rfl) (dl_cons_eq (fun _ => rfl) (dl_cons_eq (fun _ => rfl) rfl))))))))))) (cons_eq rfl (cons_eq rfl (cons_eq rfl (cons_eq rfl (cons_eq rfl (cons_eq rfl (cons_eq rfl (cons_eq rfl (cons_eq rfl (cons_eq rfl (cons_eq rfl (cons_eq ((eD_skip (by rfl)).trans rfl) (cons_eq ((eD_skip (by rfl)).trans rfl) rfl)))))))))))))
           ·
            intro D b hn hd hcl
            obtain ⟨b8, hd16⟩ := b
            refine TO.rewL (L' := [cells b1 [.string ByteArray.empty, .slice none 0 0] 56, cells b2 [.int .i64 0, .int .i64 0] 26, cells b3 [.string p10, hd13.v] 56, vec encN_T_string 48 1 hd13.v zs2, vec enc_Gapi_Verse 36 6 hd15.v (l4 ++ [(⟨cutB (cutB s1 q1.From q1.To) r4 ((cutB s1 q1.From q1.To).size : Int), r5, (p15.length : Int) - 1, (x1.length : Int), q1.From + r6, q1.To⟩ : Gapi_Verse)]), vec enc_Gapi_Span 34 2 hd3.v r1, cells b4 [.int .i64 q1.From, .int .i64 q1.To] 34, own nest_T_string (zs2.eraseIdx (((p15.length : Int) - 1 : Int).toNat)), emp, cells b6 [.string (cutB (cutB s1 q1.From q1.To) r4 ((cutB s1 q1.From q1.To).size : Int)), .int .i64 r5, .int .i64 ((p15.length : Int) - 1), .int .i64 (x1.length : Int), .int .i64 (q1.From + r6), .int .i64 q1.To] 36, cells b7 [.string (cutB (cutB s1 q1.From q1.To) r4 ((cutB s1 q1.From q1.To).size : Int)), .int .i64 r5, .int .i64 ((p15.length : Int) - 1), .int .i64 (x1.length : Int), .int .i64 (q1.From + r6), .int .i64 q1.To] 36, vec encS 9 1 eh2.v x2, eD D emp [(9, cells b8 [.string (cutB s1 q1.From q1.To)] 9)]]) (cons_eq rfl (cons_eq rfl (cons_eq rfl (cons_eq rfl (cons_eq rfl (cons_eq rfl (cons_eq rfl (cons_eq rfl (cons_eq rfl (cons_eq rfl (cons_eq rfl (cons_eq (eD_miss (fun hD => hn (hcl 4 _ rfl (hcl 6 _ rfl (hcl 7 _ rfl (hcl 10 _ rfl hD 7 dc) 6 dc) 4 dc) 3 dc)) eD_nil) (cons_eq rfl rfl))))))))))))) ?_
            refine TO.fieldAddr fl_56_1 rfl dc (dl_old (by rfl) rfl) (show _ = 1 from rfl) ?_
            exact TX.valG (b8, hd16) 3 (by rfl) (by rfl) rfl (dl_cons_eq (fun _ => rfl) (dl_cons_eq (fun _ => rfl) (dl_cons_eq (fun _ => rfl) (dl_cons_eq (fun _ => rfl) (dl_cons_eq (fun _ => rfl) (dl_cons_eq (fun _ => rfl) (dl_cons_eq (fun _ => rfl) (dl_cons_eq (fun _ => rfl) (dl_cons_eq (fun _ => rfl) (dl_cons_eq (fun _ => rfl) (dl_cons_eq (fun _ => rfl) rfl))))))))))) (cons_eq rfl (cons_eq rfl (cons_eq rfl (cons_eq rfl (cons_eq rfl (cons_eq rfl (cons_eq rfl (cons_eq rfl (cons_eq rfl (cons_eq rfl (cons_eq rfl (cons_eq ((eD_skip (by rfl)).trans (eD_miss (fun hD => hn (hcl 4 _ rfl (hcl 6 _ rfl (hcl 7 _ rfl (hcl 10 _ rfl hD 7 dc) 6 dc) 4 dc) 3 dc)) eD_nil)) (cons_eq ((eD_skip (by rfl)).trans rfl) rfl)))))))))))))
           ·
            intro D b hn hd hcl
            obtain ⟨b8, hd16⟩ := b
            refine TO.rewL (L' := [cells b1 [.string ByteArray.empty, .slice none 0 0] 56, cells b2 [.int .i64 0, .int .i64 0] 26, cells b3 [.string p10, hd13.v] 56, vec encN_T_string 48 1 hd13.v zs2, vec enc_Gapi_Verse 36 6 hd15.v (l4 ++ [(⟨cutB (cutB s1 q1.From q1.To) r4 ((cutB s1 q1.From q1.To).size : Int), r5, (p15.length : Int) - 1, (x1.length : Int), q1.From + r6, q1.To⟩ : Gapi_Verse)]), vec enc_Gapi_Span 34 2 hd3.v r1, cells b4 [.int .i64 q1.From, .int .i64 q1.To] 34, own nest_T_string (zs2.eraseIdx (((p15.length : Int) - 1 : Int).toNat)), emp, cells b6 [.string (cutB (cutB s1 q1.From q1.To) r4 ((cutB s1 q1.From q1.To).size : Int)), .int .i64 r5, .int .i64 ((p15.length : Int) - 1), .int .i64 (x1.length : Int), .int .i64 (q1.From + r6), .int .i64 q1.To] 36, cells b7 [.string (cutB (cutB s1 q1.From q1.To) r4 ((cutB s1 q1.From q1.To).size : Int)), .int .i64 r5, .int .i64 ((p15.length : Int) - 1), .int .i64 (x1.length : Int), .int .i64 (q1.From + r6), .int .i64 q1.To] 36, vec encS 9 1 eh2.v x2, eD D emp [(9, cells b8 [.string (cutB s1 q1.From q1.To)] 9)]]) (cons_eq rfl (cons_eq rfl (cons_eq rfl (cons_eq rfl (cons_eq rfl (cons_eq rfl (cons_eq rfl (cons_eq rfl (cons_eq rfl (cons_eq rfl (cons_eq rfl (cons_eq (eD_miss (fun hD => hn (hcl 6 _ rfl (hcl 7 _ rfl (hcl 10 _ rfl hD 7 dc) 6 dc) 4 dc)) eD_nil) (cons_eq rfl rfl))))))))))))) ?_
            refine TO.load (k := 2) sc_54 rfl dc (dl_lookup (m := 3) rfl rfl (hd 3 dc)) rfl rfl ?_
            exact TX.valG (b8, hd16) 4 (by rfl) (by rfl) rfl (dl_cons_eq (fun _ => rfl) (dl_cons_eq (fun _ => rfl) (dl_cons_eq (fun _ => rfl) (dl_cons_eq (fun _ => rfl) (dl_cons_eq (fun _ => rfl) (dl_cons_eq (fun _ => rfl) (dl_cons_eq (fun _ => rfl) (dl_cons_eq (fun _ => rfl) (dl_cons_eq (fun _ => rfl) (dl_cons_eq (fun _ => rfl) (dl_cons_eq (fun _ => rfl) rfl))))))))))) (cons_eq rfl (cons_eq rfl (cons_eq rfl (cons_eq rfl (cons_eq rfl (cons_eq rfl (cons_eq rfl (cons_eq rfl (cons_eq rfl (cons_eq rfl (cons_eq rfl (cons_eq ((eD_skip (by rfl)).trans (eD_miss (fun hD => hn (hcl 6 _ rfl (hcl 7 _ rfl (hcl 10 _ rfl hD 7 dc) 6 dc) 4 dc)) eD_nil)) (cons_eq ((eD_skip (by rfl)).trans rfl) rfl)))))))))))))
           ·
            intro D b hn hd hcl
            obtain ⟨b8, hd16⟩ := b
            refine TO.rewL (L' := [cells b1 [.string ByteArray.empty, .slice none 0 0] 56, cells b2 [.int .i64 0, .int .i64 0] 26, cells b3 [.string p10, hd13.v] 56, vec encN_T_string 48 1 hd13.v zs2, vec enc_Gapi_Verse 36 6 hd15.v (l4 ++ [(⟨cutB (cutB s1 q1.From q1.To) r4 ((cutB s1 q1.From q1.To).size : Int), r5, (p15.length : Int) - 1, (x1.length : Int), q1.From + r6, q1.To⟩ : Gapi_Verse)]), vec enc_Gapi_Span 34 2 hd3.v r1, cells b4 [.int .i64 q1.From, .int .i64 q1.To] 34, own nest_T_string (zs2.eraseIdx (((p15.length : Int) - 1 : Int).toNat)), emp, cells b6 [.string (cutB (cutB s1 q1.From q1.To) r4 ((cutB s1 q1.From q1.To).size : Int)), .int .i64 r5, .int .i64 ((p15.length : Int) - 1), .int .i64 (x1.length : Int), .int .i64 (q1.From + r6), .int .i64 q1.To] 36, cells b7 [.string (cutB (cutB s1 q1.From q1.To) r4 ((cutB s1 q1.From q1.To).size : Int)), .int .i64 r5, .int .i64 ((p15.length : Int) - 1), .int .i64 (x1.length : Int), .int .i64 (q1.From + r6), .int .i64 q1.To] 36, vec encS 9 1 eh2.v x2, eD D emp [(9, cells b8 [.string (cutB s1 q1.From q1.To)] 9)]]) (cons_eq rfl (cons_eq rfl (cons_eq rfl (cons_eq rfl (cons_eq rfl (cons_eq rfl (cons_eq rfl (cons_eq rfl (cons_eq rfl (cons_eq rfl (cons_eq rfl (cons_eq (eD_miss (fun hD => hn (hcl 6 _ rfl (hcl 7 _ rfl (hcl 10 _ rfl hD 7 dc) 6 dc) 5 dc)) eD_nil) (cons_eq rfl rfl))))))))))))) ?_
            refine TO.move rfl dc (dl_old (by rfl) rfl) ?_
            exact TX.valG (b8, hd16) 5 (by rfl) (by rfl) rfl (dl_cons_eq (fun _ => rfl) (dl_cons_eq (fun _ => rfl) (dl_cons_eq (fun _ => rfl) (dl_cons_eq (fun _ => rfl) (dl_cons_eq (fun _ => rfl) (dl_cons_eq (fun _ => rfl) (dl_cons_eq (fun _ => rfl) (dl_cons_eq (fun _ => rfl) (dl_cons_eq (fun _ => rfl) (dl_cons_eq (fun _ => rfl) (dl_cons_eq (fun _ => rfl) rfl))))))))))) (cons_eq rfl (cons_eq rfl (cons_eq rfl (cons_eq rfl (cons_eq rfl (cons_eq rfl (cons_eq rfl (cons_eq rfl (cons_eq rfl (cons_eq rfl (cons_eq rfl (cons_eq ((eD_skip (by rfl)).trans (eD_miss (fun hD => hn (hcl 6 _ rfl (hcl 7 _ rfl (hcl 10 _ rfl hD 7 dc) 6 dc) 5 dc)) eD_nil)) (cons_eq ((eD_skip (by rfl)).trans rfl) rfl)))))))))))))
           ·
            intro D b hn hd hcl
            obtain ⟨b8, hd16⟩ := b
            refine TO.rewL (L' := [cells b1 [.string ByteArray.empty, .slice none 0 0] 56, cells b2 [.int .i64 0, .int .i64 0] 26, cells b3 [.string p10, hd13.v] 56, vec encN_T_string 48 1 hd13.v zs2, vec enc_Gapi_Verse 36 6 hd15.v (l4 ++ [(⟨cutB (cutB s1 q1.From q1.To) r4 ((cutB s1 q1.From q1.To).size : Int), r5, (p15.length : Int) - 1, (x1.length : Int), q1.From + r6, q1.To⟩ : Gapi_Verse)]), vec enc_Gapi_Span 34 2 hd3.v r1, cells b4 [.int .i64 q1.From, .int .i64 q1.To] 34, own nest_T_string (zs2.eraseIdx (((p15.length : Int) - 1 : Int).toNat)), emp, cells b6 [.string (cutB (cutB s1 q1.From q1.To) r4 ((cutB s1 q1.From q1.To).size : Int)), .int .i64 r5, .int .i64 ((p15.length : Int) - 1), .int .i64 (x1.length : Int), .int .i64 (q1.From + r6), .int .i64 q1.To] 36, cells b7 [.string (cutB (cutB s1 q1.From q1.To) r4 ((cutB s1 q1.From q1.To).size : Int)), .int .i64 r5, .int .i64 ((p15.length : Int) - 1), .int .i64 (x1.length : Int), .int .i64 (q1.From + r6), .int .i64 q1.To] 36, vec encS 9 1 eh2.v x2, eD D emp [(9, cells b8 [.string (cutB s1 q1.From q1.To)] 9)]]) (cons_eq rfl (cons_eq rfl (cons_eq rfl (cons_eq rfl (cons_eq rfl (cons_eq rfl (cons_eq rfl (cons_eq rfl (cons_eq rfl (cons_eq rfl (cons_eq rfl (cons_eq (eD_miss (fun hD => hn (hcl 7 _ rfl (hcl 10 _ rfl hD 7 dc) 6 dc)) eD_nil) (cons_eq rfl rfl))))))))))))) ?_
            refine TO.indexVecI (k := 3) eq2 Tryd.underlying54 sz_48 rfl dc (dl_lookup (m := 4) rfl rfl (hd 4 dc)) (dl_lookup (m := 5) rfl rfl (hd 5 dc)) rfl rfl ?_
            exact TX.valG (b8, hd16) 6 (by rfl) (by rfl) rfl (dl_cons_eq (fun _ => rfl) (dl_cons_eq (fun _ => rfl) (dl_cons_eq (fun _ => rfl) (dl_cons_eq (fun _ => rfl) (dl_cons_eq (fun _ => rfl) (dl_cons_eq (fun _ => rfl) (dl_cons_eq (fun _ => rfl) (dl_cons_eq (fun _ => rfl) (dl_cons_eq (fun _ => rfl) (dl_cons_eq (fun _ => rfl) (dl_cons_eq (fun _ => rfl) rfl))))))))))) (cons_eq rfl (cons_eq rfl (cons_eq rfl (cons_eq rfl (cons_eq rfl (cons_eq rfl (cons_eq rfl (cons_eq rfl (cons_eq rfl (cons_eq rfl (cons_eq rfl (cons_eq ((eD_skip (by rfl)).trans (eD_miss (fun hD => hn (hcl 7 _ rfl (hcl 10 _ rfl hD 7 dc) 6 dc)) eD_nil)) (cons_eq ((eD_skip (by rfl)).trans rfl) rfl)))))))))))))
           ·
            intro D b hn hd hcl
            obtain ⟨b8, hd16⟩ := b
            refine TO.rewL (L' := [cells b1 [.string ByteArray.empty, .slice none 0 0] 56, cells b2 [.int .i64 0, .int .i64 0] 26, cells b3 [.string p10, hd13.v] 56, vec encN_T_string 48 1 hd13.v zs2, vec enc_Gapi_Verse 36 6 hd15.v (l4 ++ [(⟨cutB (cutB s1 q1.From q1.To) r4 ((cutB s1 q1.From q1.To).size : Int), r5, (p15.length : Int) - 1, (x1.length : Int), q1.From + r6, q1.To⟩ : Gapi_Verse)]), vec enc_Gapi_Span 34 2 hd3.v r1, cells b4 [.int .i64 q1.From, .int .i64 q1.To] 34, own nest_T_string (zs2.eraseIdx (((p15.length : Int) - 1 : Int).toNat)), emp, cells b6 [.string (cutB (cutB s1 q1.From q1.To) r4 ((cutB s1 q1.From q1.To).size : Int)), .int .i64 r5, .int .i64 ((p15.length : Int) - 1), .int .i64 (x1.length : Int), .int .i64 (q1.From + r6), .int .i64 q1.To] 36, cells b7 [.string (cutB (cutB s1 q1.From q1.To) r4 ((cutB s1 q1.From q1.To).size : Int)), .int .i64 r5, .int .i64 ((p15.length : Int) - 1), .int .i64 (x1.length : Int), .int .i64 (q1.From + r6), .int .i64 q1.To] 36, vec encS 9 1 eh2.v x2, eD D emp [(9, cells b8 [.string (cutB s1 q1.From q1.To)] 9)]]) (cons_eq rfl (cons_eq rfl (cons_eq rfl (cons_eq rfl (cons_eq rfl (cons_eq rfl (cons_eq rfl (cons_eq rfl (cons_eq rfl (cons_eq rfl (cons_eq rfl (cons_eq (eD_miss (fun hD => hn (hcl 10 _ rfl hD 7 dc)) eD_nil) (cons_eq rfl rfl))))))))))))) ?_
            refine TO.loadVec (i := ((p15.length : Int) - 1 : Int).toNat) (j := 0) (k := 3) (q := (x2, eh2)) sc_48 encN_T_string_len rfl dc (dl_lookup (m := 6) rfl rfl (hd 6 dc)) rfl (getO_get eq2) rfl dc rfl ?_
            exact TX.valG (b8, hd16) 7 (by rfl) (by rfl) rfl (dl_cons_eq (fun _ => rfl) (dl_cons_eq (fun _ => rfl) (dl_cons_eq (fun _ => rfl) (dl_cons_eq (fun _ => rfl) (dl_cons_eq (fun _ => rfl) (dl_cons_eq (fun _ => rfl) (dl_cons_eq (fun _ => rfl) (dl_cons_eq (fun _ => rfl) (dl_cons_eq (fun _ => rfl) (dl_cons_eq (fun _ => rfl) (dl_cons_eq (fun _ => rfl) rfl))))))))))) (cons_eq rfl (cons_eq rfl (cons_eq rfl (cons_eq rfl (cons_eq rfl (cons_eq rfl (cons_eq rfl (cons_eq rfl (cons_eq rfl (cons_eq rfl (cons_eq rfl (cons_eq ((eD_skip (by rfl)).trans (eD_miss (fun hD => hn (hcl 10 _ rfl hD 7 dc)) eD_nil)) (cons_eq ((eD_skip (by rfl)).trans rfl) rfl)))))))))))))
           ·
            intro D b hn hd hcl
            obtain ⟨b8, hd16⟩ := b
            refine TO.rewL (L' := [cells b1 [.string ByteArray.empty, .slice none 0 0] 56, cells b2 [.int .i64 0, .int .i64 0] 26, cells b3 [.string p10, hd13.v] 56, vec encN_T_string 48 1 hd13.v zs2, vec enc_Gapi_Verse 36 6 hd15.v (l4 ++ [(⟨cutB (cutB s1 q1.From q1.To) r4 ((cutB s1 q1.From q1.To).size : Int), r5, (p15.length : Int) - 1, (x1.length : Int), q1.From + r6, q1.To⟩ : Gapi_Verse)]), vec enc_Gapi_Span 34 2 hd3.v r1, cells b4 [.int .i64 q1.From, .int .i64 q1.To] 34, own nest_T_string (zs2.eraseIdx (((p15.length : Int) - 1 : Int).toNat)), emp, cells b6 [.string (cutB (cutB s1 q1.From q1.To) r4 ((cutB s1 q1.From q1.To).size : Int)), .int .i64 r5, .int .i64 ((p15.length : Int) - 1), .int .i64 (x1.length : Int), .int .i64 (q1.From + r6), .int .i64 q1.To] 36, cells b7 [.string (cutB (cutB s1 q1.From q1.To) r4 ((cutB s1 q1.From q1.To).size : Int)), .int .i64 r5, .int .i64 ((p15.length : Int) - 1), .int .i64 (x1.length : Int), .int .i64 (q1.From + r6), .int .i64 q1.To] 36, vec encS 9 1 eh2.v x2, emp]) (cons_eq rfl (cons_eq rfl (cons_eq rfl (cons_eq rfl (cons_eq rfl (cons_eq rfl (cons_eq rfl (cons_eq rfl (cons_eq rfl (cons_eq rfl (cons_eq rfl (cons_eq (eD_miss (fun hD => hn (hcl 9 _ rfl (hcl 10 _ rfl hD 9 dc) 8 dc)) eD_nil) (cons_eq (eD_miss (fun hD => hn (hcl 9 _ rfl hD 8 dc)) eD_nil) rfl))))))))))))) ?_
            refine TO.move rfl dc (dl_old (by rfl) rfl) ?_
            exact TX.valG (b8, hd16) 8 (by rfl) (by rfl) rfl (dl_cons_eq (fun _ => rfl) (dl_cons_eq (fun _ => rfl) (dl_cons_eq (fun _ => rfl) (dl_cons_eq (fun _ => rfl) (dl_cons_eq (fun _ => rfl) (dl_cons_eq (fun _ => rfl) (dl_cons_eq (fun _ => rfl) (dl_cons_eq (fun _ => rfl) (dl_cons_eq (fun _ => rfl) (dl_cons_eq (fun _ => rfl) (dl_cons_eq (fun _ => rfl) rfl))))))))))) (cons_eq rfl (cons_eq rfl (cons_eq rfl (cons_eq rfl (cons_eq rfl (cons_eq rfl (cons_eq rfl (cons_eq rfl (cons_eq rfl (cons_eq rfl (cons_eq rfl (cons_eq ((eD_skip (by rfl)).trans (eD_miss (fun hD => hn (hcl 9 _ rfl (hcl 10 _ rfl hD 9 dc) 8 dc)) eD_nil)) (cons_eq ((eD_skip (by rfl)).trans (eD_miss (fun hD => hn (hcl 9 _ rfl hD 8 dc)) eD_nil)) rfl)))))))))))))
           ·
            intro D b hn hd hcl
            obtain ⟨_, hd16⟩ := b
            refine TO.rewL (L' := [cells b1 [.string ByteArray.empty, .slice none 0 0] 56, cells b2 [.int .i64 0, .int .i64 0] 26, cells b3 [.string p10, hd13.v] 56, vec encN_T_string 48 1 hd13.v zs2, vec enc_Gapi_Verse 36 6 hd15.v (l4 ++ [(⟨cutB (cutB s1 q1.From q1.To) r4 ((cutB s1 q1.From q1.To).size : Int), r5, (p15.length : Int) - 1, (x1.length : Int), q1.From + r6, q1.To⟩ : Gapi_Verse)]), vec enc_Gapi_Span 34 2 hd3.v r1, cells b4 [.int .i64 q1.From, .int .i64 q1.To] 34, own nest_T_string (zs2.eraseIdx (((p15.length : Int) - 1 : Int).toNat)), emp, cells b6 [.string (cutB (cutB s1 q1.From q1.To) r4 ((cutB s1 q1.From q1.To).size : Int)), .int .i64 r5, .int .i64 ((p15.length : Int) - 1), .int .i64 (x1.length : Int), .int .i64 (q1.From + r6), .int .i64 q1.To] 36, cells b7 [.string (cutB (cutB s1 q1.From q1.To) r4 ((cutB s1 q1.From q1.To).size : Int)), .int .i64 r5, .int .i64 ((p15.length : Int) - 1), .int .i64 (x1.length : Int), .int .i64 (q1.From + r6), .int .i64 q1.To] 36, vec encS 9 1 eh2.v x2, emp]) (cons_eq rfl (cons_eq rfl (cons_eq rfl (cons_eq rfl (cons_eq rfl (cons_eq rfl (cons_eq rfl (cons_eq rfl (cons_eq rfl (cons_eq rfl (cons_eq rfl (cons_eq (eD_miss (fun hD => hn (hcl 10 _ rfl hD 9 dc)) eD_nil) (cons_eq (eD_miss hn eD_nil) rfl))))))))))))) ?_
            refine TO.buildSlice (cs := [.string (cutB s1 q1.From q1.To)]) (te := 9) (ps := [(0, .tmp 111)]) rfl dc (evP.cons (dl_lookup (m := 8) rfl rfl (hd 8 dc)) evP.nil) (fun _ => by kernel_rfl) (fun b8 => ?_)
            refine TO.place 12 rfl rfl ?_
            show TO _ _ _ _ _ _ _ _ _ _ [cells b1 [.string ByteArray.empty, .slice none 0 0] 56, cells b2 [.int .i64 0, .int .i64 0] 26, cells b3 [.string p10, hd13.v] 56, vec encN_T_string 48 1 hd13.v zs2, vec enc_Gapi_Verse 36 6 hd15.v (l4 ++ [(⟨cutB (cutB s1 q1.From q1.To) r4 ((cutB s1 q1.From q1.To).size : Int), r5, (p15.length : Int) - 1, (x1.length : Int), q1.From + r6, q1.To⟩ : Gapi_Verse)]), vec enc_Gapi_Span 34 2 hd3.v r1, cells b4 [.int .i64 q1.From, .int .i64 q1.To] 34, own nest_T_string (zs2.eraseIdx (((p15.length : Int) - 1 : Int).toNat)), emp, cells b6 [.string (cutB (cutB s1 q1.From q1.To) r4 ((cutB s1 q1.From q1.To).size : Int)), .int .i64 r5, .int .i64 ((p15.length : Int) - 1), .int .i64 (x1.length : Int), .int .i64 (q1.From + r6), .int .i64 q1.To] 36, cells b7 [.string (cutB (cutB s1 q1.From q1.To) r4 ((cutB s1 q1.From q1.To).size : Int)), .int .i64 r5, .int .i64 ((p15.length : Int) - 1), .int .i64 (x1.length : Int), .int .i64 (q1.From + r6), .int .i64 q1.To] 36, vec encS 9 1 eh2.v x2, cells b8 [.string (cutB s1 q1.From q1.To)] 9]
            exact TX.valG (b8, hd16) 9 (by rfl) (by rfl) rfl (dl_cons_eq (fun _ => rfl) (dl_cons_eq (fun _ => rfl) (dl_cons_eq (fun _ => rfl) (dl_cons_eq (fun _ => rfl) (dl_cons_eq (fun _ => rfl) (dl_cons_eq (fun _ => rfl) (dl_cons_eq (fun _ => rfl) (dl_cons_eq (fun _ => rfl) (dl_cons_eq (fun _ => rfl) (dl_cons_eq (fun hD => absurd hD hn) (dl_cons_eq (fun _ => rfl) rfl))))))))))) (cons_eq rfl (cons_eq rfl (cons_eq rfl (cons_eq rfl (cons_eq rfl (cons_eq rfl (cons_eq rfl (cons_eq rfl (cons_eq rfl (cons_eq rfl (cons_eq rfl (cons_eq ((eD_skip (by rfl)).trans (eD_miss (fun hD => hn (hcl 10 _ rfl hD 9 dc)) eD_nil)) (cons_eq (eD_hit (Or.inr rfl) rfl) rfl)))))))))))))
           ·
            intro D b hn hd hcl
            obtain ⟨b8, _⟩ := b
            refine TO.rewL (L' := [cells b1 [.string ByteArray.empty, .slice none 0 0] 56, cells b2 [.int .i64 0, .int .i64 0] 26, cells b3 [.string p10, hd13.v] 56, vec encN_T_string 48 1 hd13.v zs2, vec enc_Gapi_Verse 36 6 hd15.v (l4 ++ [(⟨cutB (cutB s1 q1.From q1.To) r4 ((cutB s1 q1.From q1.To).size : Int), r5, (p15.length : Int) - 1, (x1.length : Int), q1.From + r6, q1.To⟩ : Gapi_Verse)]), vec enc_Gapi_Span 34 2 hd3.v r1, cells b4 [.int .i64 q1.From, .int .i64 q1.To] 34, own nest_T_string (zs2.eraseIdx (((p15.length : Int) - 1 : Int).toNat)), emp, cells b6 [.string (cutB (cutB s1 q1.From q1.To) r4 ((cutB s1 q1.From q1.To).size : Int)), .int .i64 r5, .int .i64 ((p15.length : Int) - 1), .int .i64 (x1.length : Int), .int .i64 (q1.From + r6), .int .i64 q1.To] 36, cells b7 [.string (cutB (cutB s1 q1.From q1.To) r4 ((cutB s1 q1.From q1.To).size : Int)), .int .i64 r5, .int .i64 ((p15.length : Int) - 1), .int .i64 (x1.length : Int), .int .i64 (q1.From + r6), .int .i64 q1.To] 36, vec encS 9 1 eh2.v x2, cells b8 [.string (cutB s1 q1.From q1.To)] 9]) (cons_eq rfl (cons_eq rfl (cons_eq rfl (cons_eq rfl (cons_eq rfl (cons_eq rfl (cons_eq rfl (cons_eq rfl (cons_eq rfl (cons_eq rfl (cons_eq rfl (cons_eq (eD_miss hn eD_nil) (cons_eq (eD_hit (hd 9 dc) rfl) rfl))))))))))))) ?_
            refine TO.appendVec (k := 11) (k2 := 12) (ys := [cutB s1 q1.From q1.To]) Tryd.underlying48 el_9 encS_len encS_one rfl dc (dl_lookup (m := 7) rfl rfl (hd 7 dc)) (dl_lookup (m := 9) rfl rfl (hd 9 dc)) rfl rfl rfl rfl hg9 (fun v4 => ?_)
            refine TO.nameHd (k := 11) rfl (fun hd16 he4 => ?_)
            subst he4
            exact TX.valG (b8, hd16) 10 (by rfl) (by rfl) rfl (dl_cons_eq (fun _ => rfl) (dl_cons_eq (fun _ => rfl) (dl_cons_eq (fun _ => rfl) (dl_cons_eq (fun _ => rfl) (dl_cons_eq (fun _ => rfl) (dl_cons_eq (fun _ => rfl) (dl_cons_eq (fun _ => rfl) (dl_cons_eq (fun _ => rfl) (dl_cons_eq (fun _ => rfl) (dl_cons_eq (fun _ => rfl) (dl_cons_eq (fun hD => absurd hD hn) rfl))))))))))) (cons_eq rfl (cons_eq rfl (cons_eq rfl (cons_eq rfl (cons_eq rfl (cons_eq rfl (cons_eq rfl (cons_eq rfl (cons_eq rfl (cons_eq rfl (cons_eq rfl (cons_eq (eD_hit (Or.inr rfl) rfl) (cons_eq ((eD_skip (by rfl)).trans (eD_hit (hd 9 dc) rfl)) rfl)))))))))))))
           intro D b hall
           obtain ⟨b8, hd16⟩ := b
           refine TO.rewL (L' := [cells b1 [.string ByteArray.empty, .slice none 0 0] 56, cells b2 [.int .i64 0, .int .i64 0] 26, cells b3 [.string p10, hd13.v] 56, vec encN_T_string 48 1 hd13.v zs2, vec enc_Gapi_Verse 36 6 hd15.v (l4 ++ [(⟨cutB (cutB s1 q1.From q1.To) r4 ((cutB s1 q1.From q1.To).size : Int), r5, (p15.length : Int) - 1, (x1.length : Int), q1.From + r6, q1.To⟩ : Gapi_Verse)]), vec enc_Gapi_Span 34 2 hd3.v r1, cells b4 [.int .i64 q1.From, .int .i64 q1.To] 34, own nest_T_string (zs2.eraseIdx (((p15.length : Int) - 1 : Int).toNat)), emp, cells b6 [.string (cutB (cutB s1 q1.From q1.To) r4 ((cutB s1 q1.From q1.To).size : Int)), .int .i64 r5, .int .i64 ((p15.length : Int) - 1), .int .i64 (x1.length : Int), .int .i64 (q1.From + r6), .int .i64 q1.To] 36, cells b7 [.string (cutB (cutB s1 q1.From q1.To) r4 ((cutB s1 q1.From q1.To).size : Int)), .int .i64 r5, .int .i64 ((p15.length : Int) - 1), .int .i64 (x1.length : Int), .int .i64 (q1.From + r6), .int .i64 q1.To] 36, vec encS 9 1 hd16.v (x2 ++ [cutB s1 q1.From q1.To]), cells b8 [.string (cutB s1 q1.From q1.To)] 9]) (cons_eq rfl (cons_eq rfl (cons_eq rfl (cons_eq rfl (cons_eq rfl (cons_eq rfl (cons_eq rfl (cons_eq rfl (cons_eq rfl (cons_eq rfl (cons_eq rfl (cons_eq (eD_hit (hall 10 dc) rfl) (cons_eq (eD_hit (hall 9 dc) rfl) rfl))))))))))))) (TO.indexVecI (k := 3) eq2 Tryd.underlying54 sz_48 rfl dc rfl rfl rfl rfl ?_)
           refine TO.storeVec (i := ((p15.length : Int) - 1 : Int).toNat) (j := 0) (k := 3) (q := (x2, eh2)) (q' := (x2 ++ [cutB s1 q1.From q1.To], hd16)) sz_48 encN_T_string_len rfl rfl rfl rfl (getO_get eq2) rfl dc rfl (fun _ _ => rfl) ?_
           show TO _ _ _ _ _ _ _ _ _ _ [cells b1 [.string ByteArray.empty, .slice none 0 0] 56, cells b2 [.int .i64 0, .int .i64 0] 26, cells b3 [.string p10, hd13.v] 56, vec encN_T_string 48 1 hd13.v (zs2.set (((p15.length : Int) - 1 : Int).toNat) (x2 ++ [cutB s1 q1.From q1.To], hd16)), vec enc_Gapi_Verse 36 6 hd15.v (l4 ++ [(⟨cutB (cutB s1 q1.From q1.To) r4 ((cutB s1 q1.From q1.To).size : Int), r5, (p15.length : Int) - 1, (x1.length : Int), q1.From + r6, q1.To⟩ : Gapi_Verse)]), vec enc_Gapi_Span 34 2 hd3.v r1, cells b4 [.int .i64 q1.From, .int .i64 q1.To] 34, own nest_T_string (zs2.eraseIdx (((p15.length : Int) - 1 : Int).toNat)), emp, cells b6 [.string (cutB (cutB s1 q1.From q1.To) r4 ((cutB s1 q1.From q1.To).size : Int)), .int .i64 r5, .int .i64 ((p15.length : Int) - 1), .int .i64 (x1.length : Int), .int .i64 (q1.From + r6), .int .i64 q1.To] 36, cells b7 [.string (cutB (cutB s1 q1.From q1.To) r4 ((cutB s1 q1.From q1.To).size : Int)), .int .i64 r5, .int .i64 ((p15.length : Int) - 1), .int .i64 (x1.length : Int), .int .i64 (q1.From + r6), .int .i64 q1.To] 36, vec encS 9 1 hd16.v (x2 ++ [cutB s1 q1.From q1.To]), cells b8 [.string (cutB s1 q1.From q1.To)] 9]
           refine TO.fold1 (k := 7) rfl (Splits.of [11] kr rfl) rfl (pushE (nest := nest_T_string) (zs := zs2) (z := (x2 ++ [cutB s1 q1.From q1.To], hd16)) (set_get (getO_get eq2)) set_erase) ?_
           show TO _ _ _ _ _ _ _ _ _ _ [cells b1 [.string ByteArray.empty, .slice none 0 0] 56, cells b2 [.int .i64 0, .int .i64 0] 26, cells b3 [.string p10, hd13.v] 56, vec encN_T_string 48 1 hd13.v (zs2.set (((p15.length : Int) - 1 : Int).toNat) (x2 ++ [cutB s1 q1.From q1.To], hd16)), vec enc_Gapi_Verse 36 6 hd15.v (l4 ++ [(⟨cutB (cutB s1 q1.From q1.To) r4 ((cutB s1 q1.From q1.To).size : Int), r5, (p15.length : Int) - 1, (x1.length : Int), q1.From + r6, q1.To⟩ : Gapi_Verse)]), vec enc_Gapi_Span 34 2 hd3.v r1, cells b4 [.int .i64 q1.From, .int .i64 q1.To] 34, own nest_T_string (zs2.set (((p15.length : Int) - 1 : Int).toNat) (x2 ++ [cutB s1 q1.From q1.To], hd16)), emp, cells b6 [.string (cutB (cutB s1 q1.From q1.To) r4 ((cutB s1 q1.From q1.To).size : Int)), .int .i64 r5, .int .i64 ((p15.length : Int) - 1), .int .i64 (x1.length : Int), .int .i64 (q1.From + r6), .int .i64 q1.To] 36, cells b7 [.string (cutB (cutB s1 q1.From q1.To) r4 ((cutB s1 q1.From q1.To).size : Int)), .int .i64 r5, .int .i64 ((p15.length : Int) - 1), .int .i64 (x1.length : Int), .int .i64 (q1.From + r6), .int .i64 q1.To] 36, emp, cells b8 [.string (cutB s1 q1.From q1.To)] 9]
           refine TO.nil (TX.blockNormal (TX.fold1 (k := 3) rfl (Splits.of [7] kr rfl) rfl (closeE (enc := encN_T_string) (nest := nest_T_string) (zset hz2)) ?_))
           show TX _ _ _ _ _ _ _ [cells b1 [.string ByteArray.empty, .slice none 0 0] 56, cells b2 [.int .i64 0, .int .i64 0] 26, cells b3 [.string p10, hd13.v] 56, vecN encN_T_string nest_T_string 48 1 hd13.v (p15.set ((p15.length : Int) - 1 : Int).toNat (x2 ++ [cutB s1 q1.From q1.To])), vec enc_Gapi_Verse 36 6 hd15.v (l4 ++ [(⟨cutB (cutB s1 q1.From q1.To) r4 ((cutB s1 q1.From q1.To).size : Int), r5, (p15.length : Int) - 1, (x1.length : Int), q1.From + r6, q1.To⟩ : Gapi_Verse)]), vec enc_Gapi_Span 34 2 hd3.v r1, cells b4 [.int .i64 q1.From, .int .i64 q1.To] 34, emp, emp, cells b6 [.string (cutB (cutB s1 q1.From q1.To) r4 ((cutB s1 q1.From q1.To).size : Int)), .int .i64 r5, .int .i64 ((p15.length : Int) - 1), .int .i64 (x1.length : Int), .int .i64 (q1.From + r6), .int .i64 q1.To] 36, cells b7 [.string (cutB (cutB s1 q1.From q1.To) r4 ((cutB s1 q1.From q1.To).size : Int)), .int .i64 r5, .int .i64 ((p15.length : Int) - 1), .int .i64 (x1.length : Int), .int .i64 (q1.From + r6), .int .i64 q1.To] 36, emp, cells b8 [.string (cutB s1 q1.From q1.To)] 9]
           exact TX.meetD (p10, p15.set ((p15.length : Int) - 1 : Int).toNat (x2 ++ [cutB s1 q1.From q1.To]), l4 ++ [(⟨cutB (cutB s1 q1.From q1.To) r4 ((cutB s1 q1.From q1.To).size : Int), r5, (p15.length : Int) - 1, (x1.length : Int), q1.From + r6, q1.To⟩ : Gapi_Verse)], false, true, hd13, hd15) h rfl (Sbs.cons rfl (Sbs.cons rfl (Sbs.cons rfl (Sbs.cons rfl (Sbs.cons rfl (Sbs.cons rfl (Sbs.cons rfl (Sbs.cons rfl (Sbs.cons rfl (Sbs.nil)))))))))) (Splits.of [0, 1, 2, 3, 4, 5] kr rfl)
     ·
      rintro ⟨p12, p13, l5, first4, row4, hd11, hd12⟩ h
      rw [hj2] at h
      show TC _ _ _ _ _ ([]) _ _ [(0, .string s1), (2, .pointer (some ⟨b1, 0, none⟩)), (4, .pointer (some ⟨b2, 0, none⟩)), (5, .pointer (some ⟨b3, 0, none⟩)), (6, hd12.v), (7, hd3.v), (8, .bool first4), (9, .bool row4), (10, .int .i64 i3)] [cells b1 [.string ByteArray.empty, .slice none 0 0] 56, cells b2 [.int .i64 0, .int .i64 0] 26, cells b3 [.string p12, hd11.v] 56, vecN encN_T_string nest_T_string 48 1 hd11.v p13, vec enc_Gapi_Verse 36 6 hd12.v l5, vec enc_Gapi_Span 34 2 hd3.v r1]
      refine TC.region (TO.move rfl dc rfl ?_)
      obtain ⟨hg10, h⟩ := grdE h
      refine TO.bin rfl dc rfl rfl (bin_add (r := i3 + 1) (IntWalk.i64_in _ hg10)) (TO.assign rfl dc rfl (TO.nil ?_))
      subst hag1
      exact TX.againD (n1, p12, p13, l5, first4, row4, i3 + 1, hd11, hd12) h (Nat.lt_succ_self _) rfl (Sbs.cons rfl (Sbs.cons rfl (Sbs.cons rfl (Sbs.cons rfl (Sbs.cons rfl (Sbs.cons rfl (Sbs.cons rfl (Sbs.cons rfl (Sbs.cons rfl (Sbs.nil)))))))))) (Splits.of [0, 1, 2, 3, 4, 5] kr rfl)
    ·
     have h := condF hb2 h
     refine TC.exit (TX.thenExit (TX.thenExit (TX.blockHere ?_)))
     exact TX.meetD (p10, p11, l4, hd9, hd10) h rfl (Sbs.cons rfl (Sbs.cons rfl (Sbs.cons rfl (Sbs.cons rfl (Sbs.nil))))) (Splits.of [0, 1, 2, 3, 4] kr rfl)
  ·
   rintro ⟨p1, p2, l1, hd1, hd2⟩ h
   rw [hj1] at h
   show TC _ _ _ _ _ ([]) _ _ [(2, .pointer (some ⟨b1, 0, none⟩)), (4, .pointer (some ⟨b2, 0, none⟩)), (5, .pointer (some ⟨b3, 0, none⟩)), (6, hd2.v)] [cells b1 [.string ByteArray.empty, .slice none 0 0] 56, cells b2 [.int .i64 0, .int .i64 0] 26, cells b3 [.string p1, hd1.v] 56, vecN encN_T_string nest_T_string 48 1 hd1.v p2, vec enc_Gapi_Verse 36 6 hd2.v l1]
   refine TC.seq (TC.region (TO.loads (k := 2) (cs := [.string p1, hd1.v]) rw_56 rfl dc rfl rfl rfl rfl (TO.move rfl dc rfl ?_)))
   refine TO.build (v := .agg #[.int .i64 0, .int .i64 0]) (ps := []) rfl dc rfl (fun _ => by kernel_rfl) ?_
   refine TO.stores (k := 0) (vs := [.string p1, hd1.v]) (l' := [.string p1, hd1.v]) sz_56 rfl rfl rfl rfl rfl (show _ ≤ _ by simp) rfl rfl (TO.assign rfl dc rfl (TO.stores (k := 1) (vs := [.int .i64 0, .int .i64 0]) (l' := [.int .i64 0, .int .i64 0]) sz_26 rfl rfl rfl rfl rfl (show _ ≤ _ by simp) rfl rfl ?_))
   show TO _ _ _ _ _ _ _ _ _ _ [cells b1 [.string p1, hd1.v] 56, cells b2 [.int .i64 0, .int .i64 0] 26, cells b3 [.string p1, hd1.v] 56, vecN encN_T_string nest_T_string 48 1 hd1.v p2, vec enc_Gapi_Verse 36 6 hd2.v l1]
   refine TO.nil (TX.next (TC.ret ?_))
   cases h
   exact TX.fin (rs := [.cell 2 56, .tmp 3, .cell 4 26]) (hd1, hd2.v) (.inl rfl) Tryd.results30 (.cons (.cells rw_56 (k := 0) rfl rfl rfl) (.cons (.tmp rfl) (.cons (.cells rw_26 (k := 1) rfl rfl rfl) .nil))) rfl (Splits.of [3, 4] kr rfl)
end Go.Proofs.YtgfkogafkhbgnaaDoor
namespace Go.Proofs.YtgfkogafkhbgnaaDoor
open Go.RowKit Go.Lib
set_option linter.unusedVariables false
set_option linter.unusedSimpArgs false
/-! ### Texts of bytes -/
def mkB (l : List UInt8) : ByteArray := ⟨l.toArray⟩
theorem mkB_data (l : List UInt8) : (mkB l).data.toList = l := rfl
theorem mkB_size (l : List UInt8) : (mkB l).size = l.length := by rw [← bs_len, mkB_data]
theorem mkB_inj {a b : List UInt8} (h : mkB a = mkB b) : a = b := by
  have := congrArg (fun s : ByteArray => s.data.toList) h
  exact this
theorem cutB_mk (l : List UInt8) (i j : Nat) : cutB (mkB l) (i : Int) (j : Int) = mkB ((l.drop i).take (j - i)) := by
  unfold cutB
  have h : ∀ a b : ByteArray, a.data.toList = b.data.toList → a = b := fun a b h => by
    have : mkB a.data.toList = mkB b.data.toList := by rw [h]
    exact this
  apply h
  rw [mkB_data]
  simp only [Int.toNat_natCast, ByteArray.data_extract, Array.toList_extract, List.extract, mkB_data]
theorem cutB_to (l : List UInt8) (i : Nat) : cutB (mkB l) (i : Int) ((mkB l).size : Int) = mkB (l.drop i) := by
  rw [cutB_mk, mkB_size, List.take_of_length_le (by rw [List.length_drop]; omega)]

/-! ### Blank lines -/
def isB (b : UInt8) : Bool := b == 32 || b == 9
def blank (l : List UInt8) : Bool := l.all isB
theorem dropWhile_head {p : UInt8 → Bool} : ∀ {l : List UInt8} {c : UInt8} {t : List UInt8}, l.dropWhile p = c :: t → p c = false
  | [], c, t, h => by cases h
  | b :: l, c, t, h => by
    rw [List.dropWhile_cons] at h
    split at h
    · exact dropWhile_head h
    · rename_i hb
      rw [← (List.cons.inj h).1]; simpa using hb
theorem dropWhile_nil {p : UInt8 → Bool} : ∀ (l : List UInt8), l.dropWhile p = [] ↔ l.all p = true
  | [] => by simp
  | b :: l => by
    rw [List.dropWhile_cons, List.all_cons]
    split
    · rename_i h; rw [dropWhile_nil l, h, Bool.true_and]
    · rename_i h; rw [Bool.not_eq_true] at h; rw [h]; simp
theorem trim_blank (l : List UInt8) : Lib.trimS l [32, 9] = [] ↔ blank l = true := by
  have hc : (fun x => ([32, 9] : List UInt8).contains x) = isB := by
    funext x; unfold isB; simp only [List.contains_cons, List.contains_nil, Bool.or_false]
  unfold Lib.trimS Lib.trimLeftS Lib.trimRightS blank
  rw [hc]
  cases hd : l.reverse.dropWhile isB with
  | nil =>
    have := (dropWhile_nil l.reverse).1 hd
    rw [List.all_reverse] at this
    rw [this]; simp
  | cons c t =>
    have h1 := dropWhile_head hd
    rw [dropWhile_nil, List.all_reverse, List.all_cons, h1]
    have h2 : l.all isB = false := by
      cases h : l.all isB with
      | false => rfl
      | true =>
        rw [← List.all_reverse, ← dropWhile_nil, hd] at h; cases h
    rw [h2]; simp
theorem empty_v (l : List UInt8) (h : l.length ≤ 9223372036854775807) : poem_empty_v (mkB l) = some (blank l) := by
  unfold poem_empty_v
  refine grdI (by rw [mkB_size]; exact h) (congrArg some ?_)
  unfold trimST
  rw [mkB_data]
  have : (⟨(Lib.trimS l [32, 9]).toArray⟩ : ByteArray) = mkB (Lib.trimS l [32, 9]) := rfl
  rw [this, show (⟨#[]⟩ : ByteArray) = mkB [] from rfl]
  cases hb : blank l with
  | true => exact decide_eq_true (by rw [(trim_blank l).2 hb])
  | false => exact decide_eq_false (fun e => by have := (trim_blank l).1 (mkB_inj e); rw [hb] at this; cases this)
/-- A loop that looks at a text's bytes one by one. -/
theorem byte_loop {R : Type} {F : (Int → Option R) → Int → Option R} {bot : Int → Option R} (l : List UInt8) (g : UInt8 → Option (Option R)) (J : Option R)
    (hs : ∀ ag (i : Nat) b t, l.drop i = b :: t → F ag (i : Int) = (g b).getD (ag ((i + 1 : Nat) : Int))) (he : ∀ ag, F ag (l.length : Int) = J) :
    ∀ (n i : Nat), i ≤ l.length → l.length - i < n → loopG bot F n (i : Int) = ((l.drop i).findSome? g).getD J := by
  intro n
  induction n with
  | zero => intro i h1 h2; omega
  | succ n ih =>
    intro i hi hn
    rw [loopG_succ]
    cases hd : l.drop i with
    | nil =>
      have : l.length ≤ i := List.drop_eq_nil_iff.1 hd
      obtain rfl : i = l.length := by omega
      rw [he]; rfl
    | cons b t =>
      have hlt : i < l.length := by
        rcases Nat.lt_or_ge i l.length with h | h
        · exact h
        · rw [List.drop_eq_nil_of_le h] at hd; cases hd
      rw [hs _ i b t hd, List.findSome?_cons]
      cases hg : g b with
      | some x => rfl
      | none =>
        show loopG bot F n _ = _
        rw [ih (i + 1) (by omega) (by omega), drop_next hd]
theorem big_l {l : List UInt8} (h : l.length ≤ 1073741824) : l.length - 0 < fuel := by unfold fuel; omega
theorem refempty_v (l : List UInt8) (h : l.length ≤ 1073741824) : ref17_Empty_v (mkB l) = some (blank l) := by
  unfold ref17_Empty_v
  refine joinI ?_
  refine (byte_loop l (fun b => if isB b then none else some (some false)) (some true) (fun ag i b t hd => ?_) (fun ag => ?_) fuel 0 (Nat.zero_le _) (big_l h)).trans ?_
  · unfold ref17_Empty_s1
    obtain ⟨hb, hlt⟩ := getB_at (s := mkB l) hd
    refine condTI (decide_eq_true (by omega)) (joinI (thenI hb ?_))
    rw [mkB_size] at hlt
    have go : (grd (I64 ((i : Int) + 1)) <| ag ((i : Int) + 1)) = ag ((i + 1 : Nat) : Int) := grdI ⟨by omega, by omega⟩ (by rw [show (i : Int) + 1 = ((i + 1 : Nat) : Int) by omega])
    unfold isB
    by_cases h32 : b = 32
    · refine condFI (by unfold bne; rw [n32, decide_eq_true h32]; rfl) ?_
      rw [h32]; exact go
    · refine condTI (by unfold bne; rw [n32, decide_eq_false h32]; rfl) ?_
      rw [beq_eq_false_iff_ne.2 h32, Bool.false_or]
      by_cases h9 : b = 9
      · refine condFI (by unfold bne; rw [n9, decide_eq_true h9]; rfl) ?_
        rw [h9]; exact go
      · refine condTI (by unfold bne; rw [n9, decide_eq_false h9]; rfl) ?_
        rw [beq_eq_false_iff_ne.2 h9]; rfl
  · unfold ref17_Empty_s1
    exact condFI (decide_eq_false (by rw [mkB_size]; omega)) rfl
  · rw [List.drop_zero]
    unfold blank
    clear h
    induction l with
    | nil => rfl
    | cons b l ih =>
      rw [List.findSome?_cons, List.all_cons]
      cases hb : isB b with
      | true => simpa using ih
      | false => rfl

/-! ### Title lines -/
def titl : List UInt8 → Bool
  | [] => false
  | [b] => b == 35
  | b :: c :: _ => b == 35 && c == 32
theorem pre_v (l p : List UInt8) : internal_stringslite_HasPrefix_v (mkB l) (mkB p) = some (decide (p.length ≤ l.length) && decide (l.take p.length = p)) := by
  unfold internal_stringslite_HasPrefix_v
  rw [mkB_size, mkB_size]
  by_cases h : p.length ≤ l.length
  · refine condTI (decide_eq_true (by omega)) (grdI ⟨by omega, by omega, by omega⟩ (congrArg some ?_))
    have := cutB_mk l 0 p.length
    rw [show ((0 : Nat) : Int) = 0 from rfl] at this
    rw [this, List.drop_zero, Nat.sub_zero, decide_eq_true h, Bool.true_and]
    by_cases e : l.take p.length = p
    · rw [decide_eq_true e, decide_eq_true (by rw [e])]
    · rw [decide_eq_false e, decide_eq_false (fun x => e (mkB_inj x))]
  · refine condFI (decide_eq_false (by omega)) ?_
    rw [decide_eq_false h]; rfl
theorem titled_v (l : List UInt8) : poem_titled_v (mkB l) = some (titl l) := by
  unfold poem_titled_v strings_HasPrefix_v
  rw [show (⟨#[35]⟩ : ByteArray) = mkB [35] from rfl, show (⟨#[35, 32]⟩ : ByteArray) = mkB [35, 32] from rfl]
  by_cases h : l = [35]
  · subst h; exact condTI (decide_eq_true rfl) rfl
  · refine condFI (decide_eq_false (fun e => h (mkB_inj e))) (thenI (thenI (pre_v _ _) rfl) (congrArg some ?_))
    match l with
    | [] => rfl
    | [b] =>
      have hb : b ≠ 35 := fun e => h (by rw [e])
      show _ = (b == 35)
      rw [beq_eq_false_iff_ne.2 hb]; rfl
    | b :: c :: t =>
      show _ = (b == 35 && c == 32)
      rw [decide_eq_true (by simp), Bool.true_and]
      show decide ([b, c] = [35, 32]) = _
      by_cases hb : b = 35 <;> by_cases hc : c = 32 <;> simp [hb, hc]
theorem reftitled_v (l : List UInt8) : ref17_Titled_v (mkB l) = some (titl l) := by
  unfold ref17_Titled_v
  rw [show (⟨#[35]⟩ : ByteArray) = mkB [35] from rfl]
  by_cases h : l = [35]
  · subst h; exact condTI (decide_eq_true rfl) rfl
  · refine condFI (decide_eq_false (fun e => h (mkB_inj e))) ?_
    match l with
    | [] => exact condFI (decide_eq_false (by rw [mkB_size]; simp)) rfl
    | [b] =>
      have hb : b ≠ 35 := fun e => h (by rw [e])
      refine condFI (decide_eq_false (by rw [mkB_size]; simp)) ?_
      show _ = some (b == 35)
      rw [beq_eq_false_iff_ne.2 hb]
    | b :: c :: t =>
      have h0 := (getB_at (s := mkB (b :: c :: t)) (i := 0) (b := b) (t := c :: t) rfl).1
      have h1 := (getB_at (s := mkB (b :: c :: t)) (i := 1) (b := c) (t := t) rfl).1
      refine condTI (decide_eq_true (by rw [mkB_size]; simp; omega)) (thenI h0 ?_)
      show _ = some (b == 35 && c == 32)
      by_cases hb : b = 35
      · refine condTI (by rw [n35]; exact decide_eq_true hb) (thenI h1 (congrArg some ?_))
        rw [n32, beq_iff_eq.2 hb, Bool.true_and]
        by_cases hc : c = 32
        · rw [decide_eq_true hc, hc]; rfl
        · rw [decide_eq_false hc, beq_eq_false_iff_ne.2 hc]
      · refine condFI (by rw [n35]; exact decide_eq_false hb) ?_
        rw [beq_eq_false_iff_ne.2 hb]; rfl
theorem trimp_v (l : List UInt8) (h : titl l = true) : strings_TrimPrefix_v (mkB (l.drop 1)) (mkB [32]) = some (mkB (l.drop 2)) := by
  unfold strings_TrimPrefix_v internal_stringslite_TrimPrefix_v
  refine thenI (thenI (pre_v _ _) (?_ : _ = some (mkB (l.drop 2)))) rfl
  match l with
  | [] => cases h
  | [b] => exact condFI (by simp) rfl
  | b :: c :: t =>
    have hc : c = 32 := by
      unfold titl at h; rw [Bool.and_eq_true] at h; exact beq_iff_eq.1 h.2
    subst hc
    refine condTI (by simp) (grdI ⟨by omega, by rw [mkB_size, mkB_size, List.drop_one, List.tail_cons, List.length_cons]; simp only [List.length_cons, List.length_nil]; omega, by omega⟩ (congrArg some ?_))
    exact cutB_to (32 :: t) 1

/-! ### Indents -/
def ind (l : List UInt8) : Nat := (l.takeWhile (· == 32)).length
theorem ind_cons (b : UInt8) (l : List UInt8) : ind (b :: l) = if b = 32 then ind l + 1 else 0 := by
  unfold ind
  rw [List.takeWhile_cons]
  by_cases h : b = 32
  · subst h; simp
  · rw [if_neg h, beq_eq_false_iff_ne.2 h]; rfl
theorem ind_le (l : List UInt8) : ind l ≤ l.length := by
  induction l with
  | nil => exact Nat.le_refl _
  | cons b l ih => rw [ind_cons, List.length_cons]; split <;> omega
theorem refindent_v (l : List UInt8) (h : l.length ≤ 1073741824) : ref17_Indent_v (mkB l) = some (ind l : Int) := by
  unfold ref17_Indent_v
  refine joinI ?_
  have key : ∀ (n i : Nat), i ≤ l.length → l.length - i < n → loopG (fun _ => none) (ref17_Indent_s1 (mkB l) (fun (n1 : Int) => some n1)) n (i : Int) = some ((i + ind (l.drop i) : Nat) : Int) := by
    intro n
    induction n with
    | zero => intro i h1 h2; omega
    | succ n ih =>
      intro i hi hn
      rw [loopG_succ]
      obtain ⟨ag, hag⟩ : ∃ ag, ag = loopG (fun _ => none) (ref17_Indent_s1 (mkB l) (fun (n1 : Int) => some n1)) n := ⟨_, rfl⟩
      rw [← hag] at ih ⊢
      unfold ref17_Indent_s1
      cases hd : l.drop i with
      | nil =>
        have : l.length ≤ i := List.drop_eq_nil_iff.1 hd
        exact condFI (decide_eq_false (by rw [mkB_size]; omega)) rfl
      | cons b t =>
        obtain ⟨hb, hlt⟩ := getB_at (s := mkB l) hd
        rw [mkB_size] at hlt
        refine condTI (decide_eq_true (by rw [mkB_size]; omega)) (thenI hb ?_)
        rw [ind_cons]
        by_cases h32 : b = 32
        · refine condTI (by rw [n32]; exact decide_eq_true h32) (grdI ⟨by omega, by omega⟩ ?_)
          have := ih (i + 1) (by omega) (by omega)
          rw [drop_next hd] at this
          rw [if_pos h32, show (i : Int) + 1 = ((i + 1 : Nat) : Int) by omega, this]
          congr 1; omega
        · refine condFI (by rw [n32]; exact decide_eq_false h32) ?_
          rw [if_neg h32]; rfl
  have := key fuel 0 (Nat.zero_le _) (by unfold fuel; omega)
  rw [List.drop_zero, Nat.zero_add] at this
  exact this
theorem indent_v (l : List UInt8) (h : l.length ≤ 1073741824) : poem_indent_v (mkB l) = some (ind l : Int) := by
  unfold poem_indent_v
  refine joinI ?_
  have key : ∀ (n i : Nat), i ≤ l.length → l.length - i < n → (pcs l).drop i = pcsFrom i (l.drop i) → loopG (fun _ _ => none) (poem_indent_s1 (mkB l) (fun (n1 : Int) => some n1)) n (i : Int) i = some ((i + ind (l.drop i) : Nat) : Int) := by
    intro n
    induction n with
    | zero => intro i h1 h2; omega
    | succ n ih =>
      intro i hi hn hp
      rw [loopG_succ]
      obtain ⟨ag, hag⟩ : ∃ ag, ag = loopG (fun _ _ => none) (poem_indent_s1 (mkB l) (fun (n1 : Int) => some n1)) n := ⟨_, rfl⟩
      rw [← hag] at ih ⊢
      unfold poem_indent_s1
      rw [mkB_data]
      cases hd : l.drop i with
      | nil =>
        rw [hd, pcsFrom_nil] at hp
        have := List.drop_eq_nil_iff.1 hp
        exact condFI (decide_eq_false (by omega)) rfl
      | cons b t =>
        obtain ⟨hb, hlt⟩ := getB_at (s := mkB l) hd
        rw [mkB_size] at hlt
        rw [hd, pcsFrom_cons i (b :: t) (by simp)] at hp
        have hlm : i < (pcs l).length := by
          rcases Nat.lt_or_ge i (pcs l).length with h | h
          · exact h
          · rw [List.drop_eq_nil_of_le h] at hp; cases hp
        have hq : (pcs l)[i]? = some ⟨i, (decodeL (b :: t)).2, (decodeL (b :: t)).1⟩ := by
          have hp2 := hp
          rw [List.drop_eq_getElem_cons hlm] at hp2
          rw [List.getElem?_eq_getElem hlm, (List.cons.inj hp2).1]
        refine condTI (decide_eq_true hlm) (thenI hq ?_)
        rw [ind_cons]
        by_cases h32 : b = 32
        · subst h32
          have hdec := decodeL_ascii 32 t (by decide)
          rw [hdec] at hp ⊢
          refine condFI rfl (grdI ⟨by omega, by omega⟩ ?_)
          have := ih (i + 1) (by omega) (by omega) (by
            rw [← List.drop_drop, hp, drop_next hd]; rfl)
          rw [drop_next hd] at this
          rw [if_pos rfl, show (i : Int) + 1 = ((i + 1 : Nat) : Int) by omega]
          refine this.trans ?_
          congr 2; omega
        · refine condTI ?_ (by rw [if_neg h32]; rfl)
          show (((decodeL (b :: t)).1 : Int) != 32) = true
          refine bne_iff_ne.2 (fun e => ?_)
          by_cases hbig : 128 ≤ b.toNat
          · have := (big_piece (t := t) hbig).1; omega
          · rw [decodeL_ascii b t (by omega)] at e
            exact h32 (UInt8.toNat.inj (by show b.toNat = 32; have : ((b.toNat : Nat) : Int) = 32 := e; omega))
  have := key fuel 0 (Nat.zero_le _) (by unfold fuel; omega) (by rw [List.drop_zero, List.drop_zero]; rfl)
  rw [List.drop_zero, Nat.zero_add] at this
  exact this
end Go.Proofs.YtgfkogafkhbgnaaDoor
