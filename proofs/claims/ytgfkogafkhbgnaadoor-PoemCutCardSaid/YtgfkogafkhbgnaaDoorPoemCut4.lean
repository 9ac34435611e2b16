/-
  Texts laid together: LqR, Rq, Lr, LqZ, PqC, PqD, PqE, LqE, LqB, Cb, LqG, PcW, Bytes, Bld, Gr, Bn. Nothing is assumed.
-/
import Derived.Test.YtgfkogafkhbgnaaDoorPoemCut3
import Derived.Test.YtgfkogafkhbgnaaDoorPoemCut2
import Derived.Test.YtgfkogafkhbgnaaDoorProg
import Derived.Test.YtgfkogafkhbgnaaDoorPoemCut1
import Derived.Lib.AppendStr
import Derived.Laws.IdiomStrings
import Derived.Lib.BufferRead
import Derived.Lib.Builder
import Derived.Outline
import Derived.Lib.UnsafeStr
import Derived.Lib.MakeNoZero
namespace Go.Proofs.YtgfkogafkhbgnaaDoor
open Go.RowKit Go.Lib
set_option linter.unusedVariables false
set_option linter.unusedSimpArgs false
def poem_empty_v (s1 : ByteArray) : Option Bool := grd (s1.size ≤ 9223372036854775807) <| some (decide (trimST s1 = (⟨#[]⟩ : ByteArray)))
set_option maxRecDepth 100000 in
set_option maxHeartbeats 4000000 in
theorem poem_empty_fn {s1 : ByteArray} {r : Bool} (h : poem_empty_v s1 = some r) : FnP Tryd.prog 48 [.string s1] (.bool r) := by
 unfold poem_empty_v at h
 refine FnP.intro Tryd.func48 rfl Tryd.ntmps48 (by simp) ?_
 intro w0 K
 refine TC.seq (TC.region (TO.assign rfl dc rfl (TO.nil (TX.next (TC.seq (TC.region (TO.move rfl dc rfl ?_)))))))
 obtain ⟨hg1, h⟩ := grdE h
 refine TO.callP (v := .string (trimST s1)) (vs := [.string s1, .string (⟨#[32, 9]⟩ : ByteArray)]) rfl dc rfl rfl rfl en_75 (trim_p s1 hg1) (TO.bin rfl dc rfl rfl bin_seql (TO.assign rfl dc rfl (TO.nil (TX.next (TC.ret ?_)))))
 cases h
 exact TX.fin (rs := [.tmp 2]) () (.inl rfl) Tryd.results48 (.cons (.tmp rfl) .nil) rfl Splits.nil
def poem_titled_v (s1 : ByteArray) : Option Bool := bcond (decide (s1 = (⟨#[35]⟩ : ByteArray))) ( some true
) ( andThen (strings_HasPrefix_v s1 (⟨#[35, 32]⟩ : ByteArray)) fun (r1 : Bool) => some r1
)
set_option maxRecDepth 100000 in
set_option maxHeartbeats 4000000 in
theorem poem_titled_fn {s1 : ByteArray} {r : Bool} (h : poem_titled_v s1 = some r) : FnP Tryd.prog 49 [.string s1] (.bool r) := by
 unfold poem_titled_v at h
 refine FnP.intro Tryd.func49 rfl Tryd.ntmps49 (by simp) ?_
 intro w0 K
 refine TC.seq (TC.region (TO.assign rfl dc rfl (TO.nil (TX.next (TC.seq (TC.region (TO.move rfl dc rfl (TO.bin rfl dc rfl rfl bin_seql (TO.move rfl dc rfl ?_)))))))))
 refine TO.split (s := 5) rfl (fun hb1 => ?_) (fun hb1 => ?_)
 ·
  have h := condT hb1 h
  refine TO.skip rfl dc (TO.skip rfl dc (TO.pick (b := true) rfl dc rfl rfl (TO.assign rfl dc rfl (TO.nil (TX.next (TC.ret ?_))))))
  cases h
  exact TX.fin (rs := [.tmp 2]) () (.inl rfl) Tryd.results49 (.cons (.tmp rfl) .nil) rfl Splits.nil
 ·
  have h := condF hb1 h
  refine TO.move rfl dc rfl ?_
  obtain ⟨r1, hq1, h⟩ := andE h
  refine TO.callP (v := .bool r1) (vs := [.string s1, .string (⟨#[35, 32]⟩ : ByteArray)]) rfl dc rfl rfl rfl en_16 (strings_HasPrefix_fn hq1) (TO.pick (b := false) rfl dc rfl rfl (TO.assign rfl dc rfl (TO.nil (TX.next (TC.ret ?_)))))
  cases h
  exact TX.fin (rs := [.tmp 2]) () (.inl rfl) Tryd.results49 (.cons (.tmp rfl) .nil) rfl Splits.nil
def poem_indent_s1 (s1 : ByteArray) (j1 : Int → Option Int) (ag1 : Int → Nat → Option Int) (n4 : Int) (m3 : Nat) : Option Int := bcond (decide (m3 < (pcs s1.data.toList).length)) ( andThen ((pcs s1.data.toList)[m3]?) fun (p1 : Pc) => bcond (((p1.r : Int) : Int) != 32) ( j1 n4
) ( grd (I64 (n4 + 1)) <| ag1 (n4 + 1) (m3 + 1)
)
) ( j1 n4
)
def poem_indent_v (s1 : ByteArray) : Option Int := joinK (fun (j1 : Int → Option Int) => loopG (fun _ _ => none) (poem_indent_s1 s1 j1) fuel 0 0
) (fun (n1 : Int) => some n1
)
set_option maxRecDepth 100000 in
set_option maxHeartbeats 4000000 in
theorem poem_indent_fn {s1 : ByteArray} {r : Int} (h : poem_indent_v s1 = some r) : FnP Tryd.prog 51 [.string s1] (.int .i64 r) := by
 unfold poem_indent_v at h
 refine FnP.intro Tryd.func51 rfl Tryd.ntmps51 (by simp) ?_
 intro w0 K
 obtain ⟨j1, hj1, h⟩ := joinE h
 refine TC.cutN (β := Int) 2 rfl (fun b => j1 b = some r) (fun b => []) (fun b => [(3, .int .i64 b)]) (fun b => []) (fun cut => ?_) ?_
 ·
  refine TC.seq (TC.region (TO.assign rfl dc rfl (TO.nil (TX.next (TC.seq (TC.region (TO.assign rfl dc rfl (TO.nil (TX.next (cut (TC.seq (TC.region (TO.move rfl dc rfl ?_)))))))))))))
  refine TO.rangeStr Tryd.underlying9 rfl dc rfl (fun b1 => ?_)
  refine TO.nil (TX.next (TC.block ?_))
  refine TC.loopD (β := Nat × Int × Nat) (fun b => loopG (fun _ _ => none) (poem_indent_s1 s1 j1) b.1 b.2.1 b.2.2 = some r) (fun b => []) (fun b => [(3, .int .i64 b.2.1), (7, .pointer (some ⟨b1, 0, none⟩))]) (fun b => [obj b1 (.stringIter s1 (posAt s1 b.2.2))]) (fun b => b.1) (fuel, 0, 0) h rfl (Sbs.cons rfl (Sbs.cons rfl (Sbs.nil))) (Splits.of [0] kr rfl) ?_
  rintro ⟨n5, n4, m3⟩ h
  cases n5 with
  | zero => exact noneE h
  | succ n5 =>
   obtain ⟨ag1, hag1⟩ : ∃ ag, ag = loopG (fun _ _ => none) (poem_indent_s1 s1 j1) n5 := ⟨_, rfl⟩
   have h : poem_indent_s1 s1 j1 ag1 n4 m3 = some r := by rw [hag1]; exact h
   unfold poem_indent_s1 at h
   show TC _ _ _ _ _ ([]) _ _ [(3, .int .i64 n4), (7, .pointer (some ⟨b1, 0, none⟩))] [obj b1 (.stringIter s1 (posAt s1 m3))]
   refine TC.seq (TC.region ?_)
   refine TO.bySplit (b := decide (m3 < (pcs s1.data.toList).length)) (fun hb1 => ?_) (fun hb1 => ?_)
   ·
    have h := condT hb1 h
    obtain ⟨p1, hq1, h⟩ := andE h
    refine TO.nextStr (k := 0) (m := m3) (p := p1) rfl dc rfl rfl hq1 (TO.extract rfl dc rfl rfl (TO.nil (TX.next (TC.seq (TC.condT rfl (TC.skip (TX.next (TC.block (TC.seq (TC.region (TO.extract rfl dc rfl rfl (TO.assign rfl dc rfl (TO.nil ?_)))))))))))))
    refine TX.next (TC.seq (TC.seq (TC.region (TO.move rfl dc rfl (TO.bin rfl dc rfl rfl bin_neq (TO.nil (TX.next ?_)))))))
    refine TC.condB rfl (fun hb2 => ?_) (fun hb2 => ?_)
    ·
     have h := condT hb2 h
     refine TC.exit (TX.thenExit (TX.blockOn dc (TX.thenExit (TX.blockHere ?_))))
     exact TX.meetD n4 h rfl (Sbs.cons rfl (Sbs.nil)) Splits.nil
    ·
     have h := condF hb2 h
     refine TC.skip (TX.next (TC.region (TO.move rfl dc rfl ?_)))
     obtain ⟨hg1, h⟩ := grdE h
     refine TO.bin rfl dc rfl rfl (bin_add (r := n4 + 1) (IntWalk.i64_in _ hg1)) (TO.assign rfl dc rfl (TO.nil (TX.blockNormal ?_)))
     subst hag1
     exact TX.againD (n5, n4 + 1, m3 + 1) h (Nat.lt_succ_self _) rfl (Sbs.cons rfl (Sbs.cons rfl (Sbs.nil))) (Splits.of [0] kr rfl)
   ·
    have h := condF hb1 h
    refine TO.nextEnd (k := 0) (m := m3) rfl dc rfl rfl (Nat.le_of_not_lt (of_decide_eq_false hb1)) (TO.extract rfl dc rfl rfl (TO.nil (TX.next (TC.seq (TC.condF rfl (TC.exit (TX.thenExit (TX.thenExit (TX.blockHere ?_)))))))))
    exact TX.meetD n4 h rfl (Sbs.cons rfl (Sbs.nil)) Splits.nil
 ·
  rintro n1 h
  rw [hj1] at h
  show TC _ _ _ _ _ ([]) _ _ [(3, .int .i64 n1)] []
  refine TC.seq (TC.region (TO.move rfl dc rfl (TO.assign rfl dc rfl (TO.nil (TX.next (TC.ret ?_))))))
  cases h
  exact TX.fin (rs := [.tmp 2]) () (.inl rfl) Tryd.results51 (.cons (.tmp rfl) .nil) rfl Splits.nil
def poem_Read_s1 (text1 : ByteArray) (j1 : ByteArray → (List Gapi_Verse) → (List Gapi_Span) → Option ((Option Gpoem_Poem) × Gapi_Spot)) (p4 : Gplace_Map) (r2 : Int) (ag1 : ByteArray → (List Gapi_Verse) → (List Gapi_Span) → Bool → Bool → Int → Option ((Option Gpoem_Poem) × Gapi_Spot)) (p14 : ByteArray) (p15 : List Gapi_Verse) (p16 : List Gapi_Span) (first3 : Bool) (row3 : Bool) (x3 : Int) : Option ((Option Gpoem_Poem) × Gapi_Spot) := bcond (decide ((x3 : Int) < r2)) ( joinK (fun (j2 : ByteArray → (List Gapi_Verse) → (List Gapi_Span) → Bool → Bool → Option ((Option Gpoem_Poem) × Gapi_Spot)) => joinK (fun (j3 : Int → Int → ByteArray → Option ((Option Gpoem_Poem) × Gapi_Spot)) => andThen (place_Map_Span_v p4 x3) fun (r3 : (Gapi_Span × Int × Int)) => grd (0 ≤ (r3.1.From : Int) ∧ (r3.1.From : Int) ≤ r3.1.To ∧ (r3.1.To : Int) ≤ (text1.size : Int)) <| andThen (poem_empty_v (cutB text1 r3.1.From r3.1.To)) fun (r4 : Bool) => bcond (r4) ( j2 p14 p15 p16 first3 false
) ( bcond (decide ((1024 : Int) < ((cutB text1 r3.1.From r3.1.To).size : Int))) ( grd (I64 (r3.1.From + 1024)) <| some (none, (⟨3, r3.1.From + 1024⟩ : Gapi_Spot))
) ( bcond (first3) ( andThen (poem_titled_v (cutB text1 r3.1.From r3.1.To)) fun (r5 : Bool) => bcond (r5) ( grd (0 ≤ (1 : Int) ∧ (1 : Int) ≤ ((cutB text1 r3.1.From r3.1.To).size : Int) ∧ (((cutB text1 r3.1.From r3.1.To).size : Int) : Int) ≤ ((cutB text1 r3.1.From r3.1.To).size : Int)) <| andThen (strings_TrimPrefix_v (cutB (cutB text1 r3.1.From r3.1.To) 1 ((cutB text1 r3.1.From r3.1.To).size : Int)) (⟨#[32]⟩ : ByteArray)) fun (r6 : ByteArray) => j2 r6 p15 p16 false row3
) ( bcond (((p15.length : Int) : Int) == 512) ( some (none, (⟨3, r3.1.From⟩ : Gapi_Spot))
) ( j3 r3.1.From r3.1.To (cutB text1 r3.1.From r3.1.To)
)
)
) ( bcond (((p15.length : Int) : Int) == 512) ( some (none, (⟨3, r3.1.From⟩ : Gapi_Spot))
) ( j3 r3.1.From r3.1.To (cutB text1 r3.1.From r3.1.To)
)
)
)
)
) (fun (span1 : Int) (span2 : Int) (line1 : ByteArray) => joinK (fun (j4 : (List Gapi_Span) → Option ((Option Gpoem_Poem) × Gapi_Spot)) => bcond (!row3) ( grd (p16.length + 1 ≤ 2147483648) <| j4 (p16 ++ [(⟨(p15.length : Int), (p15.length : Int)⟩ : Gapi_Span)])
) ( j4 p16
)
) (fun (p20 : List Gapi_Span) => grd (I64 ((p20.length : Int) - 1)) <| andThen (getO p20 ((p20.length : Int) - 1)) fun (q1 : Gapi_Span) => andThen (poem_indent_v line1) fun (r7 : Int) => grd (0 ≤ (r7 : Int) ∧ (r7 : Int) ≤ (line1.size : Int) ∧ ((line1.size : Int) : Int) ≤ (line1.size : Int)) <| grd (I64 ((p20.length : Int) - 1)) <| grd (I64 ((p15.length : Int) - q1.From)) <| grd (I64 (span1 + r7)) <| grd (p15.length + 1 ≤ 2147483648) <| grd (I64 ((p15.length : Int) + 1)) <| j2 p14 (p15 ++ [(⟨cutB line1 r7 (line1.size : Int), r7, (p20.length : Int) - 1, (p15.length : Int) - q1.From, span1 + r7, span2⟩ : Gapi_Verse)]) (p20.set ((p20.length : Int) - 1 : Int).toNat (⟨q1.From, (p15.length : Int) + 1⟩ : Gapi_Span)) false true
)
)
) (fun (p17 : ByteArray) (p18 : List Gapi_Verse) (p19 : List Gapi_Span) (first4 : Bool) (row4 : Bool) => grd (I64 (x3 + 1)) <| ag1 p17 p18 p19 first4 row4 (x3 + 1)
)
) ( j1 p14 p15 p16
)
def poem_Read_v (text1 : ByteArray) : Option ((Option Gpoem_Poem) × Gapi_Spot) := andThen (place_New_v text1) fun (r1 : ((Option Gplace_Map) × Int)) => bcond ((r1.2 : Int) != 0) ( some (none, (⟨r1.2, 65536⟩ : Gapi_Spot))
) ( joinK (fun (j1 : ByteArray → (List Gapi_Verse) → (List Gapi_Span) → Option ((Option Gpoem_Poem) × Gapi_Spot)) => andThen (r1.1) fun (p4 : Gplace_Map) => andThen (place_Map_Lines_v p4) fun (r2 : Int) => loopG (fun _ _ _ _ _ _ => none) (poem_Read_s1 text1 j1 p4 r2) fuel ByteArray.empty ([] : List Gapi_Verse) ([] : List Gapi_Span) true false 0
) (fun (p1 : ByteArray) (p2 : List Gapi_Verse) (p3 : List Gapi_Span) => some ((some (⟨p1, p2, p3, text1⟩ : Gpoem_Poem)), (⟨0, 0⟩ : Gapi_Spot))
)
)
set_option maxRecDepth 100000 in
set_option maxHeartbeats 4000000 in
theorem poem_Read_fn {text1 : ByteArray} {r : ((Option Gpoem_Poem) × Gapi_Spot)} (h : poem_Read_v text1 = some r) : Fn Tryd.prog 13 [.string text1] [] (fun v0 : Value => .tuple #[v0, .agg #[.int .i64 r.2.Err, .int .i64 r.2.At]]) (fun v0 => [pobj encN_Gpoem_Poem nest_Gpoem_Poem 93 v0 r.1]) := by
 unfold poem_Read_v at h
 refine Fn.intro Tryd.func13 rfl Tryd.ntmps13 (by simp) ?_
 intro w0 K
 refine TC.seq (TC.region (TO.assign rfl dc rfl ?_))
 refine TO.alloc zr_26 rfl dc (fun b1 => ?_)
 refine TO.nil (TX.next ?_)
 refine TC.scope (β := Unit) (l := 0) (fun _ => False) (fun _ => []) (fun _ => []) rfl ?_ ?_
 ·
  refine TC.seq (TC.region (TO.move rfl dc rfl ?_))
  obtain ⟨r1, hq1, h⟩ := andE h
  refine TO.call (vs := [.string text1]) rfl dc rfl rfl rfl en_45 (place_New_fn hq1) Splits.nil ?_
  rintro v1
  show TO _ _ _ _ _ _ _ _ _ _ [cells b1 [.int .i64 0, .int .i64 0] 26, pobj encN_Gplace_Map nest_Gplace_Map 128 v1 r1.1]
  refine TO.weakenL (L' := [cells b1 [.int .i64 0, .int .i64 0] 26, pobj encN_Gplace_Map nest_Gplace_Map 128 v1 r1.1]) (Splits.of [0, 1] kr rfl) (TO.move rfl dc rfl (TO.extract rfl dc rfl rfl (TO.extract rfl dc rfl rfl (TO.assign rfl dc rfl (TO.assign rfl dc rfl (TO.nil (TX.next (TC.seq (TC.seq (TC.region (TO.move rfl dc rfl (TO.bin rfl dc rfl rfl bin_neq (TO.nil ?_)))))))))))))
  refine TX.next ?_
  refine TC.condB rfl (fun hb1 => ?_) (fun hb1 => ?_)
  ·
   have h := condT hb1 h
   refine TC.seq (TC.region (TO.move rfl dc rfl ?_))
   refine TO.build (v := .agg #[.int .i64 r1.2, .int .i64 65536]) (ps := [(0, .tmp 24), (1, .const (.int .i64 65536))]) rfl dc rfl (fun _ => by kernel_rfl) ?_
   refine TO.assign rfl dc rfl (TO.stores (k := 0) (vs := [.int .i64 r1.2, .int .i64 65536]) (l' := [.int .i64 r1.2, .int .i64 65536]) sz_26 rfl rfl rfl rfl rfl (show _ ≤ _ by simp) rfl rfl (TO.nil (TX.next (TC.ret (TX.thenRet (TX.jumpOn (by simp) (TX.newObj encN_Gpoem_Poem nest_Gpoem_Poem 93 ?_)))))))
   show TX _ _ _ _ _ _ _ [cells b1 [.int .i64 r1.2, .int .i64 65536] 26, pobj encN_Gplace_Map nest_Gplace_Map 128 v1 r1.1, pobj encN_Gpoem_Poem nest_Gpoem_Poem 93 (.pointer none) none]
   cases h
   exact TX.fin (rs := [.tmp 2, .cell 3 26]) (.pointer none) (.inl rfl) Tryd.results13 (.cons (.tmp rfl) (.cons (.cells rw_26 (k := 0) rfl rfl rfl) .nil)) rfl (Splits.of [2] kr rfl)
  ·
   have h := condF hb1 h
   refine TC.skip (TX.next ?_)
   obtain ⟨j1, hj1, h⟩ := joinE h
   refine TC.cutN (β := ByteArray × (List Gapi_Verse) × (List Gapi_Span) × Nat × Hd × Hd) 3 rfl (fun b => j1 b.1 b.2.1 b.2.2.1 = some r) (fun b => []) (fun b => [(3, .pointer (some ⟨b1, 0, none⟩)), (6, .pointer (some ⟨b.2.2.2.1, 0, none⟩))]) (fun b => [cells b1 [.int .i64 0, .int .i64 0] 26, cells b.2.2.2.1 [.string b.1, b.2.2.2.2.1.v, b.2.2.2.2.2.v, .string text1] 93, vec enc_Gapi_Verse 36 6 b.2.2.2.2.1.v b.2.1, vec enc_Gapi_Span 34 2 b.2.2.2.2.2.v b.2.2.1]) (fun cut => ?_) ?_
   ·
    refine TC.seq (TC.region (TO.move rfl dc rfl ?_))
    refine TO.build (v := .agg #[.string ByteArray.empty, .slice none 0 0, .slice none 0 0, .string text1]) (ps := [(1, .tmp 26)]) rfl dc rfl (fun _ => by kernel_rfl) ?_
    refine TO.box rfl dc rfl (fun b3 => ?_)
    refine TO.assign rfl dc rfl (TO.nil (TX.next (TC.seq (TC.region (TO.assign rfl dc rfl (TO.assign rfl dc rfl (TO.nil (TX.next (TC.seq (TC.label (TX.next (cut (TC.seq ?_)))))))))))))
    refine TC.region (TO.move rfl dc rfl ?_)
    obtain ⟨p4, hq2, h⟩ := andE h
    refine TO.entl (As := [pobj encN_Gplace_Map nest_Gplace_Map 128 v1 r1.1]) (Splits.of [1] kr rfl) (Entl.objOpen hq2) ?_
    rintro ⟨b4, hd3, hd4⟩ hv1
    subst hv1
    show TO _ _ _ _ _ _ _ _ _ _ [cells b1 [.int .i64 0, .int .i64 0] 26, emp, cells b3 [.string ByteArray.empty, .slice none 0 0, .slice none 0 0, .string text1] 93, cells b4 [.string p4.text, hd3.v, hd4.v] 128, vec enc_Gapi_Place 130 5 hd3.v p4.places, vec enc_Gplace_ended 132 4 hd4.v p4.lines]
    obtain ⟨r2, hq3, h⟩ := andE h
    refine TO.callPR (v := .int .i64 r2) (vs := [.pointer (some ⟨b4, 0, none⟩)]) (Rd.nil : Rd _ _ []) rfl dc rfl rfl rfl en_46 (place_Map_Lines_fn (bm1 := b4) (m1 := p4) (m1_h0 := hd3) (m1_h1 := hd4) hq3) (.own (Splits.of [3] (by kernel_rfl) rfl) (fun _ _ h => sepL.one1.1 h) (.own (Splits.of [4] (by kernel_rfl) rfl) (fun _ _ h => sepL.one1.1 h) (.own (Splits.of [5] (by kernel_rfl) rfl) (fun _ _ h => sepL.one1.1 h) .nil))) ?_
    refine TO.move rfl dc rfl (TO.nil (TX.next (TC.block (TC.newVec (enc := enc_Gapi_Verse) (e := 36) (size := 6) ?_))))
    show TC _ _ _ _ _ _ _ _ _ [cells b1 [.int .i64 0, .int .i64 0] 26, emp, cells b3 [.string ByteArray.empty, .slice none 0 0, .slice none 0 0, .string text1] 93, cells b4 [.string p4.text, hd3.v, hd4.v] 128, vec enc_Gapi_Place 130 5 hd3.v p4.places, vec enc_Gplace_ended 132 4 hd4.v p4.lines, vec enc_Gapi_Verse 36 6 (.slice none 0 0) ([] : List Gapi_Verse)]
    refine TC.newVec (enc := enc_Gapi_Span) (e := 34) (size := 2) ?_
    show TC _ _ _ _ _ _ _ _ _ [cells b1 [.int .i64 0, .int .i64 0] 26, emp, cells b3 [.string ByteArray.empty, (.slice none 0 0), .slice none 0 0, .string text1] 93, cells b4 [.string p4.text, hd3.v, hd4.v] 128, vec enc_Gapi_Place 130 5 hd3.v p4.places, vec enc_Gplace_ended 132 4 hd4.v p4.lines, vec enc_Gapi_Verse 36 6 (.slice none 0 0) ([] : List Gapi_Verse), vec enc_Gapi_Span 34 2 (.slice none 0 0) ([] : List Gapi_Span)]
    refine TC.loopD (β := Nat × ByteArray × (List Gapi_Verse) × (List Gapi_Span) × Bool × Bool × Int × Hd × Hd) (fun b => loopG (fun _ _ _ _ _ _ => none) (poem_Read_s1 text1 j1 p4 r2) b.1 b.2.1 b.2.2.1 b.2.2.2.1 b.2.2.2.2.1 b.2.2.2.2.2.1 b.2.2.2.2.2.2.1 = some r) (fun b => []) (fun b => [(0, .string text1), (3, .pointer (some ⟨b1, 0, none⟩)), (4, .pointer (some ⟨b4, 0, none⟩)), (6, .pointer (some ⟨b3, 0, none⟩)), (7, .bool b.2.2.2.2.1), (8, .bool b.2.2.2.2.2.1), (30, .int .i64 r2), (31, .int .i64 b.2.2.2.2.2.2.1)]) (fun b => [cells b1 [.int .i64 0, .int .i64 0] 26, cells b4 [.string p4.text, hd3.v, hd4.v] 128, vec enc_Gapi_Place 130 5 hd3.v p4.places, vec enc_Gplace_ended 132 4 hd4.v p4.lines, cells b3 [.string b.2.1, b.2.2.2.2.2.2.2.1.v, b.2.2.2.2.2.2.2.2.v, .string text1] 93, vec enc_Gapi_Verse 36 6 b.2.2.2.2.2.2.2.1.v b.2.2.1, vec enc_Gapi_Span 34 2 b.2.2.2.2.2.2.2.2.v b.2.2.2.1]) (fun b => b.1) (fuel, ByteArray.empty, ([] : List Gapi_Verse), ([] : List Gapi_Span), true, false, 0, Hd.nil, Hd.nil) h rfl (Sbs.cons rfl (Sbs.cons rfl (Sbs.cons rfl (Sbs.cons rfl (Sbs.cons rfl (Sbs.cons rfl (Sbs.cons rfl (Sbs.cons rfl (Sbs.nil))))))))) (Splits.of [0, 3, 4, 5, 2, 6, 7] kr rfl) ?_
    rintro ⟨n1, p14, p15, p16, first3, row3, x3, hd10, hd11⟩ h
    cases n1 with
    | zero => exact noneE h
    | succ n1 =>
     obtain ⟨ag1, hag1⟩ : ∃ ag, ag = loopG (fun _ _ _ _ _ _ => none) (poem_Read_s1 text1 j1 p4 r2) n1 := ⟨_, rfl⟩
     have h : poem_Read_s1 text1 j1 p4 r2 ag1 p14 p15 p16 first3 row3 x3 = some r := by rw [hag1]; exact h
     unfold poem_Read_s1 at h
     show TC _ _ _ _ _ ([]) _ _ [(0, .string text1), (3, .pointer (some ⟨b1, 0, none⟩)), (4, .pointer (some ⟨b4, 0, none⟩)), (6, .pointer (some ⟨b3, 0, none⟩)), (7, .bool first3), (8, .bool row3), (30, .int .i64 r2), (31, .int .i64 x3)] [cells b1 [.int .i64 0, .int .i64 0] 26, cells b4 [.string p4.text, hd3.v, hd4.v] 128, vec enc_Gapi_Place 130 5 hd3.v p4.places, vec enc_Gplace_ended 132 4 hd4.v p4.lines, cells b3 [.string p14, hd10.v, hd11.v, .string text1] 93, vec enc_Gapi_Verse 36 6 hd10.v p15, vec enc_Gapi_Span 34 2 hd11.v p16]
     refine TC.seq (TC.region (TO.bin rfl dc rfl rfl bin_lss (TO.nil (TX.next (TC.seq ?_)))))
     refine TC.condB rfl (fun hb2 => ?_) (fun hb2 => ?_)
     ·
      have h := condT hb2 h
      refine TC.skip (TX.next ?_)
      obtain ⟨j2, hj2, h⟩ := joinE h
      refine TC.cutN (β := ByteArray × (List Gapi_Verse) × (List Gapi_Span) × Bool × Bool × Hd × Hd) 0 rfl (fun b => j2 b.1 b.2.1 b.2.2.1 b.2.2.2.1 b.2.2.2.2.1 = some r) (fun b => []) (fun b => [(0, .string text1), (3, .pointer (some ⟨b1, 0, none⟩)), (4, .pointer (some ⟨b4, 0, none⟩)), (6, .pointer (some ⟨b3, 0, none⟩)), (7, .bool b.2.2.2.1), (8, .bool b.2.2.2.2.1), (30, .int .i64 r2), (31, .int .i64 x3)]) (fun b => [cells b1 [.int .i64 0, .int .i64 0] 26, cells b4 [.string p4.text, hd3.v, hd4.v] 128, vec enc_Gapi_Place 130 5 hd3.v p4.places, vec enc_Gplace_ended 132 4 hd4.v p4.lines, cells b3 [.string b.1, b.2.2.2.2.2.1.v, b.2.2.2.2.2.2.v, .string text1] 93, vec enc_Gapi_Verse 36 6 b.2.2.2.2.2.1.v b.2.1, vec enc_Gapi_Span 34 2 b.2.2.2.2.2.2.v b.2.2.1]) (fun cut => ?_) ?_
      ·
       refine cut (TC.block ?_)
       obtain ⟨j3, hj3, h⟩ := joinE h
       refine TC.cutN (β := Int × Int × ByteArray × Nat) 3 rfl (fun b => j3 b.1 b.2.1 b.2.2.1 = some r) (fun b => []) (fun b => [(0, .string text1), (3, .pointer (some ⟨b1, 0, none⟩)), (4, .pointer (some ⟨b4, 0, none⟩)), (6, .pointer (some ⟨b3, 0, none⟩)), (8, .bool row3), (10, .pointer (some ⟨b.2.2.2, 0, none⟩)), (13, .string b.2.2.1), (30, .int .i64 r2), (31, .int .i64 x3)]) (fun b => [cells b1 [.int .i64 0, .int .i64 0] 26, cells b4 [.string p4.text, hd3.v, hd4.v] 128, vec enc_Gapi_Place 130 5 hd3.v p4.places, vec enc_Gplace_ended 132 4 hd4.v p4.lines, cells b3 [.string p14, hd10.v, hd11.v, .string text1] 93, vec enc_Gapi_Verse 36 6 hd10.v p15, vec enc_Gapi_Span 34 2 hd11.v p16, cells b.2.2.2 [.int .i64 b.1, .int .i64 b.2.1] 34]) (fun cut => ?_) ?_
       ·
        refine TC.seq (TC.region (TO.move rfl dc rfl (TO.assign rfl dc rfl (TO.nil (TX.next (TC.seq (TC.region (TO.move rfl dc rfl (TO.move rfl dc rfl ?_)))))))))
        obtain ⟨r3, hq4, h⟩ := andE h
        refine TO.callPR (v := .tuple #[.agg #[.int .i64 r3.1.From, .int .i64 r3.1.To], .int .i64 r3.2.1, .int .i64 r3.2.2]) (vs := [.pointer (some ⟨b4, 0, none⟩), .int .i64 x3]) (Rd.nil : Rd _ _ []) rfl dc rfl rfl rfl en_47 (place_Map_Span_fn (bm1 := b4) (m1 := p4) (m1_h0 := hd3) (m1_h1 := hd4) hq4) (.own (Splits.of [1] (by kernel_rfl) rfl) (fun _ _ h => sepL.one1.1 h) (.own (Splits.of [2] (by kernel_rfl) rfl) (fun _ _ h => sepL.one1.1 h) (.own (Splits.of [3] (by kernel_rfl) rfl) (fun _ _ h => sepL.one1.1 h) .nil))) ?_
        refine TO.move rfl dc rfl (TO.extract rfl dc rfl rfl (TO.extract rfl dc rfl rfl (TO.extract rfl dc rfl rfl ?_)))
        refine TO.alloc zr_34 rfl dc (fun b6 => ?_)
        refine TO.stores (k := 7) (vs := [.int .i64 r3.1.From, .int .i64 r3.1.To]) (l' := [.int .i64 r3.1.From, .int .i64 r3.1.To]) sz_34 rfl rfl rfl rfl rfl (show _ ≤ _ by simp) rfl rfl ?_
        show TO _ _ _ _ _ _ _ _ _ _ [cells b1 [.int .i64 0, .int .i64 0] 26, cells b4 [.string p4.text, hd3.v, hd4.v] 128, vec enc_Gapi_Place 130 5 hd3.v p4.places, vec enc_Gplace_ended 132 4 hd4.v p4.lines, cells b3 [.string p14, hd10.v, hd11.v, .string text1] 93, vec enc_Gapi_Verse 36 6 hd10.v p15, vec enc_Gapi_Span 34 2 hd11.v p16, cells b6 [.int .i64 r3.1.From, .int .i64 r3.1.To] 34]
        refine TO.assign rfl dc rfl (TO.assign rfl dc rfl (TO.nil (TX.next (TC.seq (TC.region (TO.move rfl dc rfl (TO.fieldAddr fl_34_0 rfl dc rfl (show _ = 0 from rfl) (TO.load (k := 7) sc_3 rfl dc rfl rfl rfl (TO.fieldAddr fl_34_1 rfl dc rfl (show _ = 1 from rfl) (TO.load (k := 7) sc_3 rfl dc rfl rfl rfl ?_))))))))))
        obtain ⟨hg1, h⟩ := grdE h
        refine TO.slice rfl dc rfl rfl rfl (slice_stringI (i := r3.1.From) (j := r3.1.To) Tryd.underlying9 (.inr rfl) (.inr rfl) hg1) (TO.assign rfl dc rfl (TO.nil (TX.next (cut (TC.block (TC.seq (TC.region (TO.move rfl dc rfl ?_))))))))
        obtain ⟨r4, hq5, h⟩ := andE h
        refine TO.callP (v := .bool r4) (vs := [.string (cutB text1 r3.1.From r3.1.To)]) rfl dc rfl rfl rfl en_48 (poem_empty_fn hq5) (TO.assign rfl dc rfl (TO.nil (TX.next ?_)))
        refine TC.condB rfl (fun hb3 => ?_) (fun hb3 => ?_)
        ·
         have h := condT hb3 h
         refine TC.seq (TC.region (TO.assign rfl dc rfl (TO.nil (TX.next (TC.exit (TX.blockOn dc (TX.thenExit (TX.blockHere ?_))))))))
         exact TX.meetD (p14, p15, p16, first3, false, hd10, hd11) h rfl (Sbs.cons rfl (Sbs.cons rfl (Sbs.cons rfl (Sbs.cons rfl (Sbs.cons rfl (Sbs.cons rfl (Sbs.cons rfl (Sbs.cons rfl (Sbs.nil))))))))) (Splits.of [0, 1, 2, 3, 4, 5, 6] kr rfl)
        ·
         have h := condF hb3 h
         refine TC.seq (TC.region (TO.move rfl dc rfl (TO.lenStr rfl dc rfl Tryd.underlying9 (TO.bin rfl dc rfl rfl bin_gtr (TO.assign rfl dc rfl (TO.nil (TX.next ?_)))))))
         refine TC.condB rfl (fun hb4 => ?_) (fun hb4 => ?_)
         ·
          have h := condT hb4 h
          refine TC.seq ?_
          obtain ⟨hg2, h⟩ := grdE h
          refine TC.drawN 5 [(0, 54, .pointer (some ⟨b6, 0, none⟩)), (1, 55, .int .i64 r3.1.From), (2, 56, .int .i64 (r3.1.From + 1024)), (3, 57, .agg #[.int .i64 3, .int .i64 (r3.1.From + 1024)]), (4, 2, .pointer none)] mixed kr kr dc (by rfl) kr kr (DrawPre.cons ?_ (DrawPre.cons ?_ (DrawPre.cons ?_ (DrawPre.cons ?_ (DrawPre.cons ?_ DrawPre.nil))))) ?_
          ·
           intro D hn hd hcl hu hi
           refine TO.fieldAddr fl_34_0 rfl dc (dl_old (by rfl) rfl) (show _ = 0 from rfl) ?_
           exact TX.quiet 0 hu hi rfl
          ·
           intro D hn hd hcl hu hi
           refine TO.load (k := 7) sc_3 rfl dc (dl_lookup (m := 0) hu rfl (hd 0 dc)) rfl rfl ?_
           exact TX.quiet 1 hu hi rfl
          ·
           intro D hn hd hcl hu hi
           refine TO.bin rfl dc (dl_lookup (m := 1) hu rfl (hd 1 dc)) rfl (bin_add (r := r3.1.From + 1024) (IntWalk.i64_in _ hg2)) ?_
           exact TX.quiet 2 hu hi rfl
          ·
           intro D hn hd hcl hu hi
           refine TO.build (v := .agg #[.int .i64 3, .int .i64 (r3.1.From + 1024)]) (ps := [(0, .const (.int .i64 3)), (1, .tmp 56)]) rfl dc (evP.cons rfl (evP.cons (dl_lookup (m := 2) hu rfl (hd 2 dc)) evP.nil)) (fun _ => by kernel_rfl) ?_
           exact TX.quiet 3 hu hi rfl
          ·
           intro D hn hd hcl hu hi
           refine TO.assign rfl dc rfl ?_
           exact TX.quiet 4 hu hi rfl
          refine TO.stores (k := 0) (vs := [.int .i64 3, .int .i64 (r3.1.From + 1024)]) (l' := [.int .i64 3, .int .i64 (r3.1.From + 1024)]) sz_26 rfl rfl rfl rfl rfl (show _ ≤ _ by simp) rfl rfl (TO.nil (TX.next (TC.ret (TX.blockRet (TX.thenRet (TX.blockRet (TX.thenRet (TX.thenRet (TX.blockRet (TX.thenRet (TX.jumpOn (by simp) (TX.newObj encN_Gpoem_Poem nest_Gpoem_Poem 93 ?_))))))))))))
          show TX _ _ _ _ _ _ _ [cells b1 [.int .i64 3, .int .i64 (r3.1.From + 1024)] 26, cells b4 [.string p4.text, hd3.v, hd4.v] 128, vec enc_Gapi_Place 130 5 hd3.v p4.places, vec enc_Gplace_ended 132 4 hd4.v p4.lines, cells b3 [.string p14, hd10.v, hd11.v, .string text1] 93, vec enc_Gapi_Verse 36 6 hd10.v p15, vec enc_Gapi_Span 34 2 hd11.v p16, cells b6 [.int .i64 r3.1.From, .int .i64 r3.1.To] 34, pobj encN_Gpoem_Poem nest_Gpoem_Poem 93 (.pointer none) none]
          cases h
          exact TX.fin (rs := [.tmp 2, .cell 3 26]) (.pointer none) (.inl rfl) Tryd.results13 (.cons (.tmp rfl) (.cons (.cells rw_26 (k := 0) rfl rfl rfl) .nil)) rfl (Splits.of [8] kr rfl)
         ·
          have h := condF hb4 h
          refine TC.seq (TC.region (TO.move rfl dc rfl (TO.move rfl dc rfl ?_)))
          refine TO.split (s := 60) rfl (fun hb5 => ?_) (fun hb5 => ?_)
          ·
           have h := condT hb5 h
           refine TO.move rfl dc rfl ?_
           obtain ⟨r5, hq6, h⟩ := andE h
           refine TO.callP (v := .bool r5) (vs := [.string (cutB text1 r3.1.From r3.1.To)]) rfl dc rfl rfl rfl en_49 (poem_titled_fn hq6) (TO.pick (b := true) rfl dc rfl rfl (TO.assign rfl dc rfl (TO.nil (TX.next ?_))))
           refine TC.condB rfl (fun hb6 => ?_) (fun hb6 => ?_)
           ·
            have h := condT hb6 h
            refine TC.seq (TC.region (TO.assign rfl dc rfl (TO.nil (TX.next (TC.seq (TC.region (TO.move rfl dc rfl (TO.move rfl dc rfl ?_))))))))
            obtain ⟨hg3, h⟩ := grdE h
            refine TO.slice rfl dc rfl rfl rfl (slice_stringI (i := 1) (j := ((cutB text1 r3.1.From r3.1.To).size : Int)) Tryd.underlying9 (.inr rfl) (.inl ⟨rfl, rfl⟩) hg3) ?_
            obtain ⟨r6, hq7, h⟩ := andE h
            refine TO.callP (v := .string r6) (vs := [.string (cutB (cutB text1 r3.1.From r3.1.To) 1 ((cutB text1 r3.1.From r3.1.To).size : Int)), .string (⟨#[32]⟩ : ByteArray)]) rfl dc rfl rfl rfl en_50 (strings_TrimPrefix_fn hq7) (TO.nilCheck rfl dc rfl (TO.fieldAddr fl_93_0 rfl dc rfl (show _ = 0 from rfl) (TO.fieldAddr fl_91_0 rfl dc rfl (show _ = 0 from rfl) ?_)))
            refine TO.store (k := 4) (l' := [.string r6, hd10.v, hd11.v, .string text1]) sz_9 rfl rfl rfl rfl rfl (fun _ _ => rfl) rfl ?_
            refine TO.nil (TX.next (TC.exit (TX.blockOn dc (TX.thenExit (TX.blockHere ?_)))))
            exact TX.meetD (r6, p15, p16, false, row3, hd10, hd11) h rfl (Sbs.cons rfl (Sbs.cons rfl (Sbs.cons rfl (Sbs.cons rfl (Sbs.cons rfl (Sbs.cons rfl (Sbs.cons rfl (Sbs.cons rfl (Sbs.nil))))))))) (Splits.of [0, 1, 2, 3, 4, 5, 6] kr rfl)
           ·
            have h := condF hb6 h
            refine TC.seq (TC.region (TO.move rfl dc rfl (TO.nilCheck rfl dc rfl (TO.fieldAddr fl_93_0 rfl dc rfl (show _ = 0 from rfl) (TO.fieldAddr fl_91_1 rfl dc rfl (show _ = 1 from rfl) (TO.load (k := 4) sc_57 rfl dc rfl rfl rfl (TO.lenVec (k := 5) rfl dc rfl rfl Tryd.underlying57 (TO.bin rfl dc rfl rfl bin_eql (TO.assign rfl dc rfl (TO.nil (TX.next ?_)))))))))))
            refine TC.condB rfl (fun hb7 => ?_) (fun hb7 => ?_)
            ·
             have h := condT hb7 h
             refine TC.seq ?_
             refine TC.drawN 4 [(0, 79, .pointer (some ⟨b6, 0, none⟩)), (1, 80, .int .i64 r3.1.From), (2, 81, .agg #[.int .i64 3, .int .i64 r3.1.From]), (3, 2, .pointer none)] mixed kr kr dc (by rfl) kr kr (DrawPre.cons ?_ (DrawPre.cons ?_ (DrawPre.cons ?_ (DrawPre.cons ?_ DrawPre.nil)))) ?_
             ·
              intro D hn hd hcl hu hi
              refine TO.fieldAddr fl_34_0 rfl dc (dl_old (by rfl) rfl) (show _ = 0 from rfl) ?_
              exact TX.quiet 0 hu hi rfl
             ·
              intro D hn hd hcl hu hi
              refine TO.load (k := 7) sc_3 rfl dc (dl_lookup (m := 0) hu rfl (hd 0 dc)) rfl rfl ?_
              exact TX.quiet 1 hu hi rfl
             ·
              intro D hn hd hcl hu hi
              refine TO.build (v := .agg #[.int .i64 3, .int .i64 r3.1.From]) (ps := [(0, .const (.int .i64 3)), (1, .tmp 80)]) rfl dc (evP.cons rfl (evP.cons (dl_lookup (m := 1) hu rfl (hd 1 dc)) evP.nil)) (fun _ => by kernel_rfl) ?_
              exact TX.quiet 2 hu hi rfl
             ·
              intro D hn hd hcl hu hi
              refine TO.assign rfl dc rfl ?_
              exact TX.quiet 3 hu hi rfl
             refine TO.stores (k := 0) (vs := [.int .i64 3, .int .i64 r3.1.From]) (l' := [.int .i64 3, .int .i64 r3.1.From]) sz_26 rfl rfl rfl rfl rfl (show _ ≤ _ by simp) rfl rfl (TO.nil (TX.next (TC.ret (TX.blockRet (TX.thenRet (TX.blockRet (TX.thenRet (TX.thenRet (TX.blockRet (TX.thenRet (TX.jumpOn (by simp) (TX.newObj encN_Gpoem_Poem nest_Gpoem_Poem 93 ?_))))))))))))
             show TX _ _ _ _ _ _ _ [cells b1 [.int .i64 3, .int .i64 r3.1.From] 26, cells b4 [.string p4.text, hd3.v, hd4.v] 128, vec enc_Gapi_Place 130 5 hd3.v p4.places, vec enc_Gplace_ended 132 4 hd4.v p4.lines, cells b3 [.string p14, hd10.v, hd11.v, .string text1] 93, vec enc_Gapi_Verse 36 6 hd10.v p15, vec enc_Gapi_Span 34 2 hd11.v p16, cells b6 [.int .i64 r3.1.From, .int .i64 r3.1.To] 34, pobj encN_Gpoem_Poem nest_Gpoem_Poem 93 (.pointer none) none]
             cases h
             exact TX.fin (rs := [.tmp 2, .cell 3 26]) (.pointer none) (.inl rfl) Tryd.results13 (.cons (.tmp rfl) (.cons (.cells rw_26 (k := 0) rfl rfl rfl) .nil)) rfl (Splits.of [8] kr rfl)
            ·
             have h := condF hb7 h
             refine TC.skip (TX.blockNormal ?_)
             exact TX.meetD (r3.1.From, r3.1.To, cutB text1 r3.1.From r3.1.To, b6) h rfl (Sbs.cons rfl (Sbs.cons rfl (Sbs.cons rfl (Sbs.cons rfl (Sbs.cons rfl (Sbs.cons rfl (Sbs.cons rfl (Sbs.cons rfl (Sbs.cons rfl (Sbs.nil)))))))))) (Splits.of [0, 1, 2, 3, 4, 5, 6, 7] kr rfl)
          ·
           have h := condF hb5 h
           refine TO.skip rfl dc (TO.skip rfl dc (TO.pick (b := false) rfl dc rfl rfl (TO.assign rfl dc rfl (TO.nil (TX.next (TC.condF rfl (TC.seq (TC.region (TO.move rfl dc rfl (TO.nilCheck rfl dc rfl (TO.fieldAddr fl_93_0 rfl dc rfl (show _ = 0 from rfl) (TO.fieldAddr fl_91_1 rfl dc rfl (show _ = 1 from rfl) (TO.load (k := 4) sc_57 rfl dc rfl rfl rfl ?_)))))))))))))
           refine TO.lenVec (k := 5) rfl dc rfl rfl Tryd.underlying57 (TO.bin rfl dc rfl rfl bin_eql (TO.assign rfl dc rfl (TO.nil (TX.next ?_))))
           refine TC.condB rfl (fun hb8 => ?_) (fun hb8 => ?_)
           ·
            have h := condT hb8 h
            refine TC.seq ?_
            refine TC.drawN 4 [(0, 79, .pointer (some ⟨b6, 0, none⟩)), (1, 80, .int .i64 r3.1.From), (2, 81, .agg #[.int .i64 3, .int .i64 r3.1.From]), (3, 2, .pointer none)] mixed kr kr dc (by rfl) kr kr (DrawPre.cons ?_ (DrawPre.cons ?_ (DrawPre.cons ?_ (DrawPre.cons ?_ DrawPre.nil)))) ?_
            ·
             intro D hn hd hcl hu hi
             refine TO.fieldAddr fl_34_0 rfl dc (dl_old (by rfl) rfl) (show _ = 0 from rfl) ?_
             exact TX.quiet 0 hu hi rfl
            ·
             intro D hn hd hcl hu hi
             refine TO.load (k := 7) sc_3 rfl dc (dl_lookup (m := 0) hu rfl (hd 0 dc)) rfl rfl ?_
             exact TX.quiet 1 hu hi rfl
            ·
             intro D hn hd hcl hu hi
             refine TO.build (v := .agg #[.int .i64 3, .int .i64 r3.1.From]) (ps := [(0, .const (.int .i64 3)), (1, .tmp 80)]) rfl dc (evP.cons rfl (evP.cons (dl_lookup (m := 1) hu rfl (hd 1 dc)) evP.nil)) (fun _ => by kernel_rfl) ?_
             exact TX.quiet 2 hu hi rfl
            ·
             intro D hn hd hcl hu hi
             refine TO.assign rfl dc rfl ?_
             exact TX.quiet 3 hu hi rfl
            refine TO.stores (k := 0) (vs := [.int .i64 3, .int .i64 r3.1.From]) (l' := [.int .i64 3, .int .i64 r3.1.From]) sz_26 rfl rfl rfl rfl rfl (show _ ≤ _ by simp) rfl rfl (TO.nil (TX.next (TC.ret (TX.blockRet (TX.thenRet (TX.blockRet (TX.thenRet (TX.thenRet (TX.blockRet (TX.thenRet (TX.jumpOn (by simp) (TX.newObj encN_Gpoem_Poem nest_Gpoem_Poem 93 ?_))))))))))))
            show TX _ _ _ _ _ _ _ [cells b1 [.int .i64 3, .int .i64 r3.1.From] 26, cells b4 [.string p4.text, hd3.v, hd4.v] 128, vec enc_Gapi_Place 130 5 hd3.v p4.places, vec enc_Gplace_ended 132 4 hd4.v p4.lines, cells b3 [.string p14, hd10.v, hd11.v, .string text1] 93, vec enc_Gapi_Verse 36 6 hd10.v p15, vec enc_Gapi_Span 34 2 hd11.v p16, cells b6 [.int .i64 r3.1.From, .int .i64 r3.1.To] 34, pobj encN_Gpoem_Poem nest_Gpoem_Poem 93 (.pointer none) none]
            cases h
            exact TX.fin (rs := [.tmp 2, .cell 3 26]) (.pointer none) (.inl rfl) Tryd.results13 (.cons (.tmp rfl) (.cons (.cells rw_26 (k := 0) rfl rfl rfl) .nil)) rfl (Splits.of [8] kr rfl)
           ·
            have h := condF hb8 h
            refine TC.skip (TX.blockNormal ?_)
            exact TX.meetD (r3.1.From, r3.1.To, cutB text1 r3.1.From r3.1.To, b6) h rfl (Sbs.cons rfl (Sbs.cons rfl (Sbs.cons rfl (Sbs.cons rfl (Sbs.cons rfl (Sbs.cons rfl (Sbs.cons rfl (Sbs.cons rfl (Sbs.cons rfl (Sbs.nil)))))))))) (Splits.of [0, 1, 2, 3, 4, 5, 6, 7] kr rfl)
       ·
        rintro ⟨span1, span2, line1, b5⟩ h
        rw [hj3] at h
        show TC _ _ _ _ _ ([]) _ _ [(0, .string text1), (3, .pointer (some ⟨b1, 0, none⟩)), (4, .pointer (some ⟨b4, 0, none⟩)), (6, .pointer (some ⟨b3, 0, none⟩)), (8, .bool row3), (10, .pointer (some ⟨b5, 0, none⟩)), (13, .string line1), (30, .int .i64 r2), (31, .int .i64 x3)] [cells b1 [.int .i64 0, .int .i64 0] 26, cells b4 [.string p4.text, hd3.v, hd4.v] 128, vec enc_Gapi_Place 130 5 hd3.v p4.places, vec enc_Gplace_ended 132 4 hd4.v p4.lines, cells b3 [.string p14, hd10.v, hd11.v, .string text1] 93, vec enc_Gapi_Verse 36 6 hd10.v p15, vec enc_Gapi_Span 34 2 hd11.v p16, cells b5 [.int .i64 span1, .int .i64 span2] 34]
        obtain ⟨j4, hj4, h⟩ := joinE h
        refine TC.cutN (β := (List Gapi_Span) × Hd) 2 rfl (fun b => j4 b.1 = some r) (fun b => []) (fun b => [(0, .string text1), (3, .pointer (some ⟨b1, 0, none⟩)), (4, .pointer (some ⟨b4, 0, none⟩)), (6, .pointer (some ⟨b3, 0, none⟩)), (7, .bool false), (10, .pointer (some ⟨b5, 0, none⟩)), (13, .string line1), (14, .int .i64 (p15.length : Int)), (30, .int .i64 r2), (31, .int .i64 x3)]) (fun b => [cells b1 [.int .i64 0, .int .i64 0] 26, cells b4 [.string p4.text, hd3.v, hd4.v] 128, vec enc_Gapi_Place 130 5 hd3.v p4.places, vec enc_Gplace_ended 132 4 hd4.v p4.lines, cells b3 [.string p14, hd10.v, b.2.v, .string text1] 93, vec enc_Gapi_Verse 36 6 hd10.v p15, vec enc_Gapi_Span 34 2 b.2.v b.1, cells b5 [.int .i64 span1, .int .i64 span2] 34]) (fun cut => ?_) ?_
        ·
         refine TC.seq (TC.region (TO.assign rfl dc rfl (TO.nil (TX.next (TC.seq (TC.region (TO.move rfl dc rfl (TO.nilCheck rfl dc rfl (TO.fieldAddr fl_93_0 rfl dc rfl (show _ = 0 from rfl) (TO.fieldAddr fl_91_1 rfl dc rfl (show _ = 1 from rfl) (TO.load (k := 4) sc_57 rfl dc rfl rfl rfl (TO.lenVec (k := 5) rfl dc rfl rfl Tryd.underlying57 (TO.assign rfl dc rfl ?_)))))))))))))
         refine TO.nil (TX.next (cut (TC.seq (TC.region (TO.move rfl dc rfl (TO.un rfl dc rfl un_not (TO.nil (TX.next ?_))))))))
         refine TC.condB rfl (fun hb9 => ?_) (fun hb9 => ?_)
         ·
          have h := condT hb9 h
          refine TC.region (TO.move rfl dc rfl (TO.move rfl dc rfl (TO.nilCheck rfl dc rfl (TO.fieldAddr fl_93_0 rfl dc rfl (show _ = 0 from rfl) (TO.fieldAddr fl_91_2 rfl dc rfl (show _ = 2 from rfl) (TO.load (k := 4) sc_89 rfl dc rfl rfl rfl (TO.move rfl dc rfl (TO.move rfl dc rfl ?_))))))))
          refine TO.build (v := .agg #[.int .i64 (p15.length : Int), .int .i64 (p15.length : Int)]) (ps := [(0, .tmp 96), (1, .tmp 97)]) rfl dc rfl (fun _ => by kernel_rfl) ?_
          refine TO.buildSlice (cs := [.int .i64 (p15.length : Int), .int .i64 (p15.length : Int)]) (te := 34) (ps := [(0, .tmp 98)]) rfl dc rfl (fun _ => by kernel_rfl) (fun b7 => ?_)
          obtain ⟨hg4, h⟩ := grdE h
          refine TO.appendVec (k := 6) (k2 := 8) (ys := [(⟨(p15.length : Int), (p15.length : Int)⟩ : Gapi_Span)]) Tryd.underlying89 el_34 enc_Gapi_Span_len enc_Gapi_Span_one rfl dc rfl rfl rfl rfl rfl rfl hg4 (fun v2 => ?_)
          refine TO.nameHd (k := 6) rfl (fun hd15 he1 => ?_)
          subst he1
          show TO _ _ _ _ _ _ _ _ _ _ [cells b1 [.int .i64 0, .int .i64 0] 26, cells b4 [.string p4.text, hd3.v, hd4.v] 128, vec enc_Gapi_Place 130 5 hd3.v p4.places, vec enc_Gplace_ended 132 4 hd4.v p4.lines, cells b3 [.string p14, hd10.v, hd11.v, .string text1] 93, vec enc_Gapi_Verse 36 6 hd10.v p15, vec enc_Gapi_Span 34 2 hd15.v (p16 ++ [(⟨(p15.length : Int), (p15.length : Int)⟩ : Gapi_Span)]), cells b5 [.int .i64 span1, .int .i64 span2] 34, cells b7 [.int .i64 (p15.length : Int), .int .i64 (p15.length : Int)] 34]
          refine TO.nilCheck rfl dc rfl (TO.fieldAddr fl_93_0 rfl dc rfl (show _ = 0 from rfl) (TO.fieldAddr fl_91_2 rfl dc rfl (show _ = 2 from rfl) ?_))
          refine TO.store (k := 4) (l' := [.string p14, hd10.v, hd15.v, .string text1]) sz_89 rfl rfl rfl rfl rfl (fun _ _ => rfl) rfl ?_
          refine TO.nil ?_
          exact TX.meetD (p16 ++ [(⟨(p15.length : Int), (p15.length : Int)⟩ : Gapi_Span)], hd15) h rfl (Sbs.cons rfl (Sbs.cons rfl (Sbs.cons rfl (Sbs.cons rfl (Sbs.cons rfl (Sbs.cons rfl (Sbs.cons rfl (Sbs.cons rfl (Sbs.cons rfl (Sbs.cons rfl (Sbs.nil))))))))))) (Splits.of [0, 1, 2, 3, 4, 5, 6, 7] kr rfl)
         ·
          have h := condF hb9 h
          refine TC.skip ?_
          exact TX.meetD (p16, hd11) h rfl (Sbs.cons rfl (Sbs.cons rfl (Sbs.cons rfl (Sbs.cons rfl (Sbs.cons rfl (Sbs.cons rfl (Sbs.cons rfl (Sbs.cons rfl (Sbs.cons rfl (Sbs.cons rfl (Sbs.nil))))))))))) (Splits.of [0, 1, 2, 3, 4, 5, 6, 7] kr rfl)
        ·
         rintro ⟨p20, hd14⟩ h
         rw [hj4] at h
         show TC _ _ _ _ _ ([]) _ _ [(0, .string text1), (3, .pointer (some ⟨b1, 0, none⟩)), (4, .pointer (some ⟨b4, 0, none⟩)), (6, .pointer (some ⟨b3, 0, none⟩)), (7, .bool false), (10, .pointer (some ⟨b5, 0, none⟩)), (13, .string line1), (14, .int .i64 (p15.length : Int)), (30, .int .i64 r2), (31, .int .i64 x3)] [cells b1 [.int .i64 0, .int .i64 0] 26, cells b4 [.string p4.text, hd3.v, hd4.v] 128, vec enc_Gapi_Place 130 5 hd3.v p4.places, vec enc_Gplace_ended 132 4 hd4.v p4.lines, cells b3 [.string p14, hd10.v, hd14.v, .string text1] 93, vec enc_Gapi_Verse 36 6 hd10.v p15, vec enc_Gapi_Span 34 2 hd14.v p20, cells b5 [.int .i64 span1, .int .i64 span2] 34]
         refine TC.seq (TC.region (TO.assign rfl dc rfl (TO.nil (TX.next (TC.seq ?_)))))
         obtain ⟨hg5, h⟩ := grdE h
         obtain ⟨q1, hq8, h⟩ := andE h
         refine TC.drawN 12 [(0, 104, .pointer (some ⟨b3, 0, none⟩)), (1, 105, .pointer (some ⟨b3, 0, none⟩)), (2, 106, .pointer (some ⟨b3, 0, none⟩)), (3, 107, .pointer (some ⟨b3, 2, none⟩)), (4, 108, hd14.v), (5, 109, .pointer (some ⟨b3, 0, none⟩)), (6, 110, .pointer (some ⟨b3, 0, none⟩)), (7, 111, .pointer (some ⟨b3, 0, none⟩)), (8, 112, .pointer (some ⟨b3, 2, none⟩)), (9, 113, hd14.v), (10, 114, .int .i64 (p20.length : Int)), (11, 115, .int .i64 ((p20.length : Int) - 1))] mixed kr kr dc (by rfl) kr kr (DrawPre.cons ?_ (DrawPre.cons ?_ (DrawPre.cons ?_ (DrawPre.cons ?_ (DrawPre.cons ?_ (DrawPre.cons ?_ (DrawPre.cons ?_ (DrawPre.cons ?_ (DrawPre.cons ?_ (DrawPre.cons ?_ (DrawPre.cons ?_ (DrawPre.cons ?_ DrawPre.nil)))))))))))) ?_
         ·
          intro D hn hd hcl hu hi
          refine TO.move rfl dc (dl_old (by rfl) rfl) ?_
          exact TX.quiet 0 hu hi rfl
         ·
          intro D hn hd hcl hu hi
          refine TO.nilCheck rfl dc (dl_lookup (m := 0) hu rfl (hd 0 dc)) ?_
          exact TX.quiet 1 hu hi rfl
         ·
          intro D hn hd hcl hu hi
          refine TO.fieldAddr fl_93_0 rfl dc (dl_lookup (m := 1) hu rfl (hd 1 dc)) (show _ = 0 from rfl) ?_
          exact TX.quiet 2 hu hi rfl
         ·
          intro D hn hd hcl hu hi
          refine TO.fieldAddr fl_91_2 rfl dc (dl_lookup (m := 2) hu rfl (hd 2 dc)) (show _ = 2 from rfl) ?_
          exact TX.quiet 3 hu hi rfl
         ·
          intro D hn hd hcl hu hi
          refine TO.load (k := 4) sc_89 rfl dc (dl_lookup (m := 3) hu rfl (hd 3 dc)) rfl rfl ?_
          exact TX.quiet 4 hu hi rfl
         ·
          intro D hn hd hcl hu hi
          refine TO.move rfl dc (dl_old (by rfl) rfl) ?_
          exact TX.quiet 5 hu hi rfl
         ·
          intro D hn hd hcl hu hi
          refine TO.nilCheck rfl dc (dl_lookup (m := 5) hu rfl (hd 5 dc)) ?_
          exact TX.quiet 6 hu hi rfl
         ·
          intro D hn hd hcl hu hi
          refine TO.fieldAddr fl_93_0 rfl dc (dl_lookup (m := 6) hu rfl (hd 6 dc)) (show _ = 0 from rfl) ?_
          exact TX.quiet 7 hu hi rfl
         ·
          intro D hn hd hcl hu hi
          refine TO.fieldAddr fl_91_2 rfl dc (dl_lookup (m := 7) hu rfl (hd 7 dc)) (show _ = 2 from rfl) ?_
          exact TX.quiet 8 hu hi rfl
         ·
          intro D hn hd hcl hu hi
          refine TO.load (k := 4) sc_89 rfl dc (dl_lookup (m := 8) hu rfl (hd 8 dc)) rfl rfl ?_
          exact TX.quiet 9 hu hi rfl
         ·
          intro D hn hd hcl hu hi
          refine TO.lenVec (k := 6) rfl dc (dl_lookup (m := 9) hu rfl (hd 9 dc)) rfl Tryd.underlying89 ?_
          exact TX.quiet 10 hu hi rfl
         ·
          intro D hn hd hcl hu hi
          refine TO.bin rfl dc (dl_lookup (m := 10) hu rfl (hd 10 dc)) rfl (bin_sub (r := (p20.length : Int) - 1) (IntWalk.i64_in _ hg5)) ?_
          exact TX.quiet 11 hu hi rfl
         refine TO.indexVecI (k := 6) hq8 Tryd.underlying89 sz_34 rfl dc rfl rfl rfl rfl (TO.assign rfl dc rfl (TO.nil (TX.next (TC.seq (TC.region (TO.move rfl dc rfl ?_))))))
         obtain ⟨r7, hq9, h⟩ := andE h
         refine TO.callP (v := .int .i64 r7) (vs := [.string line1]) rfl dc rfl rfl rfl en_51 (poem_indent_fn hq9) (TO.assign rfl dc rfl (TO.nil (TX.next (TC.seq ?_))))
         obtain ⟨hg6, h⟩ := grdE h
         obtain ⟨hg7, h⟩ := grdE h
         obtain ⟨hg8, h⟩ := grdE h
         obtain ⟨hg9, h⟩ := grdE h
         obtain ⟨hg10, h⟩ := grdE h
         refine TC.pad 1 ?_
         show TC _ _ _ _ _ _ _ _ _ [cells b1 [.int .i64 0, .int .i64 0] 26, cells b4 [.string p4.text, hd3.v, hd4.v] 128, vec enc_Gapi_Place 130 5 hd3.v p4.places, vec enc_Gplace_ended 132 4 hd4.v p4.lines, cells b3 [.string p14, hd10.v, hd14.v, .string text1] 93, vec enc_Gapi_Verse 36 6 hd10.v p15, vec enc_Gapi_Span 34 2 hd14.v p20, cells b5 [.int .i64 span1, .int .i64 span2] 34, emp]
         refine let vals1 : (Nat × Hd) → List (Nat × Nat × Value) := fun b => [(0, 119, .pointer (some ⟨b3, 0, none⟩)), (1, 120, .pointer (some ⟨b3, 0, none⟩)), (2, 121, .pointer (some ⟨b3, 0, none⟩)), (3, 122, .pointer (some ⟨b3, 0, none⟩)), (4, 123, .pointer (some ⟨b3, 1, none⟩)), (5, 124, hd10.v), (6, 125, .string line1), (7, 126, .int .i64 r7), (8, 127, .string (cutB line1 r7 (line1.size : Int))), (9, 128, .int .i64 r7), (10, 129, .pointer (some ⟨b3, 0, none⟩)), (11, 130, .pointer (some ⟨b3, 0, none⟩)), (12, 131, .pointer (some ⟨b3, 0, none⟩)), (13, 132, .pointer (some ⟨b3, 2, none⟩)), (14, 133, hd14.v), (15, 134, .int .i64 (p20.length : Int)), (16, 135, .int .i64 ((p20.length : Int) - 1)), (17, 136, .int .i64 (p15.length : Int)), (18, 137, .pointer (some ⟨vblk hd14.v, ((p20.length : Int) - 1 : Int).toNat * 2, none⟩)), (19, 138, .pointer (some ⟨vblk hd14.v, ((p20.length : Int) - 1 : Int).toNat * 2, none⟩)), (20, 139, .pointer (some ⟨vblk hd14.v, (((p20.length : Int) - 1 : Int).toNat) * 2, none⟩)), (21, 140, .int .i64 q1.From), (22, 141, .int .i64 ((p15.length : Int) - q1.From)), (23, 142, .pointer (some ⟨b5, 0, none⟩)), (24, 143, .int .i64 span1), (25, 144, .int .i64 r7), (26, 145, .int .i64 (span1 + r7)), (27, 146, .pointer (some ⟨b5, 1, none⟩)), (28, 147, .int .i64 span2), (29, 148, .agg #[.int .i64 (span1 + r7), .int .i64 span2]), (30, 149, .agg #[.string (cutB line1 r7 (line1.size : Int)), .int .i64 r7, .int .i64 ((p20.length : Int) - 1), .int .i64 ((p15.length : Int) - q1.From), .int .i64 (span1 + r7), .int .i64 span2]), (31, 150, .slice (some ⟨b.1, 0, none⟩) 1 1), (32, 151, b.2.v)]; let LL1 : (Nat → Prop) → (Nat × Hd) → List Asn := fun D b => [cells b1 [.int .i64 0, .int .i64 0] 26, cells b4 [.string p4.text, hd3.v, hd4.v] 128, vec enc_Gapi_Place 130 5 hd3.v p4.places, vec enc_Gplace_ended 132 4 hd4.v p4.lines, cells b3 [.string p14, hd10.v, hd14.v, .string text1] 93, eD D (vec enc_Gapi_Verse 36 6 hd10.v p15) [(32, vec enc_Gapi_Verse 36 6 b.2.v (p15 ++ [(⟨cutB line1 r7 (line1.size : Int), r7, (p20.length : Int) - 1, (p15.length : Int) - q1.From, span1 + r7, span2⟩ : Gapi_Verse)]))], vec enc_Gapi_Span 34 2 hd14.v p20, cells b5 [.int .i64 span1, .int .i64 span2] 34, eD D emp [(31, cells b.1 [.string (cutB line1 r7 (line1.size : Int)), .int .i64 r7, .int .i64 ((p20.length : Int) - 1), .int .i64 ((p15.length : Int) - q1.From), .int .i64 (span1 + r7), .int .i64 span2] 36)]]; ?_
         refine TC.drawG (β := Nat × Hd) 33 ((0 : Nat), Hd.nil) vals1 LL1 mixed kr kr dc (fun _ => rfl) (cons_eq rfl (cons_eq rfl (cons_eq rfl (cons_eq rfl (cons_eq rfl (cons_eq eD_none (cons_eq rfl (cons_eq rfl (cons_eq eD_none rfl))))))))) (DrawG.cons ?_ (DrawG.cons ?_ (DrawG.cons ?_ (DrawG.cons ?_ (DrawG.cons ?_ (DrawG.cons ?_ (DrawG.cons ?_ (DrawG.cons ?_ (DrawG.cons ?_ (DrawG.cons ?_ (DrawG.cons ?_ (DrawG.cons ?_ (DrawG.cons ?_ (DrawG.cons ?_ (DrawG.cons ?_ (DrawG.cons ?_ (DrawG.cons ?_ (DrawG.cons ?_ (DrawG.cons ?_ (DrawG.cons ?_ (DrawG.cons ?_ (DrawG.cons ?_ (DrawG.cons ?_ (DrawG.cons ?_ (DrawG.cons ?_ (DrawG.cons ?_ (DrawG.cons ?_ (DrawG.cons ?_ (DrawG.cons ?_ (DrawG.cons ?_ (DrawG.cons ?_ (DrawG.cons ?_ (DrawG.cons ?_ DrawG.nil))))))))))))))))))))))))))))))))) ?_
         ·
          intro D b hn hd hcl
          obtain ⟨b8, hd16⟩ := b
          refine TO.rewL (L' := [cells b1 [.int .i64 0, .int .i64 0] 26, cells b4 [.string p4.text, hd3.v, hd4.v] 128, vec enc_Gapi_Place 130 5 hd3.v p4.places, vec enc_Gplace_ended 132 4 hd4.v p4.lines, cells b3 [.string p14, hd10.v, hd14.v, .string text1] 93, eD D (vec enc_Gapi_Verse 36 6 hd10.v p15) [(32, vec enc_Gapi_Verse 36 6 hd16.v (p15 ++ [(⟨cutB line1 r7 (line1.size : Int), r7, (p20.length : Int) - 1, (p15.length : Int) - q1.From, span1 + r7, span2⟩ : Gapi_Verse)]))], vec enc_Gapi_Span 34 2 hd14.v p20, cells b5 [.int .i64 span1, .int .i64 span2] 34, eD D emp [(31, cells b8 [.string (cutB line1 r7 (line1.size : Int)), .int .i64 r7, .int .i64 ((p20.length : Int) - 1), .int .i64 ((p15.length : Int) - q1.From), .int .i64 (span1 + r7), .int .i64 span2] 36)]]) (cons_eq rfl (cons_eq rfl (cons_eq rfl (cons_eq rfl (cons_eq rfl (cons_eq rfl (cons_eq rfl (cons_eq rfl (cons_eq rfl rfl))))))))) (TO.move rfl dc (dl_old (by rfl) rfl) ?_)
          exact TX.valG (b8, hd16) 0 (by rfl) (by rfl) rfl (dl_cons_eq (fun _ => rfl) (dl_cons_eq (fun _ => rfl) (dl_cons_eq (fun _ => rfl) (dl_cons_eq (fun _ => rfl) (dl_cons_eq (fun _ => rfl) (dl_cons_eq (fun _ => rfl) (dl_cons_eq (fun _ => rfl) (dl_cons_eq (fun _ => rfl) (dl_cons_eq (fun _ => rfl) (dl_cons_eq (fun _ => rfl) (dl_cons_eq (fun _ => rfl) (dl_cons_eq (fun _ => rfl) (dl_cons_eq (fun _ => rfl) (dl_cons_eq (fun _ => rfl) (dl_cons_eq (fun _ => rfl) (dl_cons_eq (fun _ => rfl) (dl_cons_eq (fun _ => rfl) (dl_cons_eq (fun _ => rfl) (dl_cons_eq (fun _ => rfl) (dl_cons_eq (fun _ => rfl) (dl_cons_eq (fun _ => rfl) (dl_cons_eq (fun _ => rfl) (dl_cons_eq (fun _ => rfl) (dl_cons_eq (fun _ => rfl) (dl_cons_eq (fun _ => rfl) (dl_cons_eq (fun _ => rfl) (dl_cons_eq (fun _ => rfl) (dl_cons_eq (fun _ => rfl) (dl_cons_eq (fun _ => rfl) (dl_cons_eq (fun _ => rfl) (dl_cons_eq (fun _ => rfl) (dl_cons_eq (fun _ => rfl) (dl_cons_eq (fun _ => rfl) rfl))))))))))))))))))))))))))))))))) (cons_eq rfl (cons_eq rfl (cons_eq rfl (cons_eq rfl (cons_eq rfl (cons_eq ((eD_skip (by rfl)).trans rfl) (cons_eq rfl (cons_eq rfl (cons_eq ((eD_skip (by rfl)).trans rfl) rfl)))))))))
         ·
          intro D b hn hd hcl
          obtain ⟨b8, hd16⟩ := b
          refine TO.rewL (L' := [cells b1 [.int .i64 0, .int .i64 0] 26, cells b4 [.string p4.text, hd3.v, hd4.v] 128, vec enc_Gapi_Place 130 5 hd3.v p4.places, vec enc_Gplace_ended 132 4 hd4.v p4.lines, cells b3 [.string p14, hd10.v, hd14.v, .string text1] 93, vec enc_Gapi_Verse 36 6 hd10.v p15, vec enc_Gapi_Span 34 2 hd14.v p20, cells b5 [.int .i64 span1, .int .i64 span2] 34, eD D emp [(31, cells b8 [.string (cutB line1 r7 (line1.size : Int)), .int .i64 r7, .int .i64 ((p20.length : Int) - 1), .int .i64 ((p15.length : Int) - q1.From), .int .i64 (span1 + r7), .int .i64 span2] 36)]]) (cons_eq rfl (cons_eq rfl (cons_eq rfl (cons_eq rfl (cons_eq rfl (cons_eq (eD_miss (fun hD => hn (hcl 2 _ rfl (hcl 3 _ rfl (hcl 4 _ rfl (hcl 5 _ rfl (hcl 32 _ rfl hD 5 dc) 4 dc) 3 dc) 2 dc) 1 dc)) eD_nil) (cons_eq rfl (cons_eq rfl (cons_eq rfl rfl))))))))) ?_
          refine TO.move rfl dc (dl_old (by rfl) rfl) ?_
          exact TX.valG (b8, hd16) 1 (by rfl) (by rfl) rfl (dl_cons_eq (fun _ => rfl) (dl_cons_eq (fun _ => rfl) (dl_cons_eq (fun _ => rfl) (dl_cons_eq (fun _ => rfl) (dl_cons_eq (fun _ => rfl) (dl_cons_eq (fun _ => rfl) (dl_cons_eq (fun _ => rfl) (dl_cons_eq (fun _ => rfl) (dl_cons_eq (fun _ => rfl) (dl_cons_eq (fun _ => rfl) (dl_cons_eq (fun _ => rfl) (dl_cons_eq (fun _ => rfl) (dl_cons_eq (fun _ => rfl) (dl_cons_eq (fun _ => rfl) (dl_cons_eq (fun _ => rfl) (dl_cons_eq (fun _ => rfl) (dl_cons_eq (fun _ => rfl) (dl_cons_eq (fun _ => rfl) (dl_cons_eq (fun _ => rfl) (dl_cons_eq (fun _ => rfl) (dl_cons_eq (fun _ => rfl) (dl_cons_eq (fun _ => rfl) (dl_cons_eq (fun _ => rfl) (dl_cons_eq (fun _ => rfl) (dl_cons_eq (fun _ => rfl) (dl_cons_eq (fun _ => rfl) (dl_cons_eq (fun _ => rfl) (dl_cons_eq (fun _ => rfl) (dl_cons_eq (fun _ => rfl) (dl_cons_eq (fun _ => rfl) (dl_cons_eq (fun _ => rfl) (dl_cons_eq (fun _ => rfl) (dl_cons_eq (fun _ => rfl) rfl))))))))))))))))))))))))))))))))) (cons_eq rfl (cons_eq rfl (cons_eq rfl (cons_eq rfl (cons_eq rfl (cons_eq ((eD_skip (by rfl)).trans (eD_miss (fun hD => hn (hcl 2 _ rfl (hcl 3 _ rfl (hcl 4 _ rfl (hcl 5 _ rfl (hcl 32 _ rfl hD 5 dc) 4 dc) 3 dc) 2 dc) 1 dc)) eD_nil)) (cons_eq rfl (cons_eq rfl (cons_eq ((eD_skip (by rfl)).trans rfl) rfl)))))))))
         ·
          intro D b hn hd hcl
          obtain ⟨b8, hd16⟩ := b
          refine TO.rewL (L' := [cells b1 [.int .i64 0, .int .i64 0] 26, cells b4 [.string p4.text, hd3.v, hd4.v] 128, vec enc_Gapi_Place 130 5 hd3.v p4.places, vec enc_Gplace_ended 132 4 hd4.v p4.lines, cells b3 [.string p14, hd10.v, hd14.v, .string text1] 93, vec enc_Gapi_Verse 36 6 hd10.v p15, vec enc_Gapi_Span 34 2 hd14.v p20, cells b5 [.int .i64 span1, .int .i64 span2] 34, eD D emp [(31, cells b8 [.string (cutB line1 r7 (line1.size : Int)), .int .i64 r7, .int .i64 ((p20.length : Int) - 1), .int .i64 ((p15.length : Int) - q1.From), .int .i64 (span1 + r7), .int .i64 span2] 36)]]) (cons_eq rfl (cons_eq rfl (cons_eq rfl (cons_eq rfl (cons_eq rfl (cons_eq (eD_miss (fun hD => hn (hcl 3 _ rfl (hcl 4 _ rfl (hcl 5 _ rfl (hcl 32 _ rfl hD 5 dc) 4 dc) 3 dc) 2 dc)) eD_nil) (cons_eq rfl (cons_eq rfl (cons_eq rfl rfl))))))))) ?_
          refine TO.nilCheck rfl dc (dl_lookup (m := 1) rfl rfl (hd 1 dc)) ?_
          exact TX.valG (b8, hd16) 2 (by rfl) (by rfl) rfl (dl_cons_eq (fun _ => rfl) (dl_cons_eq (fun _ => rfl) (dl_cons_eq (fun _ => rfl) (dl_cons_eq (fun _ => rfl) (dl_cons_eq (fun _ => rfl) (dl_cons_eq (fun _ => rfl) (dl_cons_eq (fun _ => rfl) (dl_cons_eq (fun _ => rfl) (dl_cons_eq (fun _ => rfl) (dl_cons_eq (fun _ => rfl) (dl_cons_eq (fun _ => rfl) (dl_cons_eq (fun _ => rfl) (dl_cons_eq (fun _ => rfl) (dl_cons_eq (fun _ => rfl) (dl_cons_eq (fun _ => rfl) (dl_cons_eq (fun _ => rfl) (dl_cons_eq (fun _ => rfl) (dl_cons_eq (fun _ => rfl) (dl_cons_eq (fun _ => rfl) (dl_cons_eq (fun _ => rfl) (dl_cons_eq (fun _ => rfl) (dl_cons_eq (fun _ => rfl) (dl_cons_eq (fun _ => rfl) (dl_cons_eq (fun _ => rfl) (dl_cons_eq (fun _ => rfl) (dl_cons_eq (fun _ => rfl) (dl_cons_eq (fun _ => rfl) (dl_cons_eq (fun _ => rfl) (dl_cons_eq (fun _ => rfl) (dl_cons_eq (fun _ => rfl) (dl_cons_eq (fun _ => rfl) (dl_cons_eq (fun _ => rfl) (dl_cons_eq (fun _ => rfl) rfl))))))))))))))))))))))))))))))))) (cons_eq rfl (cons_eq rfl (cons_eq rfl (cons_eq rfl (cons_eq rfl (cons_eq ((eD_skip (by rfl)).trans (eD_miss (fun hD => hn (hcl 3 _ rfl (hcl 4 _ rfl (hcl 5 _ rfl (hcl 32 _ rfl hD 5 dc) 4 dc) 3 dc) 2 dc)) eD_nil)) (cons_eq rfl (cons_eq rfl (cons_eq ((eD_skip (by rfl)).trans rfl) rfl)))))))))
         ·
          intro D b hn hd hcl
          obtain ⟨b8, hd16⟩ := b
          refine TO.rewL (L' := [cells b1 [.int .i64 0, .int .i64 0] 26, cells b4 [.string p4.text, hd3.v, hd4.v] 128, vec enc_Gapi_Place 130 5 hd3.v p4.places, vec enc_Gplace_ended 132 4 hd4.v p4.lines, cells b3 [.string p14, hd10.v, hd14.v, .string text1] 93, vec enc_Gapi_Verse 36 6 hd10.v p15, vec enc_Gapi_Span 34 2 hd14.v p20, cells b5 [.int .i64 span1, .int .i64 span2] 34, eD D emp [(31, cells b8 [.string (cutB line1 r7 (line1.size : Int)), .int .i64 r7, .int .i64 ((p20.length : Int) - 1), .int .i64 ((p15.length : Int) - q1.From), .int .i64 (span1 + r7), .int .i64 span2] 36)]]) (cons_eq rfl (cons_eq rfl (cons_eq rfl (cons_eq rfl (cons_eq rfl (cons_eq (eD_miss (fun hD => hn (hcl 4 _ rfl (hcl 5 _ rfl (hcl 32 _ rfl hD 5 dc) 4 dc) 3 dc)) eD_nil) (cons_eq rfl (cons_eq rfl (cons_eq rfl rfl))))))))) ?_
          refine TO.fieldAddr fl_93_0 rfl dc (dl_lookup (m := 2) rfl rfl (hd 2 dc)) (show _ = 0 from rfl) ?_
          exact TX.valG (b8, hd16) 3 (by rfl) (by rfl) rfl (dl_cons_eq (fun _ => rfl) (dl_cons_eq (fun _ => rfl) (dl_cons_eq (fun _ => rfl) (dl_cons_eq (fun _ => rfl) (dl_cons_eq (fun _ => rfl) (dl_cons_eq (fun _ => rfl) (dl_cons_eq (fun _ => rfl) (dl_cons_eq (fun _ => rfl) (dl_cons_eq (fun _ => rfl) (dl_cons_eq (fun _ => rfl) (dl_cons_eq (fun _ => rfl) (dl_cons_eq (fun _ => rfl) (dl_cons_eq (fun _ => rfl) (dl_cons_eq (fun _ => rfl) (dl_cons_eq (fun _ => rfl) (dl_cons_eq (fun _ => rfl) (dl_cons_eq (fun _ => rfl) (dl_cons_eq (fun _ => rfl) (dl_cons_eq (fun _ => rfl) (dl_cons_eq (fun _ => rfl) (dl_cons_eq (fun _ => rfl) (dl_cons_eq (fun _ => rfl) (dl_cons_eq (fun _ => rfl) (dl_cons_eq (fun _ => rfl) (dl_cons_eq (fun _ => rfl) (dl_cons_eq (fun _ => rfl) (dl_cons_eq (fun _ => rfl) (dl_cons_eq (fun _ => rfl) (dl_cons_eq (fun _ => rfl) (dl_cons_eq (fun _ => rfl) (dl_cons_eq (fun _ => rfl) (dl_cons_eq (fun _ => rfl) (dl_cons_eq (fun _ => rfl) rfl))))))))))))))))))))))))))))))))) (cons_eq rfl (cons_eq rfl (cons_eq rfl (cons_eq rfl (cons_eq rfl (cons_eq ((eD_skip (by rfl)).trans (eD_miss (fun hD => hn (hcl 4 _ rfl (hcl 5 _ rfl (hcl 32 _ rfl hD 5 dc) 4 dc) 3 dc)) eD_nil)) (cons_eq rfl (cons_eq rfl (cons_eq ((eD_skip (by rfl)).trans rfl) rfl)))))))))
         ·
          intro D b hn hd hcl
          obtain ⟨b8, hd16⟩ := b
          refine TO.rewL (L' := [cells b1 [.int .i64 0, .int .i64 0] 26, cells b4 [.string p4.text, hd3.v, hd4.v] 128, vec enc_Gapi_Place 130 5 hd3.v p4.places, vec enc_Gplace_ended 132 4 hd4.v p4.lines, cells b3 [.string p14, hd10.v, hd14.v, .string text1] 93, vec enc_Gapi_Verse 36 6 hd10.v p15, vec enc_Gapi_Span 34 2 hd14.v p20, cells b5 [.int .i64 span1, .int .i64 span2] 34, eD D emp [(31, cells b8 [.string (cutB line1 r7 (line1.size : Int)), .int .i64 r7, .int .i64 ((p20.length : Int) - 1), .int .i64 ((p15.length : Int) - q1.From), .int .i64 (span1 + r7), .int .i64 span2] 36)]]) (cons_eq rfl (cons_eq rfl (cons_eq rfl (cons_eq rfl (cons_eq rfl (cons_eq (eD_miss (fun hD => hn (hcl 5 _ rfl (hcl 32 _ rfl hD 5 dc) 4 dc)) eD_nil) (cons_eq rfl (cons_eq rfl (cons_eq rfl rfl))))))))) ?_
          refine TO.fieldAddr fl_91_1 rfl dc (dl_lookup (m := 3) rfl rfl (hd 3 dc)) (show _ = 1 from rfl) ?_
          exact TX.valG (b8, hd16) 4 (by rfl) (by rfl) rfl (dl_cons_eq (fun _ => rfl) (dl_cons_eq (fun _ => rfl) (dl_cons_eq (fun _ => rfl) (dl_cons_eq (fun _ => rfl) (dl_cons_eq (fun _ => rfl) (dl_cons_eq (fun _ => rfl) (dl_cons_eq (fun _ => rfl) (dl_cons_eq (fun _ => rfl) (dl_cons_eq (fun _ => rfl) (dl_cons_eq (fun _ => rfl) (dl_cons_eq (fun _ => rfl) (dl_cons_eq (fun _ => rfl) (dl_cons_eq (fun _ => rfl) (dl_cons_eq (fun _ => rfl) (dl_cons_eq (fun _ => rfl) (dl_cons_eq (fun _ => rfl) (dl_cons_eq (fun _ => rfl) (dl_cons_eq (fun _ => rfl) (dl_cons_eq (fun _ => rfl) (dl_cons_eq (fun _ => rfl) (dl_cons_eq (fun _ => rfl) (dl_cons_eq (fun _ => rfl) (dl_cons_eq (fun _ => rfl) (dl_cons_eq (fun _ => rfl) (dl_cons_eq (fun _ => rfl) (dl_cons_eq (fun _ => rfl) (dl_cons_eq (fun _ => rfl) (dl_cons_eq (fun _ => rfl) (dl_cons_eq (fun _ => rfl) (dl_cons_eq (fun _ => rfl) (dl_cons_eq (fun _ => rfl) (dl_cons_eq (fun _ => rfl) (dl_cons_eq (fun _ => rfl) rfl))))))))))))))))))))))))))))))))) (cons_eq rfl (cons_eq rfl (cons_eq rfl (cons_eq rfl (cons_eq rfl (cons_eq ((eD_skip (by rfl)).trans (eD_miss (fun hD => hn (hcl 5 _ rfl (hcl 32 _ rfl hD 5 dc) 4 dc)) eD_nil)) (cons_eq rfl (cons_eq rfl (cons_eq ((eD_skip (by rfl)).trans rfl) rfl)))))))))
         ·
          intro D b hn hd hcl
          obtain ⟨b8, hd16⟩ := b
          refine TO.rewL (L' := [cells b1 [.int .i64 0, .int .i64 0] 26, cells b4 [.string p4.text, hd3.v, hd4.v] 128, vec enc_Gapi_Place 130 5 hd3.v p4.places, vec enc_Gplace_ended 132 4 hd4.v p4.lines, cells b3 [.string p14, hd10.v, hd14.v, .string text1] 93, vec enc_Gapi_Verse 36 6 hd10.v p15, vec enc_Gapi_Span 34 2 hd14.v p20, cells b5 [.int .i64 span1, .int .i64 span2] 34, eD D emp [(31, cells b8 [.string (cutB line1 r7 (line1.size : Int)), .int .i64 r7, .int .i64 ((p20.length : Int) - 1), .int .i64 ((p15.length : Int) - q1.From), .int .i64 (span1 + r7), .int .i64 span2] 36)]]) (cons_eq rfl (cons_eq rfl (cons_eq rfl (cons_eq rfl (cons_eq rfl (cons_eq (eD_miss (fun hD => hn (hcl 32 _ rfl hD 5 dc)) eD_nil) (cons_eq rfl (cons_eq rfl (cons_eq rfl rfl))))))))) ?_
          refine TO.load (k := 4) sc_57 rfl dc (dl_lookup (m := 4) rfl rfl (hd 4 dc)) rfl rfl ?_
          exact TX.valG (b8, hd16) 5 (by rfl) (by rfl) rfl (dl_cons_eq (fun _ => rfl) (dl_cons_eq (fun _ => rfl) (dl_cons_eq (fun _ => rfl) (dl_cons_eq (fun _ => rfl) (dl_cons_eq (fun _ => rfl) (dl_cons_eq (fun _ => rfl) (dl_cons_eq (fun _ => rfl) (dl_cons_eq (fun _ => rfl) (dl_cons_eq (fun _ => rfl) (dl_cons_eq (fun _ => rfl) (dl_cons_eq (fun _ => rfl) (dl_cons_eq (fun _ => rfl) (dl_cons_eq (fun _ => rfl) (dl_cons_eq (fun _ => rfl) (dl_cons_eq (fun _ => rfl) (dl_cons_eq (fun _ => rfl) (dl_cons_eq (fun _ => rfl) (dl_cons_eq (fun _ => rfl) (dl_cons_eq (fun _ => rfl) (dl_cons_eq (fun _ => rfl) (dl_cons_eq (fun _ => rfl) (dl_cons_eq (fun _ => rfl) (dl_cons_eq (fun _ => rfl) (dl_cons_eq (fun _ => rfl) (dl_cons_eq (fun _ => rfl) (dl_cons_eq (fun _ => rfl) (dl_cons_eq (fun _ => rfl) (dl_cons_eq (fun _ => rfl) (dl_cons_eq (fun _ => rfl) (dl_cons_eq (fun _ => rfl) (dl_cons_eq (fun _ => rfl) (dl_cons_eq (fun _ => rfl) (dl_cons_eq (fun _ => rfl) rfl))))))))))))))))))))))))))))))))) (cons_eq rfl (cons_eq rfl (cons_eq rfl (cons_eq rfl (cons_eq rfl (cons_eq ((eD_skip (by rfl)).trans (eD_miss (fun hD => hn (hcl 32 _ rfl hD 5 dc)) eD_nil)) (cons_eq rfl (cons_eq rfl (cons_eq ((eD_skip (by rfl)).trans rfl) rfl)))))))))
         ·
          intro D b hn hd hcl
          obtain ⟨b8, hd16⟩ := b
          refine TO.rewL (L' := [cells b1 [.int .i64 0, .int .i64 0] 26, cells b4 [.string p4.text, hd3.v, hd4.v] 128, vec enc_Gapi_Place 130 5 hd3.v p4.places, vec enc_Gplace_ended 132 4 hd4.v p4.lines, cells b3 [.string p14, hd10.v, hd14.v, .string text1] 93, vec enc_Gapi_Verse 36 6 hd10.v p15, vec enc_Gapi_Span 34 2 hd14.v p20, cells b5 [.int .i64 span1, .int .i64 span2] 34, emp]) (cons_eq rfl (cons_eq rfl (cons_eq rfl (cons_eq rfl (cons_eq rfl (cons_eq (eD_miss (fun hD => hn (hcl 8 _ rfl (hcl 30 _ rfl (hcl 31 _ rfl (hcl 32 _ rfl hD 31 dc) 30 dc) 8 dc) 6 dc)) eD_nil) (cons_eq rfl (cons_eq rfl (cons_eq (eD_miss (fun hD => hn (hcl 8 _ rfl (hcl 30 _ rfl (hcl 31 _ rfl hD 30 dc) 8 dc) 6 dc)) eD_nil) rfl))))))))) ?_
          refine TO.move rfl dc (dl_old (by rfl) rfl) ?_
          exact TX.valG (b8, hd16) 6 (by rfl) (by rfl) rfl (dl_cons_eq (fun _ => rfl) (dl_cons_eq (fun _ => rfl) (dl_cons_eq (fun _ => rfl) (dl_cons_eq (fun _ => rfl) (dl_cons_eq (fun _ => rfl) (dl_cons_eq (fun _ => rfl) (dl_cons_eq (fun _ => rfl) (dl_cons_eq (fun _ => rfl) (dl_cons_eq (fun _ => rfl) (dl_cons_eq (fun _ => rfl) (dl_cons_eq (fun _ => rfl) (dl_cons_eq (fun _ => rfl) (dl_cons_eq (fun _ => rfl) (dl_cons_eq (fun _ => rfl) (dl_cons_eq (fun _ => rfl) (dl_cons_eq (fun _ => rfl) (dl_cons_eq (fun _ => rfl) (dl_cons_eq (fun _ => rfl) (dl_cons_eq (fun _ => rfl) (dl_cons_eq (fun _ => rfl) (dl_cons_eq (fun _ => rfl) (dl_cons_eq (fun _ => rfl) (dl_cons_eq (fun _ => rfl) (dl_cons_eq (fun _ => rfl) (dl_cons_eq (fun _ => rfl) (dl_cons_eq (fun _ => rfl) (dl_cons_eq (fun _ => rfl) (dl_cons_eq (fun _ => rfl) (dl_cons_eq (fun _ => rfl) (dl_cons_eq (fun _ => rfl) (dl_cons_eq (fun _ => rfl) (dl_cons_eq (fun _ => rfl) (dl_cons_eq (fun _ => rfl) rfl))))))))))))))))))))))))))))))))) (cons_eq rfl (cons_eq rfl (cons_eq rfl (cons_eq rfl (cons_eq rfl (cons_eq ((eD_skip (by rfl)).trans (eD_miss (fun hD => hn (hcl 8 _ rfl (hcl 30 _ rfl (hcl 31 _ rfl (hcl 32 _ rfl hD 31 dc) 30 dc) 8 dc) 6 dc)) eD_nil)) (cons_eq rfl (cons_eq rfl (cons_eq ((eD_skip (by rfl)).trans (eD_miss (fun hD => hn (hcl 8 _ rfl (hcl 30 _ rfl (hcl 31 _ rfl hD 30 dc) 8 dc) 6 dc)) eD_nil)) rfl)))))))))
         ·
          intro D b hn hd hcl
          obtain ⟨b8, hd16⟩ := b
          refine TO.rewL (L' := [cells b1 [.int .i64 0, .int .i64 0] 26, cells b4 [.string p4.text, hd3.v, hd4.v] 128, vec enc_Gapi_Place 130 5 hd3.v p4.places, vec enc_Gplace_ended 132 4 hd4.v p4.lines, cells b3 [.string p14, hd10.v, hd14.v, .string text1] 93, vec enc_Gapi_Verse 36 6 hd10.v p15, vec enc_Gapi_Span 34 2 hd14.v p20, cells b5 [.int .i64 span1, .int .i64 span2] 34, emp]) (cons_eq rfl (cons_eq rfl (cons_eq rfl (cons_eq rfl (cons_eq rfl (cons_eq (eD_miss (fun hD => hn (hcl 8 _ rfl (hcl 30 _ rfl (hcl 31 _ rfl (hcl 32 _ rfl hD 31 dc) 30 dc) 8 dc) 7 dc)) eD_nil) (cons_eq rfl (cons_eq rfl (cons_eq (eD_miss (fun hD => hn (hcl 8 _ rfl (hcl 30 _ rfl (hcl 31 _ rfl hD 30 dc) 8 dc) 7 dc)) eD_nil) rfl))))))))) ?_
          refine TO.move rfl dc (dl_old (by rfl) rfl) ?_
          exact TX.valG (b8, hd16) 7 (by rfl) (by rfl) rfl (dl_cons_eq (fun _ => rfl) (dl_cons_eq (fun _ => rfl) (dl_cons_eq (fun _ => rfl) (dl_cons_eq (fun _ => rfl) (dl_cons_eq (fun _ => rfl) (dl_cons_eq (fun _ => rfl) (dl_cons_eq (fun _ => rfl) (dl_cons_eq (fun _ => rfl) (dl_cons_eq (fun _ => rfl) (dl_cons_eq (fun _ => rfl) (dl_cons_eq (fun _ => rfl) (dl_cons_eq (fun _ => rfl) (dl_cons_eq (fun _ => rfl) (dl_cons_eq (fun _ => rfl) (dl_cons_eq (fun _ => rfl) (dl_cons_eq (fun _ => rfl) (dl_cons_eq (fun _ => rfl) (dl_cons_eq (fun _ => rfl) (dl_cons_eq (fun _ => rfl) (dl_cons_eq (fun _ => rfl) (dl_cons_eq (fun _ => rfl) (dl_cons_eq (fun _ => rfl) (dl_cons_eq (fun _ => rfl) (dl_cons_eq (fun _ => rfl) (dl_cons_eq (fun _ => rfl) (dl_cons_eq (fun _ => rfl) (dl_cons_eq (fun _ => rfl) (dl_cons_eq (fun _ => rfl) (dl_cons_eq (fun _ => rfl) (dl_cons_eq (fun _ => rfl) (dl_cons_eq (fun _ => rfl) (dl_cons_eq (fun _ => rfl) (dl_cons_eq (fun _ => rfl) rfl))))))))))))))))))))))))))))))))) (cons_eq rfl (cons_eq rfl (cons_eq rfl (cons_eq rfl (cons_eq rfl (cons_eq ((eD_skip (by rfl)).trans (eD_miss (fun hD => hn (hcl 8 _ rfl (hcl 30 _ rfl (hcl 31 _ rfl (hcl 32 _ rfl hD 31 dc) 30 dc) 8 dc) 7 dc)) eD_nil)) (cons_eq rfl (cons_eq rfl (cons_eq ((eD_skip (by rfl)).trans (eD_miss (fun hD => hn (hcl 8 _ rfl (hcl 30 _ rfl (hcl 31 _ rfl hD 30 dc) 8 dc) 7 dc)) eD_nil)) rfl)))))))))
         ·
          intro D b hn hd hcl
          obtain ⟨b8, hd16⟩ := b
          refine TO.rewL (L' := [cells b1 [.int .i64 0, .int .i64 0] 26, cells b4 [.string p4.text, hd3.v, hd4.v] 128, vec enc_Gapi_Place 130 5 hd3.v p4.places, vec enc_Gplace_ended 132 4 hd4.v p4.lines, cells b3 [.string p14, hd10.v, hd14.v, .string text1] 93, vec enc_Gapi_Verse 36 6 hd10.v p15, vec enc_Gapi_Span 34 2 hd14.v p20, cells b5 [.int .i64 span1, .int .i64 span2] 34, emp]) (cons_eq rfl (cons_eq rfl (cons_eq rfl (cons_eq rfl (cons_eq rfl (cons_eq (eD_miss (fun hD => hn (hcl 30 _ rfl (hcl 31 _ rfl (hcl 32 _ rfl hD 31 dc) 30 dc) 8 dc)) eD_nil) (cons_eq rfl (cons_eq rfl (cons_eq (eD_miss (fun hD => hn (hcl 30 _ rfl (hcl 31 _ rfl hD 30 dc) 8 dc)) eD_nil) rfl))))))))) ?_
          refine TO.slice rfl dc (dl_lookup (m := 6) rfl rfl (hd 6 dc)) (evO.some (dl_lookup (m := 7) rfl rfl (hd 7 dc))) evO.none (slice_stringI (i := r7) (j := (line1.size : Int)) Tryd.underlying9 (.inr rfl) (.inl ⟨rfl, rfl⟩) hg6) ?_
          exact TX.valG (b8, hd16) 8 (by rfl) (by rfl) rfl (dl_cons_eq (fun _ => rfl) (dl_cons_eq (fun _ => rfl) (dl_cons_eq (fun _ => rfl) (dl_cons_eq (fun _ => rfl) (dl_cons_eq (fun _ => rfl) (dl_cons_eq (fun _ => rfl) (dl_cons_eq (fun _ => rfl) (dl_cons_eq (fun _ => rfl) (dl_cons_eq (fun _ => rfl) (dl_cons_eq (fun _ => rfl) (dl_cons_eq (fun _ => rfl) (dl_cons_eq (fun _ => rfl) (dl_cons_eq (fun _ => rfl) (dl_cons_eq (fun _ => rfl) (dl_cons_eq (fun _ => rfl) (dl_cons_eq (fun _ => rfl) (dl_cons_eq (fun _ => rfl) (dl_cons_eq (fun _ => rfl) (dl_cons_eq (fun _ => rfl) (dl_cons_eq (fun _ => rfl) (dl_cons_eq (fun _ => rfl) (dl_cons_eq (fun _ => rfl) (dl_cons_eq (fun _ => rfl) (dl_cons_eq (fun _ => rfl) (dl_cons_eq (fun _ => rfl) (dl_cons_eq (fun _ => rfl) (dl_cons_eq (fun _ => rfl) (dl_cons_eq (fun _ => rfl) (dl_cons_eq (fun _ => rfl) (dl_cons_eq (fun _ => rfl) (dl_cons_eq (fun _ => rfl) (dl_cons_eq (fun _ => rfl) (dl_cons_eq (fun _ => rfl) rfl))))))))))))))))))))))))))))))))) (cons_eq rfl (cons_eq rfl (cons_eq rfl (cons_eq rfl (cons_eq rfl (cons_eq ((eD_skip (by rfl)).trans (eD_miss (fun hD => hn (hcl 30 _ rfl (hcl 31 _ rfl (hcl 32 _ rfl hD 31 dc) 30 dc) 8 dc)) eD_nil)) (cons_eq rfl (cons_eq rfl (cons_eq ((eD_skip (by rfl)).trans (eD_miss (fun hD => hn (hcl 30 _ rfl (hcl 31 _ rfl hD 30 dc) 8 dc)) eD_nil)) rfl)))))))))
         ·
          intro D b hn hd hcl
          obtain ⟨b8, hd16⟩ := b
          refine TO.rewL (L' := [cells b1 [.int .i64 0, .int .i64 0] 26, cells b4 [.string p4.text, hd3.v, hd4.v] 128, vec enc_Gapi_Place 130 5 hd3.v p4.places, vec enc_Gplace_ended 132 4 hd4.v p4.lines, cells b3 [.string p14, hd10.v, hd14.v, .string text1] 93, vec enc_Gapi_Verse 36 6 hd10.v p15, vec enc_Gapi_Span 34 2 hd14.v p20, cells b5 [.int .i64 span1, .int .i64 span2] 34, emp]) (cons_eq rfl (cons_eq rfl (cons_eq rfl (cons_eq rfl (cons_eq rfl (cons_eq (eD_miss (fun hD => hn (hcl 30 _ rfl (hcl 31 _ rfl (hcl 32 _ rfl hD 31 dc) 30 dc) 9 dc)) eD_nil) (cons_eq rfl (cons_eq rfl (cons_eq (eD_miss (fun hD => hn (hcl 30 _ rfl (hcl 31 _ rfl hD 30 dc) 9 dc)) eD_nil) rfl))))))))) ?_
          refine TO.move rfl dc (dl_old (by rfl) rfl) ?_
          exact TX.valG (b8, hd16) 9 (by rfl) (by rfl) rfl (dl_cons_eq (fun _ => rfl) (dl_cons_eq (fun _ => rfl) (dl_cons_eq (fun _ => rfl) (dl_cons_eq (fun _ => rfl) (dl_cons_eq (fun _ => rfl) (dl_cons_eq (fun _ => rfl) (dl_cons_eq (fun _ => rfl) (dl_cons_eq (fun _ => rfl) (dl_cons_eq (fun _ => rfl) (dl_cons_eq (fun _ => rfl) (dl_cons_eq (fun _ => rfl) (dl_cons_eq (fun _ => rfl) (dl_cons_eq (fun _ => rfl) (dl_cons_eq (fun _ => rfl) (dl_cons_eq (fun _ => rfl) (dl_cons_eq (fun _ => rfl) (dl_cons_eq (fun _ => rfl) (dl_cons_eq (fun _ => rfl) (dl_cons_eq (fun _ => rfl) (dl_cons_eq (fun _ => rfl) (dl_cons_eq (fun _ => rfl) (dl_cons_eq (fun _ => rfl) (dl_cons_eq (fun _ => rfl) (dl_cons_eq (fun _ => rfl) (dl_cons_eq (fun _ => rfl) (dl_cons_eq (fun _ => rfl) (dl_cons_eq (fun _ => rfl) (dl_cons_eq (fun _ => rfl) (dl_cons_eq (fun _ => rfl) (dl_cons_eq (fun _ => rfl) (dl_cons_eq (fun _ => rfl) (dl_cons_eq (fun _ => rfl) (dl_cons_eq (fun _ => rfl) rfl))))))))))))))))))))))))))))))))) (cons_eq rfl (cons_eq rfl (cons_eq rfl (cons_eq rfl (cons_eq rfl (cons_eq ((eD_skip (by rfl)).trans (eD_miss (fun hD => hn (hcl 30 _ rfl (hcl 31 _ rfl (hcl 32 _ rfl hD 31 dc) 30 dc) 9 dc)) eD_nil)) (cons_eq rfl (cons_eq rfl (cons_eq ((eD_skip (by rfl)).trans (eD_miss (fun hD => hn (hcl 30 _ rfl (hcl 31 _ rfl hD 30 dc) 9 dc)) eD_nil)) rfl)))))))))
         ·
          intro D b hn hd hcl
          obtain ⟨b8, hd16⟩ := b
          refine TO.rewL (L' := [cells b1 [.int .i64 0, .int .i64 0] 26, cells b4 [.string p4.text, hd3.v, hd4.v] 128, vec enc_Gapi_Place 130 5 hd3.v p4.places, vec enc_Gplace_ended 132 4 hd4.v p4.lines, cells b3 [.string p14, hd10.v, hd14.v, .string text1] 93, vec enc_Gapi_Verse 36 6 hd10.v p15, vec enc_Gapi_Span 34 2 hd14.v p20, cells b5 [.int .i64 span1, .int .i64 span2] 34, emp]) (cons_eq rfl (cons_eq rfl (cons_eq rfl (cons_eq rfl (cons_eq rfl (cons_eq (eD_miss (fun hD => hn (hcl 11 _ rfl (hcl 12 _ rfl (hcl 13 _ rfl (hcl 14 _ rfl (hcl 15 _ rfl (hcl 16 _ rfl (hcl 30 _ rfl (hcl 31 _ rfl (hcl 32 _ rfl hD 31 dc) 30 dc) 16 dc) 15 dc) 14 dc) 13 dc) 12 dc) 11 dc) 10 dc)) eD_nil) (cons_eq rfl (cons_eq rfl (cons_eq (eD_miss (fun hD => hn (hcl 11 _ rfl (hcl 12 _ rfl (hcl 13 _ rfl (hcl 14 _ rfl (hcl 15 _ rfl (hcl 16 _ rfl (hcl 30 _ rfl (hcl 31 _ rfl hD 30 dc) 16 dc) 15 dc) 14 dc) 13 dc) 12 dc) 11 dc) 10 dc)) eD_nil) rfl))))))))) ?_
          refine TO.move rfl dc (dl_old (by rfl) rfl) ?_
          exact TX.valG (b8, hd16) 10 (by rfl) (by rfl) rfl (dl_cons_eq (fun _ => rfl) (dl_cons_eq (fun _ => rfl) (dl_cons_eq (fun _ => rfl) (dl_cons_eq (fun _ => rfl) (dl_cons_eq (fun _ => rfl) (dl_cons_eq (fun _ => rfl) (dl_cons_eq (fun _ => rfl) (dl_cons_eq (fun _ => rfl) (dl_cons_eq (fun _ => rfl) (dl_cons_eq (fun _ => rfl) (dl_cons_eq (fun _ => rfl) (dl_cons_eq (fun _ => rfl) (dl_cons_eq (fun _ => rfl) (dl_cons_eq (fun _ => rfl) (dl_cons_eq (fun _ => rfl) (dl_cons_eq (fun _ => rfl) (dl_cons_eq (fun _ => rfl) (dl_cons_eq (fun _ => rfl) (dl_cons_eq (fun _ => rfl) (dl_cons_eq (fun _ => rfl) (dl_cons_eq (fun _ => rfl) (dl_cons_eq (fun _ => rfl) (dl_cons_eq (fun _ => rfl) (dl_cons_eq (fun _ => rfl) (dl_cons_eq (fun _ => rfl) (dl_cons_eq (fun _ => rfl) (dl_cons_eq (fun _ => rfl) (dl_cons_eq (fun _ => rfl) (dl_cons_eq (fun _ => rfl) (dl_cons_eq (fun _ => rfl) (dl_cons_eq (fun _ => rfl) (dl_cons_eq (fun _ => rfl) (dl_cons_eq (fun _ => rfl) rfl))))))))))))))))))))))))))))))))) (cons_eq rfl (cons_eq rfl (cons_eq rfl (cons_eq rfl (cons_eq rfl (cons_eq ((eD_skip (by rfl)).trans (eD_miss (fun hD => hn (hcl 11 _ rfl (hcl 12 _ rfl (hcl 13 _ rfl (hcl 14 _ rfl (hcl 15 _ rfl (hcl 16 _ rfl (hcl 30 _ rfl (hcl 31 _ rfl (hcl 32 _ rfl hD 31 dc) 30 dc) 16 dc) 15 dc) 14 dc) 13 dc) 12 dc) 11 dc) 10 dc)) eD_nil)) (cons_eq rfl (cons_eq rfl (cons_eq ((eD_skip (by rfl)).trans (eD_miss (fun hD => hn (hcl 11 _ rfl (hcl 12 _ rfl (hcl 13 _ rfl (hcl 14 _ rfl (hcl 15 _ rfl (hcl 16 _ rfl (hcl 30 _ rfl (hcl 31 _ rfl hD 30 dc) 16 dc) 15 dc) 14 dc) 13 dc) 12 dc) 11 dc) 10 dc)) eD_nil)) rfl)))))))))
         ·
          intro D b hn hd hcl
          obtain ⟨b8, hd16⟩ := b
          refine TO.rewL (L' := [cells b1 [.int .i64 0, .int .i64 0] 26, cells b4 [.string p4.text, hd3.v, hd4.v] 128, vec enc_Gapi_Place 130 5 hd3.v p4.places, vec enc_Gplace_ended 132 4 hd4.v p4.lines, cells b3 [.string p14, hd10.v, hd14.v, .string text1] 93, vec enc_Gapi_Verse 36 6 hd10.v p15, vec enc_Gapi_Span 34 2 hd14.v p20, cells b5 [.int .i64 span1, .int .i64 span2] 34, emp]) (cons_eq rfl (cons_eq rfl (cons_eq rfl (cons_eq rfl (cons_eq rfl (cons_eq (eD_miss (fun hD => hn (hcl 12 _ rfl (hcl 13 _ rfl (hcl 14 _ rfl (hcl 15 _ rfl (hcl 16 _ rfl (hcl 30 _ rfl (hcl 31 _ rfl (hcl 32 _ rfl hD 31 dc) 30 dc) 16 dc) 15 dc) 14 dc) 13 dc) 12 dc) 11 dc)) eD_nil) (cons_eq rfl (cons_eq rfl (cons_eq (eD_miss (fun hD => hn (hcl 12 _ rfl (hcl 13 _ rfl (hcl 14 _ rfl (hcl 15 _ rfl (hcl 16 _ rfl (hcl 30 _ rfl (hcl 31 _ rfl hD 30 dc) 16 dc) 15 dc) 14 dc) 13 dc) 12 dc) 11 dc)) eD_nil) rfl))))))))) ?_
          refine TO.nilCheck rfl dc (dl_lookup (m := 10) rfl rfl (hd 10 dc)) ?_
          exact TX.valG (b8, hd16) 11 (by rfl) (by rfl) rfl (dl_cons_eq (fun _ => rfl) (dl_cons_eq (fun _ => rfl) (dl_cons_eq (fun _ => rfl) (dl_cons_eq (fun _ => rfl) (dl_cons_eq (fun _ => rfl) (dl_cons_eq (fun _ => rfl) (dl_cons_eq (fun _ => rfl) (dl_cons_eq (fun _ => rfl) (dl_cons_eq (fun _ => rfl) (dl_cons_eq (fun _ => rfl) (dl_cons_eq (fun _ => rfl) (dl_cons_eq (fun _ => rfl) (dl_cons_eq (fun _ => rfl) (dl_cons_eq (fun _ => rfl) (dl_cons_eq (fun _ => rfl) (dl_cons_eq (fun _ => rfl) (dl_cons_eq (fun _ => rfl) (dl_cons_eq (fun _ => rfl) (dl_cons_eq (fun _ => rfl) (dl_cons_eq (fun _ => rfl) (dl_cons_eq (fun _ => rfl) (dl_cons_eq (fun _ => rfl) (dl_cons_eq (fun _ => rfl) (dl_cons_eq (fun _ => rfl) (dl_cons_eq (fun _ => rfl) (dl_cons_eq (fun _ => rfl) (dl_cons_eq (fun _ => rfl) (dl_cons_eq (fun _ => rfl) (dl_cons_eq (fun _ => rfl) (dl_cons_eq (fun _ => rfl) (dl_cons_eq (fun _ => rfl) (dl_cons_eq (fun _ => rfl) (dl_cons_eq (fun _ => rfl) rfl))))))))))))))))))))))))))))))))) (cons_eq rfl (cons_eq rfl (cons_eq rfl (cons_eq rfl (cons_eq rfl (cons_eq ((eD_skip (by rfl)).trans (eD_miss (fun hD => hn (hcl 12 _ rfl (hcl 13 _ rfl (hcl 14 _ rfl (hcl 15 _ rfl (hcl 16 _ rfl (hcl 30 _ rfl (hcl 31 _ rfl (hcl 32 _ rfl hD 31 dc) 30 dc) 16 dc) 15 dc) 14 dc) 13 dc) 12 dc) 11 dc)) eD_nil)) (cons_eq rfl (cons_eq rfl (cons_eq ((eD_skip (by rfl)).trans (eD_miss (fun hD => hn (hcl 12 _ rfl (hcl 13 _ rfl (hcl 14 _ rfl (hcl 15 _ rfl (hcl 16 _ rfl (hcl 30 _ rfl (hcl 31 _ rfl hD 30 dc) 16 dc) 15 dc) 14 dc) 13 dc) 12 dc) 11 dc)) eD_nil)) rfl)))))))))
         ·
          intro D b hn hd hcl
          obtain ⟨b8, hd16⟩ := b
          refine TO.rewL (L' := [cells b1 [.int .i64 0, .int .i64 0] 26, cells b4 [.string p4.text, hd3.v, hd4.v] 128, vec enc_Gapi_Place 130 5 hd3.v p4.places, vec enc_Gplace_ended 132 4 hd4.v p4.lines, cells b3 [.string p14, hd10.v, hd14.v, .string text1] 93, vec enc_Gapi_Verse 36 6 hd10.v p15, vec enc_Gapi_Span 34 2 hd14.v p20, cells b5 [.int .i64 span1, .int .i64 span2] 34, emp]) (cons_eq rfl (cons_eq rfl (cons_eq rfl (cons_eq rfl (cons_eq rfl (cons_eq (eD_miss (fun hD => hn (hcl 13 _ rfl (hcl 14 _ rfl (hcl 15 _ rfl (hcl 16 _ rfl (hcl 30 _ rfl (hcl 31 _ rfl (hcl 32 _ rfl hD 31 dc) 30 dc) 16 dc) 15 dc) 14 dc) 13 dc) 12 dc)) eD_nil) (cons_eq rfl (cons_eq rfl (cons_eq (eD_miss (fun hD => hn (hcl 13 _ rfl (hcl 14 _ rfl (hcl 15 _ rfl (hcl 16 _ rfl (hcl 30 _ rfl (hcl 31 _ rfl hD 30 dc) 16 dc) 15 dc) 14 dc) 13 dc) 12 dc)) eD_nil) rfl))))))))) ?_
          refine TO.fieldAddr fl_93_0 rfl dc (dl_lookup (m := 11) rfl rfl (hd 11 dc)) (show _ = 0 from rfl) ?_
          exact TX.valG (b8, hd16) 12 (by rfl) (by rfl) rfl (dl_cons_eq (fun _ => rfl) (dl_cons_eq (fun _ => rfl) (dl_cons_eq (fun _ => rfl) (dl_cons_eq (fun _ => rfl) (dl_cons_eq (fun _ => rfl) (dl_cons_eq (fun _ => rfl) (dl_cons_eq (fun _ => rfl) (dl_cons_eq (fun _ => rfl) (dl_cons_eq (fun _ => rfl) (dl_cons_eq (fun _ => rfl) (dl_cons_eq (fun _ => rfl) (dl_cons_eq (fun _ => rfl) (dl_cons_eq (fun _ => rfl) (dl_cons_eq (fun _ => rfl) (dl_cons_eq (fun _ => rfl) (dl_cons_eq (fun _ => rfl) (dl_cons_eq (fun _ => rfl) (dl_cons_eq (fun _ => rfl) (dl_cons_eq (fun _ => rfl) (dl_cons_eq (fun _ => rfl) (dl_cons_eq (fun _ => rfl) (dl_cons_eq (fun _ => rfl) (dl_cons_eq (fun _ => rfl) (dl_cons_eq (fun _ => rfl) (dl_cons_eq (fun _ => rfl) (dl_cons_eq (fun _ => rfl) (dl_cons_eq (fun _ => rfl) (dl_cons_eq (fun _ => rfl) (dl_cons_eq (fun _ => rfl) (dl_cons_eq (fun _ => rfl) (dl_cons_eq (fun _ => rfl) (dl_cons_eq (fun _ => rfl) (dl_cons_eq (fun _ => rfl) rfl))))))))))))))))))))))))))))))))) (cons_eq rfl (cons_eq rfl (cons_eq rfl (cons_eq rfl (cons_eq rfl (cons_eq ((eD_skip (by rfl)).trans (eD_miss (fun hD => hn (hcl 13 _ rfl (hcl 14 _ rfl (hcl 15 _ rfl (hcl 16 _ rfl (hcl 30 _ rfl (hcl 31 _ rfl (hcl 32 _ rfl hD 31 dc) 30 dc) 16 dc) 15 dc) 14 dc) 13 dc) 12 dc)) eD_nil)) (cons_eq rfl (cons_eq rfl (cons_eq ((eD_skip (by rfl)).trans (eD_miss (fun hD => hn (hcl 13 _ rfl (hcl 14 _ rfl (hcl 15 _ rfl (hcl 16 _ rfl (hcl 30 _ rfl (hcl 31 _ rfl hD 30 dc) 16 dc) 15 dc) 14 dc) 13 dc) 12 dc)) eD_nil)) rfl)))))))))
         ·
          intro D b hn hd hcl
          obtain ⟨b8, hd16⟩ := b
          refine TO.rewL (L' := [cells b1 [.int .i64 0, .int .i64 0] 26, cells b4 [.string p4.text, hd3.v, hd4.v] 128, vec enc_Gapi_Place 130 5 hd3.v p4.places, vec enc_Gplace_ended 132 4 hd4.v p4.lines, cells b3 [.string p14, hd10.v, hd14.v, .string text1] 93, vec enc_Gapi_Verse 36 6 hd10.v p15, vec enc_Gapi_Span 34 2 hd14.v p20, cells b5 [.int .i64 span1, .int .i64 span2] 34, emp]) (cons_eq rfl (cons_eq rfl (cons_eq rfl (cons_eq rfl (cons_eq rfl (cons_eq (eD_miss (fun hD => hn (hcl 14 _ rfl (hcl 15 _ rfl (hcl 16 _ rfl (hcl 30 _ rfl (hcl 31 _ rfl (hcl 32 _ rfl hD 31 dc) 30 dc) 16 dc) 15 dc) 14 dc) 13 dc)) eD_nil) (cons_eq rfl (cons_eq rfl (cons_eq (eD_miss (fun hD => hn (hcl 14 _ rfl (hcl 15 _ rfl (hcl 16 _ rfl (hcl 30 _ rfl (hcl 31 _ rfl hD 30 dc) 16 dc) 15 dc) 14 dc) 13 dc)) eD_nil) rfl))))))))) ?_
          refine TO.fieldAddr fl_91_2 rfl dc (dl_lookup (m := 12) rfl rfl (hd 12 dc)) (show _ = 2 from rfl) ?_
          exact TX.valG (b8, hd16) 13 (by rfl) (by rfl) rfl (dl_cons_eq (fun _ => rfl) (dl_cons_eq (fun _ => rfl) (dl_cons_eq (fun _ => rfl) (dl_cons_eq (fun _ => rfl) (dl_cons_eq (fun _ => rfl) (dl_cons_eq (fun _ => rfl) (dl_cons_eq (fun _ => rfl) (dl_cons_eq (fun _ => rfl) (dl_cons_eq (fun _ => rfl) (dl_cons_eq (fun _ => rfl) (dl_cons_eq (fun _ => rfl) (dl_cons_eq (fun _ => rfl) (dl_cons_eq (fun _ => rfl) (dl_cons_eq (fun _ => rfl) (dl_cons_eq (fun _ => rfl) (dl_cons_eq (fun _ => rfl) (dl_cons_eq (fun _ => rfl) (dl_cons_eq (fun _ => rfl) (dl_cons_eq (fun _ => rfl) (dl_cons_eq (fun _ => rfl) (dl_cons_eq (fun _ => rfl) (dl_cons_eq (fun _ => rfl) (dl_cons_eq (fun _ => rfl) (dl_cons_eq (fun _ => rfl) (dl_cons_eq (fun _ => rfl) (dl_cons_eq (fun _ => rfl) (dl_cons_eq (fun _ => rfl) (dl_cons_eq (fun _ => rfl) (dl_cons_eq (fun _ => rfl) (dl_cons_eq (fun _ => rfl) (dl_cons_eq (fun _ => rfl) (dl_cons_eq (fun _ => rfl) (dl_cons_eq (fun _ => rfl) rfl))))))))))))))))))))))))))))))))) (cons_eq rfl (cons_eq rfl (cons_eq rfl (cons_eq rfl (cons_eq rfl (cons_eq ((eD_skip (by rfl)).trans (eD_miss (fun hD => hn (hcl 14 _ rfl (hcl 15 _ rfl (hcl 16 _ rfl (hcl 30 _ rfl (hcl 31 _ rfl (hcl 32 _ rfl hD 31 dc) 30 dc) 16 dc) 15 dc) 14 dc) 13 dc)) eD_nil)) (cons_eq rfl (cons_eq rfl (cons_eq ((eD_skip (by rfl)).trans (eD_miss (fun hD => hn (hcl 14 _ rfl (hcl 15 _ rfl (hcl 16 _ rfl (hcl 30 _ rfl (hcl 31 _ rfl hD 30 dc) 16 dc) 15 dc) 14 dc) 13 dc)) eD_nil)) rfl)))))))))
         ·
          intro D b hn hd hcl
          obtain ⟨b8, hd16⟩ := b
          refine TO.rewL (L' := [cells b1 [.int .i64 0, .int .i64 0] 26, cells b4 [.string p4.text, hd3.v, hd4.v] 128, vec enc_Gapi_Place 130 5 hd3.v p4.places, vec enc_Gplace_ended 132 4 hd4.v p4.lines, cells b3 [.string p14, hd10.v, hd14.v, .string text1] 93, vec enc_Gapi_Verse 36 6 hd10.v p15, vec enc_Gapi_Span 34 2 hd14.v p20, cells b5 [.int .i64 span1, .int .i64 span2] 34, emp]) (cons_eq rfl (cons_eq rfl (cons_eq rfl (cons_eq rfl (cons_eq rfl (cons_eq (eD_miss (fun hD => hn (hcl 15 _ rfl (hcl 16 _ rfl (hcl 30 _ rfl (hcl 31 _ rfl (hcl 32 _ rfl hD 31 dc) 30 dc) 16 dc) 15 dc) 14 dc)) eD_nil) (cons_eq rfl (cons_eq rfl (cons_eq (eD_miss (fun hD => hn (hcl 15 _ rfl (hcl 16 _ rfl (hcl 30 _ rfl (hcl 31 _ rfl hD 30 dc) 16 dc) 15 dc) 14 dc)) eD_nil) rfl))))))))) ?_
          refine TO.load (k := 4) sc_89 rfl dc (dl_lookup (m := 13) rfl rfl (hd 13 dc)) rfl rfl ?_
          exact TX.valG (b8, hd16) 14 (by rfl) (by rfl) rfl (dl_cons_eq (fun _ => rfl) (dl_cons_eq (fun _ => rfl) (dl_cons_eq (fun _ => rfl) (dl_cons_eq (fun _ => rfl) (dl_cons_eq (fun _ => rfl) (dl_cons_eq (fun _ => rfl) (dl_cons_eq (fun _ => rfl) (dl_cons_eq (fun _ => rfl) (dl_cons_eq (fun _ => rfl) (dl_cons_eq (fun _ => rfl) (dl_cons_eq (fun _ => rfl) (dl_cons_eq (fun _ => rfl) (dl_cons_eq (fun _ => rfl) (dl_cons_eq (fun _ => rfl) (dl_cons_eq (fun _ => rfl) (dl_cons_eq (fun _ => rfl) (dl_cons_eq (fun _ => rfl) (dl_cons_eq (fun _ => rfl) (dl_cons_eq (fun _ => rfl) (dl_cons_eq (fun _ => rfl) (dl_cons_eq (fun _ => rfl) (dl_cons_eq (fun _ => rfl) (dl_cons_eq (fun _ => rfl) (dl_cons_eq (fun _ => rfl) (dl_cons_eq (fun _ => rfl) (dl_cons_eq (fun _ => rfl) (dl_cons_eq (fun _ => rfl) (dl_cons_eq (fun _ => rfl) (dl_cons_eq (fun _ => rfl) (dl_cons_eq (fun _ => rfl) (dl_cons_eq (fun _ => rfl) (dl_cons_eq (fun _ => rfl) (dl_cons_eq (fun _ => rfl) rfl))))))))))))))))))))))))))))))))) (cons_eq rfl (cons_eq rfl (cons_eq rfl (cons_eq rfl (cons_eq rfl (cons_eq ((eD_skip (by rfl)).trans (eD_miss (fun hD => hn (hcl 15 _ rfl (hcl 16 _ rfl (hcl 30 _ rfl (hcl 31 _ rfl (hcl 32 _ rfl hD 31 dc) 30 dc) 16 dc) 15 dc) 14 dc)) eD_nil)) (cons_eq rfl (cons_eq rfl (cons_eq ((eD_skip (by rfl)).trans (eD_miss (fun hD => hn (hcl 15 _ rfl (hcl 16 _ rfl (hcl 30 _ rfl (hcl 31 _ rfl hD 30 dc) 16 dc) 15 dc) 14 dc)) eD_nil)) rfl)))))))))
         ·
          intro D b hn hd hcl
          obtain ⟨b8, hd16⟩ := b
          refine TO.rewL (L' := [cells b1 [.int .i64 0, .int .i64 0] 26, cells b4 [.string p4.text, hd3.v, hd4.v] 128, vec enc_Gapi_Place 130 5 hd3.v p4.places, vec enc_Gplace_ended 132 4 hd4.v p4.lines, cells b3 [.string p14, hd10.v, hd14.v, .string text1] 93, vec enc_Gapi_Verse 36 6 hd10.v p15, vec enc_Gapi_Span 34 2 hd14.v p20, cells b5 [.int .i64 span1, .int .i64 span2] 34, emp]) (cons_eq rfl (cons_eq rfl (cons_eq rfl (cons_eq rfl (cons_eq rfl (cons_eq (eD_miss (fun hD => hn (hcl 16 _ rfl (hcl 30 _ rfl (hcl 31 _ rfl (hcl 32 _ rfl hD 31 dc) 30 dc) 16 dc) 15 dc)) eD_nil) (cons_eq rfl (cons_eq rfl (cons_eq (eD_miss (fun hD => hn (hcl 16 _ rfl (hcl 30 _ rfl (hcl 31 _ rfl hD 30 dc) 16 dc) 15 dc)) eD_nil) rfl))))))))) ?_
          refine TO.lenVec (k := 6) rfl dc (dl_lookup (m := 14) rfl rfl (hd 14 dc)) rfl Tryd.underlying89 ?_
          exact TX.valG (b8, hd16) 15 (by rfl) (by rfl) rfl (dl_cons_eq (fun _ => rfl) (dl_cons_eq (fun _ => rfl) (dl_cons_eq (fun _ => rfl) (dl_cons_eq (fun _ => rfl) (dl_cons_eq (fun _ => rfl) (dl_cons_eq (fun _ => rfl) (dl_cons_eq (fun _ => rfl) (dl_cons_eq (fun _ => rfl) (dl_cons_eq (fun _ => rfl) (dl_cons_eq (fun _ => rfl) (dl_cons_eq (fun _ => rfl) (dl_cons_eq (fun _ => rfl) (dl_cons_eq (fun _ => rfl) (dl_cons_eq (fun _ => rfl) (dl_cons_eq (fun _ => rfl) (dl_cons_eq (fun _ => rfl) (dl_cons_eq (fun _ => rfl) (dl_cons_eq (fun _ => rfl) (dl_cons_eq (fun _ => rfl) (dl_cons_eq (fun _ => rfl) (dl_cons_eq (fun _ => rfl) (dl_cons_eq (fun _ => rfl) (dl_cons_eq (fun _ => rfl) (dl_cons_eq (fun _ => rfl) (dl_cons_eq (fun _ => rfl) (dl_cons_eq (fun _ => rfl) (dl_cons_eq (fun _ => rfl) (dl_cons_eq (fun _ => rfl) (dl_cons_eq (fun _ => rfl) (dl_cons_eq (fun _ => rfl) (dl_cons_eq (fun _ => rfl) (dl_cons_eq (fun _ => rfl) (dl_cons_eq (fun _ => rfl) rfl))))))))))))))))))))))))))))))))) (cons_eq rfl (cons_eq rfl (cons_eq rfl (cons_eq rfl (cons_eq rfl (cons_eq ((eD_skip (by rfl)).trans (eD_miss (fun hD => hn (hcl 16 _ rfl (hcl 30 _ rfl (hcl 31 _ rfl (hcl 32 _ rfl hD 31 dc) 30 dc) 16 dc) 15 dc)) eD_nil)) (cons_eq rfl (cons_eq rfl (cons_eq ((eD_skip (by rfl)).trans (eD_miss (fun hD => hn (hcl 16 _ rfl (hcl 30 _ rfl (hcl 31 _ rfl hD 30 dc) 16 dc) 15 dc)) eD_nil)) rfl)))))))))
         ·
          intro D b hn hd hcl
          obtain ⟨b8, hd16⟩ := b
          refine TO.rewL (L' := [cells b1 [.int .i64 0, .int .i64 0] 26, cells b4 [.string p4.text, hd3.v, hd4.v] 128, vec enc_Gapi_Place 130 5 hd3.v p4.places, vec enc_Gplace_ended 132 4 hd4.v p4.lines, cells b3 [.string p14, hd10.v, hd14.v, .string text1] 93, vec enc_Gapi_Verse 36 6 hd10.v p15, vec enc_Gapi_Span 34 2 hd14.v p20, cells b5 [.int .i64 span1, .int .i64 span2] 34, emp]) (cons_eq rfl (cons_eq rfl (cons_eq rfl (cons_eq rfl (cons_eq rfl (cons_eq (eD_miss (fun hD => hn (hcl 30 _ rfl (hcl 31 _ rfl (hcl 32 _ rfl hD 31 dc) 30 dc) 16 dc)) eD_nil) (cons_eq rfl (cons_eq rfl (cons_eq (eD_miss (fun hD => hn (hcl 30 _ rfl (hcl 31 _ rfl hD 30 dc) 16 dc)) eD_nil) rfl))))))))) ?_
          refine TO.bin rfl dc (dl_lookup (m := 15) rfl rfl (hd 15 dc)) rfl (bin_sub (r := (p20.length : Int) - 1) (IntWalk.i64_in _ hg7)) ?_
          exact TX.valG (b8, hd16) 16 (by rfl) (by rfl) rfl (dl_cons_eq (fun _ => rfl) (dl_cons_eq (fun _ => rfl) (dl_cons_eq (fun _ => rfl) (dl_cons_eq (fun _ => rfl) (dl_cons_eq (fun _ => rfl) (dl_cons_eq (fun _ => rfl) (dl_cons_eq (fun _ => rfl) (dl_cons_eq (fun _ => rfl) (dl_cons_eq (fun _ => rfl) (dl_cons_eq (fun _ => rfl) (dl_cons_eq (fun _ => rfl) (dl_cons_eq (fun _ => rfl) (dl_cons_eq (fun _ => rfl) (dl_cons_eq (fun _ => rfl) (dl_cons_eq (fun _ => rfl) (dl_cons_eq (fun _ => rfl) (dl_cons_eq (fun _ => rfl) (dl_cons_eq (fun _ => rfl) (dl_cons_eq (fun _ => rfl) (dl_cons_eq (fun _ => rfl) (dl_cons_eq (fun _ => rfl) (dl_cons_eq (fun _ => rfl) (dl_cons_eq (fun _ => rfl) (dl_cons_eq (fun _ => rfl) (dl_cons_eq (fun _ => rfl) (dl_cons_eq (fun _ => rfl) (dl_cons_eq (fun _ => rfl) (dl_cons_eq (fun _ => rfl) (dl_cons_eq (fun _ => rfl) (dl_cons_eq (fun _ => rfl) (dl_cons_eq (fun _ => rfl) (dl_cons_eq (fun _ => rfl) (dl_cons_eq (fun _ => rfl) rfl))))))))))))))))))))))))))))))))) (cons_eq rfl (cons_eq rfl (cons_eq rfl (cons_eq rfl (cons_eq rfl (cons_eq ((eD_skip (by rfl)).trans (eD_miss (fun hD => hn (hcl 30 _ rfl (hcl 31 _ rfl (hcl 32 _ rfl hD 31 dc) 30 dc) 16 dc)) eD_nil)) (cons_eq rfl (cons_eq rfl (cons_eq ((eD_skip (by rfl)).trans (eD_miss (fun hD => hn (hcl 30 _ rfl (hcl 31 _ rfl hD 30 dc) 16 dc)) eD_nil)) rfl)))))))))
         ·
          intro D b hn hd hcl
          obtain ⟨b8, hd16⟩ := b
          refine TO.rewL (L' := [cells b1 [.int .i64 0, .int .i64 0] 26, cells b4 [.string p4.text, hd3.v, hd4.v] 128, vec enc_Gapi_Place 130 5 hd3.v p4.places, vec enc_Gplace_ended 132 4 hd4.v p4.lines, cells b3 [.string p14, hd10.v, hd14.v, .string text1] 93, vec enc_Gapi_Verse 36 6 hd10.v p15, vec enc_Gapi_Span 34 2 hd14.v p20, cells b5 [.int .i64 span1, .int .i64 span2] 34, emp]) (cons_eq rfl (cons_eq rfl (cons_eq rfl (cons_eq rfl (cons_eq rfl (cons_eq (eD_miss (fun hD => hn (hcl 22 _ rfl (hcl 30 _ rfl (hcl 31 _ rfl (hcl 32 _ rfl hD 31 dc) 30 dc) 22 dc) 17 dc)) eD_nil) (cons_eq rfl (cons_eq rfl (cons_eq (eD_miss (fun hD => hn (hcl 22 _ rfl (hcl 30 _ rfl (hcl 31 _ rfl hD 30 dc) 22 dc) 17 dc)) eD_nil) rfl))))))))) ?_
          refine TO.move rfl dc (dl_old (by rfl) rfl) ?_
          exact TX.valG (b8, hd16) 17 (by rfl) (by rfl) rfl (dl_cons_eq (fun _ => rfl) (dl_cons_eq (fun _ => rfl) (dl_cons_eq (fun _ => rfl) (dl_cons_eq (fun _ => rfl) (dl_cons_eq (fun _ => rfl) (dl_cons_eq (fun _ => rfl) (dl_cons_eq (fun _ => rfl) (dl_cons_eq (fun _ => rfl) (dl_cons_eq (fun _ => rfl) (dl_cons_eq (fun _ => rfl) (dl_cons_eq (fun _ => rfl) (dl_cons_eq (fun _ => rfl) (dl_cons_eq (fun _ => rfl) (dl_cons_eq (fun _ => rfl) (dl_cons_eq (fun _ => rfl) (dl_cons_eq (fun _ => rfl) (dl_cons_eq (fun _ => rfl) (dl_cons_eq (fun _ => rfl) (dl_cons_eq (fun _ => rfl) (dl_cons_eq (fun _ => rfl) (dl_cons_eq (fun _ => rfl) (dl_cons_eq (fun _ => rfl) (dl_cons_eq (fun _ => rfl) (dl_cons_eq (fun _ => rfl) (dl_cons_eq (fun _ => rfl) (dl_cons_eq (fun _ => rfl) (dl_cons_eq (fun _ => rfl) (dl_cons_eq (fun _ => rfl) (dl_cons_eq (fun _ => rfl) (dl_cons_eq (fun _ => rfl) (dl_cons_eq (fun _ => rfl) (dl_cons_eq (fun _ => rfl) (dl_cons_eq (fun _ => rfl) rfl))))))))))))))))))))))))))))))))) (cons_eq rfl (cons_eq rfl (cons_eq rfl (cons_eq rfl (cons_eq rfl (cons_eq ((eD_skip (by rfl)).trans (eD_miss (fun hD => hn (hcl 22 _ rfl (hcl 30 _ rfl (hcl 31 _ rfl (hcl 32 _ rfl hD 31 dc) 30 dc) 22 dc) 17 dc)) eD_nil)) (cons_eq rfl (cons_eq rfl (cons_eq ((eD_skip (by rfl)).trans (eD_miss (fun hD => hn (hcl 22 _ rfl (hcl 30 _ rfl (hcl 31 _ rfl hD 30 dc) 22 dc) 17 dc)) eD_nil)) rfl)))))))))
         ·
          intro D b hn hd hcl
          obtain ⟨b8, hd16⟩ := b
          refine TO.rewL (L' := [cells b1 [.int .i64 0, .int .i64 0] 26, cells b4 [.string p4.text, hd3.v, hd4.v] 128, vec enc_Gapi_Place 130 5 hd3.v p4.places, vec enc_Gplace_ended 132 4 hd4.v p4.lines, cells b3 [.string p14, hd10.v, hd14.v, .string text1] 93, vec enc_Gapi_Verse 36 6 hd10.v p15, vec enc_Gapi_Span 34 2 hd14.v p20, cells b5 [.int .i64 span1, .int .i64 span2] 34, emp]) (cons_eq rfl (cons_eq rfl (cons_eq rfl (cons_eq rfl (cons_eq rfl (cons_eq (eD_miss (fun hD => hn (hcl 19 _ rfl (hcl 20 _ rfl (hcl 21 _ rfl (hcl 22 _ rfl (hcl 30 _ rfl (hcl 31 _ rfl (hcl 32 _ rfl hD 31 dc) 30 dc) 22 dc) 21 dc) 20 dc) 19 dc) 18 dc)) eD_nil) (cons_eq rfl (cons_eq rfl (cons_eq (eD_miss (fun hD => hn (hcl 19 _ rfl (hcl 20 _ rfl (hcl 21 _ rfl (hcl 22 _ rfl (hcl 30 _ rfl (hcl 31 _ rfl hD 30 dc) 22 dc) 21 dc) 20 dc) 19 dc) 18 dc)) eD_nil) rfl))))))))) ?_
          refine TO.move rfl dc (dl_old (by rfl) rfl) ?_
          exact TX.valG (b8, hd16) 18 (by rfl) (by rfl) rfl (dl_cons_eq (fun _ => rfl) (dl_cons_eq (fun _ => rfl) (dl_cons_eq (fun _ => rfl) (dl_cons_eq (fun _ => rfl) (dl_cons_eq (fun _ => rfl) (dl_cons_eq (fun _ => rfl) (dl_cons_eq (fun _ => rfl) (dl_cons_eq (fun _ => rfl) (dl_cons_eq (fun _ => rfl) (dl_cons_eq (fun _ => rfl) (dl_cons_eq (fun _ => rfl) (dl_cons_eq (fun _ => rfl) (dl_cons_eq (fun _ => rfl) (dl_cons_eq (fun _ => rfl) (dl_cons_eq (fun _ => rfl) (dl_cons_eq (fun _ => rfl) (dl_cons_eq (fun _ => rfl) (dl_cons_eq (fun _ => rfl) (dl_cons_eq (fun _ => rfl) (dl_cons_eq (fun _ => rfl) (dl_cons_eq (fun _ => rfl) (dl_cons_eq (fun _ => rfl) (dl_cons_eq (fun _ => rfl) (dl_cons_eq (fun _ => rfl) (dl_cons_eq (fun _ => rfl) (dl_cons_eq (fun _ => rfl) (dl_cons_eq (fun _ => rfl) (dl_cons_eq (fun _ => rfl) (dl_cons_eq (fun _ => rfl) (dl_cons_eq (fun _ => rfl) (dl_cons_eq (fun _ => rfl) (dl_cons_eq (fun _ => rfl) (dl_cons_eq (fun _ => rfl) rfl))))))))))))))))))))))))))))))))) (cons_eq rfl (cons_eq rfl (cons_eq rfl (cons_eq rfl (cons_eq rfl (cons_eq ((eD_skip (by rfl)).trans (eD_miss (fun hD => hn (hcl 19 _ rfl (hcl 20 _ rfl (hcl 21 _ rfl (hcl 22 _ rfl (hcl 30 _ rfl (hcl 31 _ rfl (hcl 32 _ rfl hD 31 dc) 30 dc) 22 dc) 21 dc) 20 dc) 19 dc) 18 dc)) eD_nil)) (cons_eq rfl (cons_eq rfl (cons_eq ((eD_skip (by rfl)).trans (eD_miss (fun hD => hn (hcl 19 _ rfl (hcl 20 _ rfl (hcl 21 _ rfl (hcl 22 _ rfl (hcl 30 _ rfl (hcl 31 _ rfl hD 30 dc) 22 dc) 21 dc) 20 dc) 19 dc) 18 dc)) eD_nil)) rfl)))))))))
         ·
          intro D b hn hd hcl
          obtain ⟨b8, hd16⟩ := b
          refine TO.rewL (L' := [cells b1 [.int .i64 0, .int .i64 0] 26, cells b4 [.string p4.text, hd3.v, hd4.v] 128, vec enc_Gapi_Place 130 5 hd3.v p4.places, vec enc_Gplace_ended 132 4 hd4.v p4.lines, cells b3 [.string p14, hd10.v, hd14.v, .string text1] 93, vec enc_Gapi_Verse 36 6 hd10.v p15, vec enc_Gapi_Span 34 2 hd14.v p20, cells b5 [.int .i64 span1, .int .i64 span2] 34, emp]) (cons_eq rfl (cons_eq rfl (cons_eq rfl (cons_eq rfl (cons_eq rfl (cons_eq (eD_miss (fun hD => hn (hcl 20 _ rfl (hcl 21 _ rfl (hcl 22 _ rfl (hcl 30 _ rfl (hcl 31 _ rfl (hcl 32 _ rfl hD 31 dc) 30 dc) 22 dc) 21 dc) 20 dc) 19 dc)) eD_nil) (cons_eq rfl (cons_eq rfl (cons_eq (eD_miss (fun hD => hn (hcl 20 _ rfl (hcl 21 _ rfl (hcl 22 _ rfl (hcl 30 _ rfl (hcl 31 _ rfl hD 30 dc) 22 dc) 21 dc) 20 dc) 19 dc)) eD_nil) rfl))))))))) ?_
          refine TO.nilCheck rfl dc (dl_lookup (m := 18) rfl rfl (hd 18 dc)) ?_
          exact TX.valG (b8, hd16) 19 (by rfl) (by rfl) rfl (dl_cons_eq (fun _ => rfl) (dl_cons_eq (fun _ => rfl) (dl_cons_eq (fun _ => rfl) (dl_cons_eq (fun _ => rfl) (dl_cons_eq (fun _ => rfl) (dl_cons_eq (fun _ => rfl) (dl_cons_eq (fun _ => rfl) (dl_cons_eq (fun _ => rfl) (dl_cons_eq (fun _ => rfl) (dl_cons_eq (fun _ => rfl) (dl_cons_eq (fun _ => rfl) (dl_cons_eq (fun _ => rfl) (dl_cons_eq (fun _ => rfl) (dl_cons_eq (fun _ => rfl) (dl_cons_eq (fun _ => rfl) (dl_cons_eq (fun _ => rfl) (dl_cons_eq (fun _ => rfl) (dl_cons_eq (fun _ => rfl) (dl_cons_eq (fun _ => rfl) (dl_cons_eq (fun _ => rfl) (dl_cons_eq (fun _ => rfl) (dl_cons_eq (fun _ => rfl) (dl_cons_eq (fun _ => rfl) (dl_cons_eq (fun _ => rfl) (dl_cons_eq (fun _ => rfl) (dl_cons_eq (fun _ => rfl) (dl_cons_eq (fun _ => rfl) (dl_cons_eq (fun _ => rfl) (dl_cons_eq (fun _ => rfl) (dl_cons_eq (fun _ => rfl) (dl_cons_eq (fun _ => rfl) (dl_cons_eq (fun _ => rfl) (dl_cons_eq (fun _ => rfl) rfl))))))))))))))))))))))))))))))))) (cons_eq rfl (cons_eq rfl (cons_eq rfl (cons_eq rfl (cons_eq rfl (cons_eq ((eD_skip (by rfl)).trans (eD_miss (fun hD => hn (hcl 20 _ rfl (hcl 21 _ rfl (hcl 22 _ rfl (hcl 30 _ rfl (hcl 31 _ rfl (hcl 32 _ rfl hD 31 dc) 30 dc) 22 dc) 21 dc) 20 dc) 19 dc)) eD_nil)) (cons_eq rfl (cons_eq rfl (cons_eq ((eD_skip (by rfl)).trans (eD_miss (fun hD => hn (hcl 20 _ rfl (hcl 21 _ rfl (hcl 22 _ rfl (hcl 30 _ rfl (hcl 31 _ rfl hD 30 dc) 22 dc) 21 dc) 20 dc) 19 dc)) eD_nil)) rfl)))))))))
         ·
          intro D b hn hd hcl
          obtain ⟨b8, hd16⟩ := b
          refine TO.rewL (L' := [cells b1 [.int .i64 0, .int .i64 0] 26, cells b4 [.string p4.text, hd3.v, hd4.v] 128, vec enc_Gapi_Place 130 5 hd3.v p4.places, vec enc_Gplace_ended 132 4 hd4.v p4.lines, cells b3 [.string p14, hd10.v, hd14.v, .string text1] 93, vec enc_Gapi_Verse 36 6 hd10.v p15, vec enc_Gapi_Span 34 2 hd14.v p20, cells b5 [.int .i64 span1, .int .i64 span2] 34, emp]) (cons_eq rfl (cons_eq rfl (cons_eq rfl (cons_eq rfl (cons_eq rfl (cons_eq (eD_miss (fun hD => hn (hcl 21 _ rfl (hcl 22 _ rfl (hcl 30 _ rfl (hcl 31 _ rfl (hcl 32 _ rfl hD 31 dc) 30 dc) 22 dc) 21 dc) 20 dc)) eD_nil) (cons_eq rfl (cons_eq rfl (cons_eq (eD_miss (fun hD => hn (hcl 21 _ rfl (hcl 22 _ rfl (hcl 30 _ rfl (hcl 31 _ rfl hD 30 dc) 22 dc) 21 dc) 20 dc)) eD_nil) rfl))))))))) ?_
          refine TO.fieldAddr fl_34_0 rfl dc (dl_lookup (m := 19) rfl rfl (hd 19 dc)) (show _ = (((p20.length : Int) - 1 : Int).toNat) * 2 from rfl) ?_
          exact TX.valG (b8, hd16) 20 (by rfl) (by rfl) rfl (dl_cons_eq (fun _ => rfl) (dl_cons_eq (fun _ => rfl) (dl_cons_eq (fun _ => rfl) (dl_cons_eq (fun _ => rfl) (dl_cons_eq (fun _ => rfl) (dl_cons_eq (fun _ => rfl) (dl_cons_eq (fun _ => rfl) (dl_cons_eq (fun _ => rfl) (dl_cons_eq (fun _ => rfl) (dl_cons_eq (fun _ => rfl) (dl_cons_eq (fun _ => rfl) (dl_cons_eq (fun _ => rfl) (dl_cons_eq (fun _ => rfl) (dl_cons_eq (fun _ => rfl) (dl_cons_eq (fun _ => rfl) (dl_cons_eq (fun _ => rfl) (dl_cons_eq (fun _ => rfl) (dl_cons_eq (fun _ => rfl) (dl_cons_eq (fun _ => rfl) (dl_cons_eq (fun _ => rfl) (dl_cons_eq (fun _ => rfl) (dl_cons_eq (fun _ => rfl) (dl_cons_eq (fun _ => rfl) (dl_cons_eq (fun _ => rfl) (dl_cons_eq (fun _ => rfl) (dl_cons_eq (fun _ => rfl) (dl_cons_eq (fun _ => rfl) (dl_cons_eq (fun _ => rfl) (dl_cons_eq (fun _ => rfl) (dl_cons_eq (fun _ => rfl) (dl_cons_eq (fun _ => rfl) (dl_cons_eq (fun _ => rfl) (dl_cons_eq (fun _ => rfl) rfl))))))))))))))))))))))))))))))))) (cons_eq rfl (cons_eq rfl (cons_eq rfl (cons_eq rfl (cons_eq rfl (cons_eq ((eD_skip (by rfl)).trans (eD_miss (fun hD => hn (hcl 21 _ rfl (hcl 22 _ rfl (hcl 30 _ rfl (hcl 31 _ rfl (hcl 32 _ rfl hD 31 dc) 30 dc) 22 dc) 21 dc) 20 dc)) eD_nil)) (cons_eq rfl (cons_eq rfl (cons_eq ((eD_skip (by rfl)).trans (eD_miss (fun hD => hn (hcl 21 _ rfl (hcl 22 _ rfl (hcl 30 _ rfl (hcl 31 _ rfl hD 30 dc) 22 dc) 21 dc) 20 dc)) eD_nil)) rfl)))))))))
         ·
          intro D b hn hd hcl
          obtain ⟨b8, hd16⟩ := b
          refine TO.rewL (L' := [cells b1 [.int .i64 0, .int .i64 0] 26, cells b4 [.string p4.text, hd3.v, hd4.v] 128, vec enc_Gapi_Place 130 5 hd3.v p4.places, vec enc_Gplace_ended 132 4 hd4.v p4.lines, cells b3 [.string p14, hd10.v, hd14.v, .string text1] 93, vec enc_Gapi_Verse 36 6 hd10.v p15, vec enc_Gapi_Span 34 2 hd14.v p20, cells b5 [.int .i64 span1, .int .i64 span2] 34, emp]) (cons_eq rfl (cons_eq rfl (cons_eq rfl (cons_eq rfl (cons_eq rfl (cons_eq (eD_miss (fun hD => hn (hcl 22 _ rfl (hcl 30 _ rfl (hcl 31 _ rfl (hcl 32 _ rfl hD 31 dc) 30 dc) 22 dc) 21 dc)) eD_nil) (cons_eq rfl (cons_eq rfl (cons_eq (eD_miss (fun hD => hn (hcl 22 _ rfl (hcl 30 _ rfl (hcl 31 _ rfl hD 30 dc) 22 dc) 21 dc)) eD_nil) rfl))))))))) ?_
          refine TO.loadVec (i := ((p20.length : Int) - 1 : Int).toNat) (j := 0) (k := 6) (q := q1) sc_3 enc_Gapi_Span_len rfl dc (dl_lookup (m := 20) rfl rfl (hd 20 dc)) rfl (getO_get hq8) rfl dc rfl ?_
          exact TX.valG (b8, hd16) 21 (by rfl) (by rfl) rfl (dl_cons_eq (fun _ => rfl) (dl_cons_eq (fun _ => rfl) (dl_cons_eq (fun _ => rfl) (dl_cons_eq (fun _ => rfl) (dl_cons_eq (fun _ => rfl) (dl_cons_eq (fun _ => rfl) (dl_cons_eq (fun _ => rfl) (dl_cons_eq (fun _ => rfl) (dl_cons_eq (fun _ => rfl) (dl_cons_eq (fun _ => rfl) (dl_cons_eq (fun _ => rfl) (dl_cons_eq (fun _ => rfl) (dl_cons_eq (fun _ => rfl) (dl_cons_eq (fun _ => rfl) (dl_cons_eq (fun _ => rfl) (dl_cons_eq (fun _ => rfl) (dl_cons_eq (fun _ => rfl) (dl_cons_eq (fun _ => rfl) (dl_cons_eq (fun _ => rfl) (dl_cons_eq (fun _ => rfl) (dl_cons_eq (fun _ => rfl) (dl_cons_eq (fun _ => rfl) (dl_cons_eq (fun _ => rfl) (dl_cons_eq (fun _ => rfl) (dl_cons_eq (fun _ => rfl) (dl_cons_eq (fun _ => rfl) (dl_cons_eq (fun _ => rfl) (dl_cons_eq (fun _ => rfl) (dl_cons_eq (fun _ => rfl) (dl_cons_eq (fun _ => rfl) (dl_cons_eq (fun _ => rfl) (dl_cons_eq (fun _ => rfl) (dl_cons_eq (fun _ => rfl) rfl))))))))))))))))))))))))))))))))) (cons_eq rfl (cons_eq rfl (cons_eq rfl (cons_eq rfl (cons_eq rfl (cons_eq ((eD_skip (by rfl)).trans (eD_miss (fun hD => hn (hcl 22 _ rfl (hcl 30 _ rfl (hcl 31 _ rfl (hcl 32 _ rfl hD 31 dc) 30 dc) 22 dc) 21 dc)) eD_nil)) (cons_eq rfl (cons_eq rfl (cons_eq ((eD_skip (by rfl)).trans (eD_miss (fun hD => hn (hcl 22 _ rfl (hcl 30 _ rfl (hcl 31 _ rfl hD 30 dc) 22 dc) 21 dc)) eD_nil)) rfl)))))))))
         ·
          intro D b hn hd hcl
          obtain ⟨b8, hd16⟩ := b
          refine TO.rewL (L' := [cells b1 [.int .i64 0, .int .i64 0] 26, cells b4 [.string p4.text, hd3.v, hd4.v] 128, vec enc_Gapi_Place 130 5 hd3.v p4.places, vec enc_Gplace_ended 132 4 hd4.v p4.lines, cells b3 [.string p14, hd10.v, hd14.v, .string text1] 93, vec enc_Gapi_Verse 36 6 hd10.v p15, vec enc_Gapi_Span 34 2 hd14.v p20, cells b5 [.int .i64 span1, .int .i64 span2] 34, emp]) (cons_eq rfl (cons_eq rfl (cons_eq rfl (cons_eq rfl (cons_eq rfl (cons_eq (eD_miss (fun hD => hn (hcl 30 _ rfl (hcl 31 _ rfl (hcl 32 _ rfl hD 31 dc) 30 dc) 22 dc)) eD_nil) (cons_eq rfl (cons_eq rfl (cons_eq (eD_miss (fun hD => hn (hcl 30 _ rfl (hcl 31 _ rfl hD 30 dc) 22 dc)) eD_nil) rfl))))))))) ?_
          refine TO.bin rfl dc (dl_lookup (m := 17) rfl rfl (hd 17 dc)) (dl_lookup (m := 21) rfl rfl (hd 21 dc)) (bin_sub (r := (p15.length : Int) - q1.From) (IntWalk.i64_in _ hg8)) ?_
          exact TX.valG (b8, hd16) 22 (by rfl) (by rfl) rfl (dl_cons_eq (fun _ => rfl) (dl_cons_eq (fun _ => rfl) (dl_cons_eq (fun _ => rfl) (dl_cons_eq (fun _ => rfl) (dl_cons_eq (fun _ => rfl) (dl_cons_eq (fun _ => rfl) (dl_cons_eq (fun _ => rfl) (dl_cons_eq (fun _ => rfl) (dl_cons_eq (fun _ => rfl) (dl_cons_eq (fun _ => rfl) (dl_cons_eq (fun _ => rfl) (dl_cons_eq (fun _ => rfl) (dl_cons_eq (fun _ => rfl) (dl_cons_eq (fun _ => rfl) (dl_cons_eq (fun _ => rfl) (dl_cons_eq (fun _ => rfl) (dl_cons_eq (fun _ => rfl) (dl_cons_eq (fun _ => rfl) (dl_cons_eq (fun _ => rfl) (dl_cons_eq (fun _ => rfl) (dl_cons_eq (fun _ => rfl) (dl_cons_eq (fun _ => rfl) (dl_cons_eq (fun _ => rfl) (dl_cons_eq (fun _ => rfl) (dl_cons_eq (fun _ => rfl) (dl_cons_eq (fun _ => rfl) (dl_cons_eq (fun _ => rfl) (dl_cons_eq (fun _ => rfl) (dl_cons_eq (fun _ => rfl) (dl_cons_eq (fun _ => rfl) (dl_cons_eq (fun _ => rfl) (dl_cons_eq (fun _ => rfl) (dl_cons_eq (fun _ => rfl) rfl))))))))))))))))))))))))))))))))) (cons_eq rfl (cons_eq rfl (cons_eq rfl (cons_eq rfl (cons_eq rfl (cons_eq ((eD_skip (by rfl)).trans (eD_miss (fun hD => hn (hcl 30 _ rfl (hcl 31 _ rfl (hcl 32 _ rfl hD 31 dc) 30 dc) 22 dc)) eD_nil)) (cons_eq rfl (cons_eq rfl (cons_eq ((eD_skip (by rfl)).trans (eD_miss (fun hD => hn (hcl 30 _ rfl (hcl 31 _ rfl hD 30 dc) 22 dc)) eD_nil)) rfl)))))))))
         ·
          intro D b hn hd hcl
          obtain ⟨b8, hd16⟩ := b
          refine TO.rewL (L' := [cells b1 [.int .i64 0, .int .i64 0] 26, cells b4 [.string p4.text, hd3.v, hd4.v] 128, vec enc_Gapi_Place 130 5 hd3.v p4.places, vec enc_Gplace_ended 132 4 hd4.v p4.lines, cells b3 [.string p14, hd10.v, hd14.v, .string text1] 93, vec enc_Gapi_Verse 36 6 hd10.v p15, vec enc_Gapi_Span 34 2 hd14.v p20, cells b5 [.int .i64 span1, .int .i64 span2] 34, emp]) (cons_eq rfl (cons_eq rfl (cons_eq rfl (cons_eq rfl (cons_eq rfl (cons_eq (eD_miss (fun hD => hn (hcl 24 _ rfl (hcl 26 _ rfl (hcl 29 _ rfl (hcl 30 _ rfl (hcl 31 _ rfl (hcl 32 _ rfl hD 31 dc) 30 dc) 29 dc) 26 dc) 24 dc) 23 dc)) eD_nil) (cons_eq rfl (cons_eq rfl (cons_eq (eD_miss (fun hD => hn (hcl 24 _ rfl (hcl 26 _ rfl (hcl 29 _ rfl (hcl 30 _ rfl (hcl 31 _ rfl hD 30 dc) 29 dc) 26 dc) 24 dc) 23 dc)) eD_nil) rfl))))))))) ?_
          refine TO.fieldAddr fl_34_0 rfl dc (dl_old (by rfl) rfl) (show _ = 0 from rfl) ?_
          exact TX.valG (b8, hd16) 23 (by rfl) (by rfl) rfl (dl_cons_eq (fun _ => rfl) (dl_cons_eq (fun _ => rfl) (dl_cons_eq (fun _ => rfl) (dl_cons_eq (fun _ => rfl) (dl_cons_eq (fun _ => rfl) (dl_cons_eq (fun _ => rfl) (dl_cons_eq (fun _ => rfl) (dl_cons_eq (fun _ => rfl) (dl_cons_eq (fun _ => rfl) (dl_cons_eq (fun _ => rfl) (dl_cons_eq (fun _ => rfl) (dl_cons_eq (fun _ => rfl) (dl_cons_eq (fun _ => rfl) (dl_cons_eq (fun _ => rfl) (dl_cons_eq (fun _ => rfl) (dl_cons_eq (fun _ => rfl) (dl_cons_eq (fun _ => rfl) (dl_cons_eq (fun _ => rfl) (dl_cons_eq (fun _ => rfl) (dl_cons_eq (fun _ => rfl) (dl_cons_eq (fun _ => rfl) (dl_cons_eq (fun _ => rfl) (dl_cons_eq (fun _ => rfl) (dl_cons_eq (fun _ => rfl) (dl_cons_eq (fun _ => rfl) (dl_cons_eq (fun _ => rfl) (dl_cons_eq (fun _ => rfl) (dl_cons_eq (fun _ => rfl) (dl_cons_eq (fun _ => rfl) (dl_cons_eq (fun _ => rfl) (dl_cons_eq (fun _ => rfl) (dl_cons_eq (fun _ => rfl) (dl_cons_eq (fun _ => rfl) rfl))))))))))))))))))))))))))))))))) (cons_eq rfl (cons_eq rfl (cons_eq rfl (cons_eq rfl (cons_eq rfl (cons_eq ((eD_skip (by rfl)).trans (eD_miss (fun hD => hn (hcl 24 _ rfl (hcl 26 _ rfl (hcl 29 _ rfl (hcl 30 _ rfl (hcl 31 _ rfl (hcl 32 _ rfl hD 31 dc) 30 dc) 29 dc) 26 dc) 24 dc) 23 dc)) eD_nil)) (cons_eq rfl (cons_eq rfl (cons_eq ((eD_skip (by rfl)).trans (eD_miss (fun hD => hn (hcl 24 _ rfl (hcl 26 _ rfl (hcl 29 _ rfl (hcl 30 _ rfl (hcl 31 _ rfl hD 30 dc) 29 dc) 26 dc) 24 dc) 23 dc)) eD_nil)) rfl)))))))))
         ·
          intro D b hn hd hcl
          obtain ⟨b8, hd16⟩ := b
          refine TO.rewL (L' := [cells b1 [.int .i64 0, .int .i64 0] 26, cells b4 [.string p4.text, hd3.v, hd4.v] 128, vec enc_Gapi_Place 130 5 hd3.v p4.places, vec enc_Gplace_ended 132 4 hd4.v p4.lines, cells b3 [.string p14, hd10.v, hd14.v, .string text1] 93, vec enc_Gapi_Verse 36 6 hd10.v p15, vec enc_Gapi_Span 34 2 hd14.v p20, cells b5 [.int .i64 span1, .int .i64 span2] 34, emp]) (cons_eq rfl (cons_eq rfl (cons_eq rfl (cons_eq rfl (cons_eq rfl (cons_eq (eD_miss (fun hD => hn (hcl 26 _ rfl (hcl 29 _ rfl (hcl 30 _ rfl (hcl 31 _ rfl (hcl 32 _ rfl hD 31 dc) 30 dc) 29 dc) 26 dc) 24 dc)) eD_nil) (cons_eq rfl (cons_eq rfl (cons_eq (eD_miss (fun hD => hn (hcl 26 _ rfl (hcl 29 _ rfl (hcl 30 _ rfl (hcl 31 _ rfl hD 30 dc) 29 dc) 26 dc) 24 dc)) eD_nil) rfl))))))))) ?_
          refine TO.load (k := 7) sc_3 rfl dc (dl_lookup (m := 23) rfl rfl (hd 23 dc)) rfl rfl ?_
          exact TX.valG (b8, hd16) 24 (by rfl) (by rfl) rfl (dl_cons_eq (fun _ => rfl) (dl_cons_eq (fun _ => rfl) (dl_cons_eq (fun _ => rfl) (dl_cons_eq (fun _ => rfl) (dl_cons_eq (fun _ => rfl) (dl_cons_eq (fun _ => rfl) (dl_cons_eq (fun _ => rfl) (dl_cons_eq (fun _ => rfl) (dl_cons_eq (fun _ => rfl) (dl_cons_eq (fun _ => rfl) (dl_cons_eq (fun _ => rfl) (dl_cons_eq (fun _ => rfl) (dl_cons_eq (fun _ => rfl) (dl_cons_eq (fun _ => rfl) (dl_cons_eq (fun _ => rfl) (dl_cons_eq (fun _ => rfl) (dl_cons_eq (fun _ => rfl) (dl_cons_eq (fun _ => rfl) (dl_cons_eq (fun _ => rfl) (dl_cons_eq (fun _ => rfl) (dl_cons_eq (fun _ => rfl) (dl_cons_eq (fun _ => rfl) (dl_cons_eq (fun _ => rfl) (dl_cons_eq (fun _ => rfl) (dl_cons_eq (fun _ => rfl) (dl_cons_eq (fun _ => rfl) (dl_cons_eq (fun _ => rfl) (dl_cons_eq (fun _ => rfl) (dl_cons_eq (fun _ => rfl) (dl_cons_eq (fun _ => rfl) (dl_cons_eq (fun _ => rfl) (dl_cons_eq (fun _ => rfl) (dl_cons_eq (fun _ => rfl) rfl))))))))))))))))))))))))))))))))) (cons_eq rfl (cons_eq rfl (cons_eq rfl (cons_eq rfl (cons_eq rfl (cons_eq ((eD_skip (by rfl)).trans (eD_miss (fun hD => hn (hcl 26 _ rfl (hcl 29 _ rfl (hcl 30 _ rfl (hcl 31 _ rfl (hcl 32 _ rfl hD 31 dc) 30 dc) 29 dc) 26 dc) 24 dc)) eD_nil)) (cons_eq rfl (cons_eq rfl (cons_eq ((eD_skip (by rfl)).trans (eD_miss (fun hD => hn (hcl 26 _ rfl (hcl 29 _ rfl (hcl 30 _ rfl (hcl 31 _ rfl hD 30 dc) 29 dc) 26 dc) 24 dc)) eD_nil)) rfl)))))))))
         ·
          intro D b hn hd hcl
          obtain ⟨b8, hd16⟩ := b
          refine TO.rewL (L' := [cells b1 [.int .i64 0, .int .i64 0] 26, cells b4 [.string p4.text, hd3.v, hd4.v] 128, vec enc_Gapi_Place 130 5 hd3.v p4.places, vec enc_Gplace_ended 132 4 hd4.v p4.lines, cells b3 [.string p14, hd10.v, hd14.v, .string text1] 93, vec enc_Gapi_Verse 36 6 hd10.v p15, vec enc_Gapi_Span 34 2 hd14.v p20, cells b5 [.int .i64 span1, .int .i64 span2] 34, emp]) (cons_eq rfl (cons_eq rfl (cons_eq rfl (cons_eq rfl (cons_eq rfl (cons_eq (eD_miss (fun hD => hn (hcl 26 _ rfl (hcl 29 _ rfl (hcl 30 _ rfl (hcl 31 _ rfl (hcl 32 _ rfl hD 31 dc) 30 dc) 29 dc) 26 dc) 25 dc)) eD_nil) (cons_eq rfl (cons_eq rfl (cons_eq (eD_miss (fun hD => hn (hcl 26 _ rfl (hcl 29 _ rfl (hcl 30 _ rfl (hcl 31 _ rfl hD 30 dc) 29 dc) 26 dc) 25 dc)) eD_nil) rfl))))))))) ?_
          refine TO.move rfl dc (dl_old (by rfl) rfl) ?_
          exact TX.valG (b8, hd16) 25 (by rfl) (by rfl) rfl (dl_cons_eq (fun _ => rfl) (dl_cons_eq (fun _ => rfl) (dl_cons_eq (fun _ => rfl) (dl_cons_eq (fun _ => rfl) (dl_cons_eq (fun _ => rfl) (dl_cons_eq (fun _ => rfl) (dl_cons_eq (fun _ => rfl) (dl_cons_eq (fun _ => rfl) (dl_cons_eq (fun _ => rfl) (dl_cons_eq (fun _ => rfl) (dl_cons_eq (fun _ => rfl) (dl_cons_eq (fun _ => rfl) (dl_cons_eq (fun _ => rfl) (dl_cons_eq (fun _ => rfl) (dl_cons_eq (fun _ => rfl) (dl_cons_eq (fun _ => rfl) (dl_cons_eq (fun _ => rfl) (dl_cons_eq (fun _ => rfl) (dl_cons_eq (fun _ => rfl) (dl_cons_eq (fun _ => rfl) (dl_cons_eq (fun _ => rfl) (dl_cons_eq (fun _ => rfl) (dl_cons_eq (fun _ => rfl) (dl_cons_eq (fun _ => rfl) (dl_cons_eq (fun _ => rfl) (dl_cons_eq (fun _ => rfl) (dl_cons_eq (fun _ => rfl) (dl_cons_eq (fun _ => rfl) (dl_cons_eq (fun _ => rfl) (dl_cons_eq (fun _ => rfl) (dl_cons_eq (fun _ => rfl) (dl_cons_eq (fun _ => rfl) (dl_cons_eq (fun _ => rfl) rfl))))))))))))))))))))))))))))))))) (cons_eq rfl (cons_eq rfl (cons_eq rfl (cons_eq rfl (cons_eq rfl (cons_eq ((eD_skip (by rfl)).trans (eD_miss (fun hD => hn (hcl 26 _ rfl (hcl 29 _ rfl (hcl 30 _ rfl (hcl 31 _ rfl (hcl 32 _ rfl hD 31 dc) 30 dc) 29 dc) 26 dc) 25 dc)) eD_nil)) (cons_eq rfl (cons_eq rfl (cons_eq ((eD_skip (by rfl)).trans (eD_miss (fun hD => hn (hcl 26 _ rfl (hcl 29 _ rfl (hcl 30 _ rfl (hcl 31 _ rfl hD 30 dc) 29 dc) 26 dc) 25 dc)) eD_nil)) rfl)))))))))
         ·
          intro D b hn hd hcl
          obtain ⟨b8, hd16⟩ := b
          refine TO.rewL (L' := [cells b1 [.int .i64 0, .int .i64 0] 26, cells b4 [.string p4.text, hd3.v, hd4.v] 128, vec enc_Gapi_Place 130 5 hd3.v p4.places, vec enc_Gplace_ended 132 4 hd4.v p4.lines, cells b3 [.string p14, hd10.v, hd14.v, .string text1] 93, vec enc_Gapi_Verse 36 6 hd10.v p15, vec enc_Gapi_Span 34 2 hd14.v p20, cells b5 [.int .i64 span1, .int .i64 span2] 34, emp]) (cons_eq rfl (cons_eq rfl (cons_eq rfl (cons_eq rfl (cons_eq rfl (cons_eq (eD_miss (fun hD => hn (hcl 29 _ rfl (hcl 30 _ rfl (hcl 31 _ rfl (hcl 32 _ rfl hD 31 dc) 30 dc) 29 dc) 26 dc)) eD_nil) (cons_eq rfl (cons_eq rfl (cons_eq (eD_miss (fun hD => hn (hcl 29 _ rfl (hcl 30 _ rfl (hcl 31 _ rfl hD 30 dc) 29 dc) 26 dc)) eD_nil) rfl))))))))) ?_
          refine TO.bin rfl dc (dl_lookup (m := 24) rfl rfl (hd 24 dc)) (dl_lookup (m := 25) rfl rfl (hd 25 dc)) (bin_add (r := span1 + r7) (IntWalk.i64_in _ hg9)) ?_
          exact TX.valG (b8, hd16) 26 (by rfl) (by rfl) rfl (dl_cons_eq (fun _ => rfl) (dl_cons_eq (fun _ => rfl) (dl_cons_eq (fun _ => rfl) (dl_cons_eq (fun _ => rfl) (dl_cons_eq (fun _ => rfl) (dl_cons_eq (fun _ => rfl) (dl_cons_eq (fun _ => rfl) (dl_cons_eq (fun _ => rfl) (dl_cons_eq (fun _ => rfl) (dl_cons_eq (fun _ => rfl) (dl_cons_eq (fun _ => rfl) (dl_cons_eq (fun _ => rfl) (dl_cons_eq (fun _ => rfl) (dl_cons_eq (fun _ => rfl) (dl_cons_eq (fun _ => rfl) (dl_cons_eq (fun _ => rfl) (dl_cons_eq (fun _ => rfl) (dl_cons_eq (fun _ => rfl) (dl_cons_eq (fun _ => rfl) (dl_cons_eq (fun _ => rfl) (dl_cons_eq (fun _ => rfl) (dl_cons_eq (fun _ => rfl) (dl_cons_eq (fun _ => rfl) (dl_cons_eq (fun _ => rfl) (dl_cons_eq (fun _ => rfl) (dl_cons_eq (fun _ => rfl) (dl_cons_eq (fun _ => rfl) (dl_cons_eq (fun _ => rfl) (dl_cons_eq (fun _ => rfl) (dl_cons_eq (fun _ => rfl) (dl_cons_eq (fun _ => rfl) (dl_cons_eq (fun _ => rfl) (dl_cons_eq (fun _ => rfl) rfl))))))))))))))))))))))))))))))))) (cons_eq rfl (cons_eq rfl (cons_eq rfl (cons_eq rfl (cons_eq rfl (cons_eq ((eD_skip (by rfl)).trans (eD_miss (fun hD => hn (hcl 29 _ rfl (hcl 30 _ rfl (hcl 31 _ rfl (hcl 32 _ rfl hD 31 dc) 30 dc) 29 dc) 26 dc)) eD_nil)) (cons_eq rfl (cons_eq rfl (cons_eq ((eD_skip (by rfl)).trans (eD_miss (fun hD => hn (hcl 29 _ rfl (hcl 30 _ rfl (hcl 31 _ rfl hD 30 dc) 29 dc) 26 dc)) eD_nil)) rfl)))))))))
         ·
          intro D b hn hd hcl
          obtain ⟨b8, hd16⟩ := b
          refine TO.rewL (L' := [cells b1 [.int .i64 0, .int .i64 0] 26, cells b4 [.string p4.text, hd3.v, hd4.v] 128, vec enc_Gapi_Place 130 5 hd3.v p4.places, vec enc_Gplace_ended 132 4 hd4.v p4.lines, cells b3 [.string p14, hd10.v, hd14.v, .string text1] 93, vec enc_Gapi_Verse 36 6 hd10.v p15, vec enc_Gapi_Span 34 2 hd14.v p20, cells b5 [.int .i64 span1, .int .i64 span2] 34, emp]) (cons_eq rfl (cons_eq rfl (cons_eq rfl (cons_eq rfl (cons_eq rfl (cons_eq (eD_miss (fun hD => hn (hcl 28 _ rfl (hcl 29 _ rfl (hcl 30 _ rfl (hcl 31 _ rfl (hcl 32 _ rfl hD 31 dc) 30 dc) 29 dc) 28 dc) 27 dc)) eD_nil) (cons_eq rfl (cons_eq rfl (cons_eq (eD_miss (fun hD => hn (hcl 28 _ rfl (hcl 29 _ rfl (hcl 30 _ rfl (hcl 31 _ rfl hD 30 dc) 29 dc) 28 dc) 27 dc)) eD_nil) rfl))))))))) ?_
          refine TO.fieldAddr fl_34_1 rfl dc (dl_old (by rfl) rfl) (show _ = 1 from rfl) ?_
          exact TX.valG (b8, hd16) 27 (by rfl) (by rfl) rfl (dl_cons_eq (fun _ => rfl) (dl_cons_eq (fun _ => rfl) (dl_cons_eq (fun _ => rfl) (dl_cons_eq (fun _ => rfl) (dl_cons_eq (fun _ => rfl) (dl_cons_eq (fun _ => rfl) (dl_cons_eq (fun _ => rfl) (dl_cons_eq (fun _ => rfl) (dl_cons_eq (fun _ => rfl) (dl_cons_eq (fun _ => rfl) (dl_cons_eq (fun _ => rfl) (dl_cons_eq (fun _ => rfl) (dl_cons_eq (fun _ => rfl) (dl_cons_eq (fun _ => rfl) (dl_cons_eq (fun _ => rfl) (dl_cons_eq (fun _ => rfl) (dl_cons_eq (fun _ => rfl) (dl_cons_eq (fun _ => rfl) (dl_cons_eq (fun _ => rfl) (dl_cons_eq (fun _ => rfl) (dl_cons_eq (fun _ => rfl) (dl_cons_eq (fun _ => rfl) (dl_cons_eq (fun _ => rfl) (dl_cons_eq (fun _ => rfl) (dl_cons_eq (fun _ => rfl) (dl_cons_eq (fun _ => rfl) (dl_cons_eq (fun _ => rfl) (dl_cons_eq (fun _ => rfl) (dl_cons_eq (fun _ => rfl) (dl_cons_eq (fun _ => rfl) (dl_cons_eq (fun _ => rfl) (dl_cons_eq (fun _ => rfl) (dl_cons_eq (fun _ => rfl) rfl))))))))))))))))))))))))))))))))) (cons_eq rfl (cons_eq rfl (cons_eq rfl (cons_eq rfl (cons_eq rfl (cons_eq ((eD_skip (by rfl)).trans (eD_miss (fun hD => hn (hcl 28 _ rfl (hcl 29 _ rfl (hcl 30 _ rfl (hcl 31 _ rfl (hcl 32 _ rfl hD 31 dc) 30 dc) 29 dc) 28 dc) 27 dc)) eD_nil)) (cons_eq rfl (cons_eq rfl (cons_eq ((eD_skip (by rfl)).trans (eD_miss (fun hD => hn (hcl 28 _ rfl (hcl 29 _ rfl (hcl 30 _ rfl (hcl 31 _ rfl hD 30 dc) 29 dc) 28 dc) 27 dc)) eD_nil)) rfl)))))))))
         ·
          intro D b hn hd hcl
          obtain ⟨b8, hd16⟩ := b
          refine TO.rewL (L' := [cells b1 [.int .i64 0, .int .i64 0] 26, cells b4 [.string p4.text, hd3.v, hd4.v] 128, vec enc_Gapi_Place 130 5 hd3.v p4.places, vec enc_Gplace_ended 132 4 hd4.v p4.lines, cells b3 [.string p14, hd10.v, hd14.v, .string text1] 93, vec enc_Gapi_Verse 36 6 hd10.v p15, vec enc_Gapi_Span 34 2 hd14.v p20, cells b5 [.int .i64 span1, .int .i64 span2] 34, emp]) (cons_eq rfl (cons_eq rfl (cons_eq rfl (cons_eq rfl (cons_eq rfl (cons_eq (eD_miss (fun hD => hn (hcl 29 _ rfl (hcl 30 _ rfl (hcl 31 _ rfl (hcl 32 _ rfl hD 31 dc) 30 dc) 29 dc) 28 dc)) eD_nil) (cons_eq rfl (cons_eq rfl (cons_eq (eD_miss (fun hD => hn (hcl 29 _ rfl (hcl 30 _ rfl (hcl 31 _ rfl hD 30 dc) 29 dc) 28 dc)) eD_nil) rfl))))))))) ?_
          refine TO.load (k := 7) sc_3 rfl dc (dl_lookup (m := 27) rfl rfl (hd 27 dc)) rfl rfl ?_
          exact TX.valG (b8, hd16) 28 (by rfl) (by rfl) rfl (dl_cons_eq (fun _ => rfl) (dl_cons_eq (fun _ => rfl) (dl_cons_eq (fun _ => rfl) (dl_cons_eq (fun _ => rfl) (dl_cons_eq (fun _ => rfl) (dl_cons_eq (fun _ => rfl) (dl_cons_eq (fun _ => rfl) (dl_cons_eq (fun _ => rfl) (dl_cons_eq (fun _ => rfl) (dl_cons_eq (fun _ => rfl) (dl_cons_eq (fun _ => rfl) (dl_cons_eq (fun _ => rfl) (dl_cons_eq (fun _ => rfl) (dl_cons_eq (fun _ => rfl) (dl_cons_eq (fun _ => rfl) (dl_cons_eq (fun _ => rfl) (dl_cons_eq (fun _ => rfl) (dl_cons_eq (fun _ => rfl) (dl_cons_eq (fun _ => rfl) (dl_cons_eq (fun _ => rfl) (dl_cons_eq (fun _ => rfl) (dl_cons_eq (fun _ => rfl) (dl_cons_eq (fun _ => rfl) (dl_cons_eq (fun _ => rfl) (dl_cons_eq (fun _ => rfl) (dl_cons_eq (fun _ => rfl) (dl_cons_eq (fun _ => rfl) (dl_cons_eq (fun _ => rfl) (dl_cons_eq (fun _ => rfl) (dl_cons_eq (fun _ => rfl) (dl_cons_eq (fun _ => rfl) (dl_cons_eq (fun _ => rfl) (dl_cons_eq (fun _ => rfl) rfl))))))))))))))))))))))))))))))))) (cons_eq rfl (cons_eq rfl (cons_eq rfl (cons_eq rfl (cons_eq rfl (cons_eq ((eD_skip (by rfl)).trans (eD_miss (fun hD => hn (hcl 29 _ rfl (hcl 30 _ rfl (hcl 31 _ rfl (hcl 32 _ rfl hD 31 dc) 30 dc) 29 dc) 28 dc)) eD_nil)) (cons_eq rfl (cons_eq rfl (cons_eq ((eD_skip (by rfl)).trans (eD_miss (fun hD => hn (hcl 29 _ rfl (hcl 30 _ rfl (hcl 31 _ rfl hD 30 dc) 29 dc) 28 dc)) eD_nil)) rfl)))))))))
         ·
          intro D b hn hd hcl
          obtain ⟨b8, hd16⟩ := b
          refine TO.rewL (L' := [cells b1 [.int .i64 0, .int .i64 0] 26, cells b4 [.string p4.text, hd3.v, hd4.v] 128, vec enc_Gapi_Place 130 5 hd3.v p4.places, vec enc_Gplace_ended 132 4 hd4.v p4.lines, cells b3 [.string p14, hd10.v, hd14.v, .string text1] 93, vec enc_Gapi_Verse 36 6 hd10.v p15, vec enc_Gapi_Span 34 2 hd14.v p20, cells b5 [.int .i64 span1, .int .i64 span2] 34, emp]) (cons_eq rfl (cons_eq rfl (cons_eq rfl (cons_eq rfl (cons_eq rfl (cons_eq (eD_miss (fun hD => hn (hcl 30 _ rfl (hcl 31 _ rfl (hcl 32 _ rfl hD 31 dc) 30 dc) 29 dc)) eD_nil) (cons_eq rfl (cons_eq rfl (cons_eq (eD_miss (fun hD => hn (hcl 30 _ rfl (hcl 31 _ rfl hD 30 dc) 29 dc)) eD_nil) rfl))))))))) ?_
          refine TO.build (v := .agg #[.int .i64 (span1 + r7), .int .i64 span2]) (ps := [(0, .tmp 145), (1, .tmp 147)]) rfl dc (evP.cons (dl_lookup (m := 26) rfl rfl (hd 26 dc)) (evP.cons (dl_lookup (m := 28) rfl rfl (hd 28 dc)) evP.nil)) (fun _ => by kernel_rfl) ?_
          exact TX.valG (b8, hd16) 29 (by rfl) (by rfl) rfl (dl_cons_eq (fun _ => rfl) (dl_cons_eq (fun _ => rfl) (dl_cons_eq (fun _ => rfl) (dl_cons_eq (fun _ => rfl) (dl_cons_eq (fun _ => rfl) (dl_cons_eq (fun _ => rfl) (dl_cons_eq (fun _ => rfl) (dl_cons_eq (fun _ => rfl) (dl_cons_eq (fun _ => rfl) (dl_cons_eq (fun _ => rfl) (dl_cons_eq (fun _ => rfl) (dl_cons_eq (fun _ => rfl) (dl_cons_eq (fun _ => rfl) (dl_cons_eq (fun _ => rfl) (dl_cons_eq (fun _ => rfl) (dl_cons_eq (fun _ => rfl) (dl_cons_eq (fun _ => rfl) (dl_cons_eq (fun _ => rfl) (dl_cons_eq (fun _ => rfl) (dl_cons_eq (fun _ => rfl) (dl_cons_eq (fun _ => rfl) (dl_cons_eq (fun _ => rfl) (dl_cons_eq (fun _ => rfl) (dl_cons_eq (fun _ => rfl) (dl_cons_eq (fun _ => rfl) (dl_cons_eq (fun _ => rfl) (dl_cons_eq (fun _ => rfl) (dl_cons_eq (fun _ => rfl) (dl_cons_eq (fun _ => rfl) (dl_cons_eq (fun _ => rfl) (dl_cons_eq (fun _ => rfl) (dl_cons_eq (fun _ => rfl) (dl_cons_eq (fun _ => rfl) rfl))))))))))))))))))))))))))))))))) (cons_eq rfl (cons_eq rfl (cons_eq rfl (cons_eq rfl (cons_eq rfl (cons_eq ((eD_skip (by rfl)).trans (eD_miss (fun hD => hn (hcl 30 _ rfl (hcl 31 _ rfl (hcl 32 _ rfl hD 31 dc) 30 dc) 29 dc)) eD_nil)) (cons_eq rfl (cons_eq rfl (cons_eq ((eD_skip (by rfl)).trans (eD_miss (fun hD => hn (hcl 30 _ rfl (hcl 31 _ rfl hD 30 dc) 29 dc)) eD_nil)) rfl)))))))))
         ·
          intro D b hn hd hcl
          obtain ⟨b8, hd16⟩ := b
          refine TO.rewL (L' := [cells b1 [.int .i64 0, .int .i64 0] 26, cells b4 [.string p4.text, hd3.v, hd4.v] 128, vec enc_Gapi_Place 130 5 hd3.v p4.places, vec enc_Gplace_ended 132 4 hd4.v p4.lines, cells b3 [.string p14, hd10.v, hd14.v, .string text1] 93, vec enc_Gapi_Verse 36 6 hd10.v p15, vec enc_Gapi_Span 34 2 hd14.v p20, cells b5 [.int .i64 span1, .int .i64 span2] 34, emp]) (cons_eq rfl (cons_eq rfl (cons_eq rfl (cons_eq rfl (cons_eq rfl (cons_eq (eD_miss (fun hD => hn (hcl 31 _ rfl (hcl 32 _ rfl hD 31 dc) 30 dc)) eD_nil) (cons_eq rfl (cons_eq rfl (cons_eq (eD_miss (fun hD => hn (hcl 31 _ rfl hD 30 dc)) eD_nil) rfl))))))))) ?_
          refine TO.build (v := .agg #[.string (cutB line1 r7 (line1.size : Int)), .int .i64 r7, .int .i64 ((p20.length : Int) - 1), .int .i64 ((p15.length : Int) - q1.From), .int .i64 (span1 + r7), .int .i64 span2]) (ps := [(0, .tmp 127), (1, .tmp 128), (2, .tmp 135), (3, .tmp 141), (4, .tmp 148)]) rfl dc (evP.cons (dl_lookup (m := 8) rfl rfl (hd 8 dc)) (evP.cons (dl_lookup (m := 9) rfl rfl (hd 9 dc)) (evP.cons (dl_lookup (m := 16) rfl rfl (hd 16 dc)) (evP.cons (dl_lookup (m := 22) rfl rfl (hd 22 dc)) (evP.cons (dl_lookup (m := 29) rfl rfl (hd 29 dc)) evP.nil))))) (fun _ => by kernel_rfl) ?_
          exact TX.valG (b8, hd16) 30 (by rfl) (by rfl) rfl (dl_cons_eq (fun _ => rfl) (dl_cons_eq (fun _ => rfl) (dl_cons_eq (fun _ => rfl) (dl_cons_eq (fun _ => rfl) (dl_cons_eq (fun _ => rfl) (dl_cons_eq (fun _ => rfl) (dl_cons_eq (fun _ => rfl) (dl_cons_eq (fun _ => rfl) (dl_cons_eq (fun _ => rfl) (dl_cons_eq (fun _ => rfl) (dl_cons_eq (fun _ => rfl) (dl_cons_eq (fun _ => rfl) (dl_cons_eq (fun _ => rfl) (dl_cons_eq (fun _ => rfl) (dl_cons_eq (fun _ => rfl) (dl_cons_eq (fun _ => rfl) (dl_cons_eq (fun _ => rfl) (dl_cons_eq (fun _ => rfl) (dl_cons_eq (fun _ => rfl) (dl_cons_eq (fun _ => rfl) (dl_cons_eq (fun _ => rfl) (dl_cons_eq (fun _ => rfl) (dl_cons_eq (fun _ => rfl) (dl_cons_eq (fun _ => rfl) (dl_cons_eq (fun _ => rfl) (dl_cons_eq (fun _ => rfl) (dl_cons_eq (fun _ => rfl) (dl_cons_eq (fun _ => rfl) (dl_cons_eq (fun _ => rfl) (dl_cons_eq (fun _ => rfl) (dl_cons_eq (fun _ => rfl) (dl_cons_eq (fun _ => rfl) (dl_cons_eq (fun _ => rfl) rfl))))))))))))))))))))))))))))))))) (cons_eq rfl (cons_eq rfl (cons_eq rfl (cons_eq rfl (cons_eq rfl (cons_eq ((eD_skip (by rfl)).trans (eD_miss (fun hD => hn (hcl 31 _ rfl (hcl 32 _ rfl hD 31 dc) 30 dc)) eD_nil)) (cons_eq rfl (cons_eq rfl (cons_eq ((eD_skip (by rfl)).trans (eD_miss (fun hD => hn (hcl 31 _ rfl hD 30 dc)) eD_nil)) rfl)))))))))
         ·
          intro D b hn hd hcl
          obtain ⟨_, hd16⟩ := b
          refine TO.rewL (L' := [cells b1 [.int .i64 0, .int .i64 0] 26, cells b4 [.string p4.text, hd3.v, hd4.v] 128, vec enc_Gapi_Place 130 5 hd3.v p4.places, vec enc_Gplace_ended 132 4 hd4.v p4.lines, cells b3 [.string p14, hd10.v, hd14.v, .string text1] 93, vec enc_Gapi_Verse 36 6 hd10.v p15, vec enc_Gapi_Span 34 2 hd14.v p20, cells b5 [.int .i64 span1, .int .i64 span2] 34, emp]) (cons_eq rfl (cons_eq rfl (cons_eq rfl (cons_eq rfl (cons_eq rfl (cons_eq (eD_miss (fun hD => hn (hcl 32 _ rfl hD 31 dc)) eD_nil) (cons_eq rfl (cons_eq rfl (cons_eq (eD_miss hn eD_nil) rfl))))))))) ?_
          refine TO.buildSlice (cs := [.string (cutB line1 r7 (line1.size : Int)), .int .i64 r7, .int .i64 ((p20.length : Int) - 1), .int .i64 ((p15.length : Int) - q1.From), .int .i64 (span1 + r7), .int .i64 span2]) (te := 36) (ps := [(0, .tmp 149)]) rfl dc (evP.cons (dl_lookup (m := 30) rfl rfl (hd 30 dc)) evP.nil) (fun _ => by kernel_rfl) (fun b8 => ?_)
          refine TO.place 8 rfl rfl ?_
          show TO _ _ _ _ _ _ _ _ _ _ [cells b1 [.int .i64 0, .int .i64 0] 26, cells b4 [.string p4.text, hd3.v, hd4.v] 128, vec enc_Gapi_Place 130 5 hd3.v p4.places, vec enc_Gplace_ended 132 4 hd4.v p4.lines, cells b3 [.string p14, hd10.v, hd14.v, .string text1] 93, vec enc_Gapi_Verse 36 6 hd10.v p15, vec enc_Gapi_Span 34 2 hd14.v p20, cells b5 [.int .i64 span1, .int .i64 span2] 34, cells b8 [.string (cutB line1 r7 (line1.size : Int)), .int .i64 r7, .int .i64 ((p20.length : Int) - 1), .int .i64 ((p15.length : Int) - q1.From), .int .i64 (span1 + r7), .int .i64 span2] 36]
          exact TX.valG (b8, hd16) 31 (by rfl) (by rfl) rfl (dl_cons_eq (fun _ => rfl) (dl_cons_eq (fun _ => rfl) (dl_cons_eq (fun _ => rfl) (dl_cons_eq (fun _ => rfl) (dl_cons_eq (fun _ => rfl) (dl_cons_eq (fun _ => rfl) (dl_cons_eq (fun _ => rfl) (dl_cons_eq (fun _ => rfl) (dl_cons_eq (fun _ => rfl) (dl_cons_eq (fun _ => rfl) (dl_cons_eq (fun _ => rfl) (dl_cons_eq (fun _ => rfl) (dl_cons_eq (fun _ => rfl) (dl_cons_eq (fun _ => rfl) (dl_cons_eq (fun _ => rfl) (dl_cons_eq (fun _ => rfl) (dl_cons_eq (fun _ => rfl) (dl_cons_eq (fun _ => rfl) (dl_cons_eq (fun _ => rfl) (dl_cons_eq (fun _ => rfl) (dl_cons_eq (fun _ => rfl) (dl_cons_eq (fun _ => rfl) (dl_cons_eq (fun _ => rfl) (dl_cons_eq (fun _ => rfl) (dl_cons_eq (fun _ => rfl) (dl_cons_eq (fun _ => rfl) (dl_cons_eq (fun _ => rfl) (dl_cons_eq (fun _ => rfl) (dl_cons_eq (fun _ => rfl) (dl_cons_eq (fun _ => rfl) (dl_cons_eq (fun _ => rfl) (dl_cons_eq (fun hD => absurd hD hn) (dl_cons_eq (fun _ => rfl) rfl))))))))))))))))))))))))))))))))) (cons_eq rfl (cons_eq rfl (cons_eq rfl (cons_eq rfl (cons_eq rfl (cons_eq ((eD_skip (by rfl)).trans (eD_miss (fun hD => hn (hcl 32 _ rfl hD 31 dc)) eD_nil)) (cons_eq rfl (cons_eq rfl (cons_eq (eD_hit (Or.inr rfl) rfl) rfl)))))))))
         ·
          intro D b hn hd hcl
          obtain ⟨b8, _⟩ := b
          refine TO.rewL (L' := [cells b1 [.int .i64 0, .int .i64 0] 26, cells b4 [.string p4.text, hd3.v, hd4.v] 128, vec enc_Gapi_Place 130 5 hd3.v p4.places, vec enc_Gplace_ended 132 4 hd4.v p4.lines, cells b3 [.string p14, hd10.v, hd14.v, .string text1] 93, vec enc_Gapi_Verse 36 6 hd10.v p15, vec enc_Gapi_Span 34 2 hd14.v p20, cells b5 [.int .i64 span1, .int .i64 span2] 34, cells b8 [.string (cutB line1 r7 (line1.size : Int)), .int .i64 r7, .int .i64 ((p20.length : Int) - 1), .int .i64 ((p15.length : Int) - q1.From), .int .i64 (span1 + r7), .int .i64 span2] 36]) (cons_eq rfl (cons_eq rfl (cons_eq rfl (cons_eq rfl (cons_eq rfl (cons_eq (eD_miss hn eD_nil) (cons_eq rfl (cons_eq rfl (cons_eq (eD_hit (hd 31 dc) rfl) rfl))))))))) ?_
          refine TO.appendVec (k := 5) (k2 := 8) (ys := [(⟨cutB line1 r7 (line1.size : Int), r7, (p20.length : Int) - 1, (p15.length : Int) - q1.From, span1 + r7, span2⟩ : Gapi_Verse)]) Tryd.underlying57 el_36 enc_Gapi_Verse_len enc_Gapi_Verse_one rfl dc (dl_lookup (m := 5) rfl rfl (hd 5 dc)) (dl_lookup (m := 31) rfl rfl (hd 31 dc)) rfl rfl rfl rfl hg10 (fun v3 => ?_)
          refine TO.nameHd (k := 5) rfl (fun hd16 he2 => ?_)
          subst he2
          exact TX.valG (b8, hd16) 32 (by rfl) (by rfl) rfl (dl_cons_eq (fun _ => rfl) (dl_cons_eq (fun _ => rfl) (dl_cons_eq (fun _ => rfl) (dl_cons_eq (fun _ => rfl) (dl_cons_eq (fun _ => rfl) (dl_cons_eq (fun _ => rfl) (dl_cons_eq (fun _ => rfl) (dl_cons_eq (fun _ => rfl) (dl_cons_eq (fun _ => rfl) (dl_cons_eq (fun _ => rfl) (dl_cons_eq (fun _ => rfl) (dl_cons_eq (fun _ => rfl) (dl_cons_eq (fun _ => rfl) (dl_cons_eq (fun _ => rfl) (dl_cons_eq (fun _ => rfl) (dl_cons_eq (fun _ => rfl) (dl_cons_eq (fun _ => rfl) (dl_cons_eq (fun _ => rfl) (dl_cons_eq (fun _ => rfl) (dl_cons_eq (fun _ => rfl) (dl_cons_eq (fun _ => rfl) (dl_cons_eq (fun _ => rfl) (dl_cons_eq (fun _ => rfl) (dl_cons_eq (fun _ => rfl) (dl_cons_eq (fun _ => rfl) (dl_cons_eq (fun _ => rfl) (dl_cons_eq (fun _ => rfl) (dl_cons_eq (fun _ => rfl) (dl_cons_eq (fun _ => rfl) (dl_cons_eq (fun _ => rfl) (dl_cons_eq (fun _ => rfl) (dl_cons_eq (fun _ => rfl) (dl_cons_eq (fun hD => absurd hD hn) rfl))))))))))))))))))))))))))))))))) (cons_eq rfl (cons_eq rfl (cons_eq rfl (cons_eq rfl (cons_eq rfl (cons_eq (eD_hit (Or.inr rfl) rfl) (cons_eq rfl (cons_eq rfl (cons_eq ((eD_skip (by rfl)).trans (eD_hit (hd 31 dc) rfl)) rfl)))))))))
         intro D b hall
         obtain ⟨b8, hd16⟩ := b
         refine TO.rewL (L' := [cells b1 [.int .i64 0, .int .i64 0] 26, cells b4 [.string p4.text, hd3.v, hd4.v] 128, vec enc_Gapi_Place 130 5 hd3.v p4.places, vec enc_Gplace_ended 132 4 hd4.v p4.lines, cells b3 [.string p14, hd10.v, hd14.v, .string text1] 93, vec enc_Gapi_Verse 36 6 hd16.v (p15 ++ [(⟨cutB line1 r7 (line1.size : Int), r7, (p20.length : Int) - 1, (p15.length : Int) - q1.From, span1 + r7, span2⟩ : Gapi_Verse)]), vec enc_Gapi_Span 34 2 hd14.v p20, cells b5 [.int .i64 span1, .int .i64 span2] 34, cells b8 [.string (cutB line1 r7 (line1.size : Int)), .int .i64 r7, .int .i64 ((p20.length : Int) - 1), .int .i64 ((p15.length : Int) - q1.From), .int .i64 (span1 + r7), .int .i64 span2] 36]) (cons_eq rfl (cons_eq rfl (cons_eq rfl (cons_eq rfl (cons_eq rfl (cons_eq (eD_hit (hall 32 dc) rfl) (cons_eq rfl (cons_eq rfl (cons_eq (eD_hit (hall 31 dc) rfl) rfl))))))))) (TO.nilCheck rfl dc rfl (TO.fieldAddr fl_93_0 rfl dc rfl (show _ = 0 from rfl) (TO.fieldAddr fl_91_1 rfl dc rfl (show _ = 1 from rfl) ?_)))
         refine TO.store (k := 4) (l' := [.string p14, hd16.v, hd14.v, .string text1]) sz_57 rfl rfl rfl rfl rfl (fun _ _ => rfl) rfl ?_
         refine TO.nil (TX.next (TC.region (TO.move rfl dc rfl (TO.move rfl dc rfl ?_))))
         obtain ⟨hg11, h⟩ := grdE h
         refine TO.bin rfl dc rfl rfl (bin_add (r := (p15.length : Int) + 1) (IntWalk.i64_in _ hg11)) (TO.nilCheck rfl dc rfl (TO.fieldAddr fl_34_1 rfl dc rfl (show _ = (((p20.length : Int) - 1 : Int).toNat) * 2 + 1 from rfl) ?_))
         refine TO.storeVec (i := ((p20.length : Int) - 1 : Int).toNat) (j := 1) (k := 6) (q := q1) (q' := (⟨q1.From, (p15.length : Int) + 1⟩ : Gapi_Span)) sz_3 enc_Gapi_Span_len rfl rfl rfl rfl (getO_get hq8) rfl dc rfl (fun _ _ => rfl) ?_
         show TO _ _ _ _ _ _ _ _ _ _ [cells b1 [.int .i64 0, .int .i64 0] 26, cells b4 [.string p4.text, hd3.v, hd4.v] 128, vec enc_Gapi_Place 130 5 hd3.v p4.places, vec enc_Gplace_ended 132 4 hd4.v p4.lines, cells b3 [.string p14, hd16.v, hd14.v, .string text1] 93, vec enc_Gapi_Verse 36 6 hd16.v (p15 ++ [(⟨cutB line1 r7 (line1.size : Int), r7, (p20.length : Int) - 1, (p15.length : Int) - q1.From, span1 + r7, span2⟩ : Gapi_Verse)]), vec enc_Gapi_Span 34 2 hd14.v (p20.set ((p20.length : Int) - 1 : Int).toNat (⟨q1.From, (p15.length : Int) + 1⟩ : Gapi_Span)), cells b5 [.int .i64 span1, .int .i64 span2] 34, cells b8 [.string (cutB line1 r7 (line1.size : Int)), .int .i64 r7, .int .i64 ((p20.length : Int) - 1), .int .i64 ((p15.length : Int) - q1.From), .int .i64 (span1 + r7), .int .i64 span2] 36]
         refine TO.nil (TX.blockNormal ?_)
         exact TX.meetD (p14, p15 ++ [(⟨cutB line1 r7 (line1.size : Int), r7, (p20.length : Int) - 1, (p15.length : Int) - q1.From, span1 + r7, span2⟩ : Gapi_Verse)], p20.set ((p20.length : Int) - 1 : Int).toNat (⟨q1.From, (p15.length : Int) + 1⟩ : Gapi_Span), false, true, hd16, hd14) h rfl (Sbs.cons rfl (Sbs.cons rfl (Sbs.cons rfl (Sbs.cons rfl (Sbs.cons rfl (Sbs.cons rfl (Sbs.cons rfl (Sbs.cons rfl (Sbs.nil))))))))) (Splits.of [0, 1, 2, 3, 4, 5, 6] kr rfl)
      ·
       rintro ⟨p17, p18, p19, first4, row4, hd12, hd13⟩ h
       rw [hj2] at h
       show TC _ _ _ _ _ ([]) _ _ [(0, .string text1), (3, .pointer (some ⟨b1, 0, none⟩)), (4, .pointer (some ⟨b4, 0, none⟩)), (6, .pointer (some ⟨b3, 0, none⟩)), (7, .bool first4), (8, .bool row4), (30, .int .i64 r2), (31, .int .i64 x3)] [cells b1 [.int .i64 0, .int .i64 0] 26, cells b4 [.string p4.text, hd3.v, hd4.v] 128, vec enc_Gapi_Place 130 5 hd3.v p4.places, vec enc_Gplace_ended 132 4 hd4.v p4.lines, cells b3 [.string p17, hd12.v, hd13.v, .string text1] 93, vec enc_Gapi_Verse 36 6 hd12.v p18, vec enc_Gapi_Span 34 2 hd13.v p19]
       refine TC.region ?_
       obtain ⟨hg12, h⟩ := grdE h
       refine TO.bin rfl dc rfl rfl (bin_add (r := x3 + 1) (IntWalk.i64_in _ hg12)) (TO.move rfl dc rfl (TO.nil ?_))
       subst hag1
       exact TX.againD (n1, p17, p18, p19, first4, row4, x3 + 1, hd12, hd13) h (Nat.lt_succ_self _) rfl (Sbs.cons rfl (Sbs.cons rfl (Sbs.cons rfl (Sbs.cons rfl (Sbs.cons rfl (Sbs.cons rfl (Sbs.cons rfl (Sbs.cons rfl (Sbs.nil))))))))) (Splits.of [0, 1, 2, 3, 4, 5, 6] kr rfl)
     ·
      have h := condF hb2 h
      refine TC.exit (TX.thenExit (TX.thenExit (TX.blockHere ?_)))
      exact TX.meetD (p14, p15, p16, b3, hd10, hd11) h rfl (Sbs.cons rfl (Sbs.cons rfl (Sbs.nil))) (Splits.of [0, 4, 5, 6] kr rfl)
   ·
    rintro ⟨p1, p2, p3, b2, hd1, hd2⟩ h
    rw [hj1] at h
    show TC _ _ _ _ _ ([]) _ _ [(3, .pointer (some ⟨b1, 0, none⟩)), (6, .pointer (some ⟨b2, 0, none⟩))] [cells b1 [.int .i64 0, .int .i64 0] 26, cells b2 [.string p1, hd1.v, hd2.v, .string text1] 93, vec enc_Gapi_Verse 36 6 hd1.v p2, vec enc_Gapi_Span 34 2 hd2.v p3]
    refine TC.seq (TC.region (TO.move rfl dc rfl ?_))
    refine TO.build (v := .agg #[.int .i64 0, .int .i64 0]) (ps := []) rfl dc rfl (fun _ => by kernel_rfl) ?_
    refine TO.assign rfl dc rfl (TO.stores (k := 0) (vs := [.int .i64 0, .int .i64 0]) (l' := [.int .i64 0, .int .i64 0]) sz_26 rfl rfl rfl rfl rfl (show _ ≤ _ by simp) rfl rfl (TO.nil (TX.next (TC.ret (TX.jumpOn (by simp) ?_)))))
    refine TX.entl (As := [cells b2 [.string p1, hd1.v, hd2.v, .string text1] 93, vec enc_Gapi_Verse 36 6 hd1.v p2, vec enc_Gapi_Span 34 2 hd2.v p3]) (Splits.of [1, 2, 3] kr rfl) (Entl.objMk (enc := encN_Gpoem_Poem) (nest := nest_Gpoem_Poem) (t := 93) (x := (⟨p1, p2, p3, text1⟩ : Gpoem_Poem)) (b := b2) (hd := (hd1, hd2))) (fun _ _ => ?_)
    show TX _ _ _ _ _ _ _ [cells b1 [.int .i64 0, .int .i64 0] 26, emp, emp, emp, pobj encN_Gpoem_Poem nest_Gpoem_Poem 93 (.pointer (some ⟨b2, 0, none⟩)) (some (⟨p1, p2, p3, text1⟩ : Gpoem_Poem))]
    cases h
    exact TX.fin (rs := [.tmp 2, .cell 3 26]) (.pointer (some ⟨b2, 0, none⟩)) (.inl rfl) Tryd.results13 (.cons (.tmp rfl) (.cons (.cells rw_26 (k := 0) rfl rfl rfl) .nil)) rfl (Splits.of [4] kr rfl)
 ·
  exact fun b hb => hb.elim
end Go.Proofs.YtgfkogafkhbgnaaDoor
namespace Go.Proofs.YtgfkogafkhbgnaaDoor
open Go.RowKit Go.Lib
set_option linter.unusedVariables false
set_option linter.unusedSimpArgs false
theorem roRow_vecK {α : Type} {enc : α → List Value} {size k : Nat} {vv : Value} {xs : List α} {e : TypeId} (hz : ∀ x, (enc x).length = size) {C : Nat → Prop} {w : World} (h : (vec enc e size vv xs).P C w) : (roRow enc size vv k xs).P C w :=
  ⟨(roRow_vec hz h).1, fun i x j v h1 h2 h3 => (roRow_vec hz h).2 i x j v (Nat.zero_le _) h2 h3⟩
/-- Where a slice's records lie: a block's beginning, a place, what lies there. -/
structure Seat (α : Type) where
  vv : Value
  k : Nat
  L : List α
/-- The slice of that header can be read: xs. -/
def rdSl {α : Type} (enc : α → List Value) (size : Nat) (hd : Hd) (xs : List α) : Asn :=
  exA fun b : {b : Seat α // Vw b.vv b.L size b.k hd.v xs} => roRow enc size b.1.vv b.1.k b.1.L
theorem rdSl_vec {α : Type} {enc : α → List Value} {size : Nat} {e : TypeId} {hd : Hd} {xs : List α} (hlen : ∀ x, (enc x).length = size) {C : Nat → Prop} {w : World} (h : (vec enc e size hd.v xs).P C w) : (rdSl enc size hd xs).P C w :=
  ⟨⟨⟨hd.v, 0, xs⟩, vec_capR h⟩, roRow_vec hlen h⟩
section
variable {α η : Type} {enc : α × η → List Value} {nest nestR : α × η → List Asn} {e : TypeId} {size : Nat} {v : Value} {xs : List α} {zs : List (α × η)} {z : α × η}
/-- What the records zs own can be read. -/
def rdOwn (nestR : α × η → List Asn) (zs : List (α × η)) : Asn :=
  ⟨fun C w => (∀ k, C k → k < w.heap.size) ∧ ∀ z ∈ zs, ∀ A ∈ nestR z, ∃ D, A.P D w ∧ ∀ k, D k → C k,
   fun h k hk => h.1 k hk,
   fun {C w w'} h hs hk => ⟨fun k hC => Nat.lt_of_lt_of_le (h.1 k hC) hs, fun z hz A hA => by
     obtain ⟨D, h1, h2⟩ := h.2 z hz A hA
     exact ⟨D, A.loc h1 hs (fun k hD => hk k (h2 k hD)), h2⟩⟩⟩
/-- What is owned gives what is read. -/
def Gives (nest nestR : α × η → List Asn) : Prop := ∀ z C w, sepL (nest z) C w → ∀ A ∈ nestR z, ∃ D, A.P D w ∧ ∀ k, D k → C k
theorem flat_each {C : Nat → Prop} {w : World} (h : sepL (zs.flatMap nest) C w) (hz : z ∈ zs) : ∃ D, sepL (nest z) D w ∧ ∀ k, D k → C k := by
  obtain ⟨i, hi⟩ := List.getElem?_of_mem hz
  obtain ⟨C1, C2, h1, _, _, h4⟩ := (sepL.pull hi).1 h
  exact ⟨C1, h1, fun k hk => (h4 k).2 (.inl hk)⟩
theorem rdOwn_own (hG : Gives nest nestR) {C : Nat → Prop} {w : World} (h : (own nest zs).P C w) : (rdOwn nestR zs).P C w :=
  ⟨(own nest zs).lt h, fun z hz A hA => by
    obtain ⟨D, h1, h2⟩ := flat_each (show sepL (zs.flatMap nest) C w from h) hz
    obtain ⟨E, h3, h4⟩ := hG z D w h1 A hA
    exact ⟨E, h3, fun k hk => h2 k (h4 k hk)⟩⟩
variable {w0 : World} {K : Nat → Prop} {RD : List Asn} {i j : Nat}
theorem Rd.openEl (hr : Rd w0 K RD) (hi : RD[i]? = some (rdOwn nestR zs)) (hz : zs[j]? = some z) : Rd w0 K (RD ++ nestR z) :=
  hr.more hi fun C hC B hB => hC.2 z (List.mem_of_getElem? hz) B hB
theorem Rd.openSl {β : Type} {enc1 : β → List Value} {hd : Hd} {ys : List β} (hr : Rd w0 K RD) (hi : RD[i]? = some (rdSl enc1 size hd ys)) : ∃ vv k L, Vw vv L size k hd.v ys ∧ Rd w0 K (RD ++ [roRow enc1 size vv k L]) := by
  obtain ⟨C, ⟨⟨⟨vv, k, L⟩, hV⟩, hC⟩, hk⟩ := hr _ (List.mem_of_getElem? hi)
  refine ⟨vv, k, L, hV, hr.append fun B hB => ?_⟩
  rw [List.mem_singleton] at hB
  subst hB
  exact ⟨C, hC, hk⟩
theorem Rd.openN (hr : Rd w0 K RD) (hi : RD[i]? = some (vecN enc nest e size v xs)) (hlen : ∀ z, (enc z).length = size) (hG : Gives nest nestR) :
    ∃ zs : List (α × η), zs.map Prod.fst = xs ∧ Vw v zs size 0 v zs ∧ Rd w0 K (RD ++ [roRow enc size v 0 zs, rdOwn nestR zs]) := by
  obtain ⟨C, h, hk⟩ := hr _ (List.mem_of_getElem? hi)
  obtain ⟨zs, hz, h1⟩ := openE C w0 h
  obtain ⟨C1, C2, g1, g2, _, g4⟩ := sepL.perm2 h1
  refine ⟨zs, hz, vec_capR g1, hr.append fun B hB => ?_⟩
  rcases List.mem_cons.1 hB with rfl | hB
  · exact ⟨C1, roRow_vec hlen g1, fun k h => hk k ((g4 k).2 (.inl h))⟩
  · rw [List.mem_singleton] at hB
    subst hB
    exact ⟨C2, rdOwn_own hG g2, fun k h => hk k ((g4 k).2 (.inr h))⟩
/-- A contract that reads a slice's records, closed: it reads the slice that owns them. -/
theorem FnR.closeN {P : Program} {f : FuncId} {vs : List Value} {RD1 RD2 As : List Asn} {β : Type} {V : β → Value} {Bs : β → List Asn} (hlen : ∀ z, (enc z).length = size) (hG : Gives nest nestR)
    (h : ∀ zs : List (α × η), zs.map Prod.fst = xs → Vw v zs size 0 v zs → FnR P f vs (RD1 ++ [roRow enc size v 0 zs, rdOwn nestR zs] ++ RD2) As V Bs) : FnR P f vs (RD1 ++ [vecN enc nest e size v xs] ++ RD2) As V Bs := fun w C hR => by
  obtain ⟨zs, hz, hV, h1⟩ := hR.openN (i := RD1.length) (nest := nest) (e := e) (v := v) (xs := xs) (by simp) hlen hG
  refine h zs hz hV w C fun A hA => h1 A ?_
  simp only [List.mem_append, List.mem_cons, List.not_mem_nil, or_false] at hA ⊢
  rcases hA with (hA | hA) | hA
  · exact .inl (.inl (.inl hA))
  · exact .inr hA
  · exact .inl (.inr hA)
end
section
variable {α η : Type} {nest : α × η → List Asn} {zs ys : List (α × η)}
theorem zdef (xs : List α) (h : η) : (xs.map (fun x => (x, h))).map Prod.fst = xs := by
  rw [List.map_map]
  exact List.map_id _
theorem zcat {xs us : List α} (hz : zs.map Prod.fst = xs) (hy : ys.map Prod.fst = us) : (zs ++ ys).map Prod.fst = xs ++ us := by rw [List.map_append, hz, hy]
theorem ownCat (C : Nat → Prop) (w : World) (h : sepL (own nest zs :: [own nest ys]) C w) : (own nest (zs ++ ys)).P C w := by
  obtain ⟨C1, C2, g1, g2, g3, g4⟩ := sepL.perm2 h
  show sepL ((zs ++ ys).flatMap nest) C w
  rw [List.flatMap_append]
  exact sepL.append' g1 g2 g3 g4
end
section
variable {F : Fence} {P : Program} {w0 : World} {K : Nat → Prop} {N : Nat} {dfs : List Deferred} {Q : Exit → Act → World → Prop} {σ : List (Nat × Value)} {L : List Asn} {c : Code} {k : Nat} {α η : Type} {enc : α × η → List Value} {nest : α × η → List Asn} {t : TypeId} {p : Value} {m : Option α}
end
end Go.Proofs.YtgfkogafkhbgnaaDoor
namespace Go.Proofs.YtgfkogafkhbgnaaDoor
open Go.RowKit Go.Lib
def nestR_T_string (z : (List ByteArray) × Hd) : List Asn := [rdSl encS 1 z.2 z.1]
theorem gives_T_string : Gives nest_T_string nestR_T_string := by
  intro z C w h A hA
  simp only [nestR_T_string, List.mem_cons, List.not_mem_nil, or_false] at hA
  rcases hA with rfl
  · obtain ⟨D, h1, h2⟩ := sepL.each h _ (List.mem_of_getElem? (i := 0) rfl); exact ⟨D, rdSl_vec encS_len h1, h2⟩
end Go.Proofs.YtgfkogafkhbgnaaDoor
namespace Go.Proofs.YtgfkogafkhbgnaaDoor
open Go.RowKit Go.Lib
set_option linter.unusedVariables false
set_option linter.unusedSimpArgs false
def ref17_Read_s1 (s1 : ByteArray) (j1 : ByteArray → (List (List ByteArray)) → (List Gapi_Verse) → Option (Gref17_Poem × (List Gapi_Verse) × Gapi_Spot)) (r1 : (List Gapi_Span)) (ag1 : ByteArray → (List (List ByteArray)) → (List Gapi_Verse) → Bool → Bool → Int → Option (Gref17_Poem × (List Gapi_Verse) × Gapi_Spot)) (p10 : ByteArray) (p11 : List (List ByteArray)) (l4 : List Gapi_Verse) (first3 : Bool) (row3 : Bool) (i3 : Int) : Option (Gref17_Poem × (List Gapi_Verse) × Gapi_Spot) := bcond (decide ((i3 : Int) < (r1.length : Int))) ( joinK (fun (j2 : ByteArray → (List (List ByteArray)) → (List Gapi_Verse) → Bool → Bool → Option (Gref17_Poem × (List Gapi_Verse) × Gapi_Spot)) => andThen (getO r1 i3) fun (q1 : Gapi_Span) => grd (0 ≤ (q1.From : Int) ∧ (q1.From : Int) ≤ q1.To ∧ (q1.To : Int) ≤ (s1.size : Int)) <| andThen (ref17_Empty_v (cutB s1 q1.From q1.To)) fun (r2 : Bool) => bcond (r2) ( j2 p10 p11 l4 first3 false
) ( bcond (decide ((1024 : Int) < ((cutB s1 q1.From q1.To).size : Int))) ( grd (I64 (q1.From + 1024)) <| some ((⟨ByteArray.empty, ([] : List (List ByteArray))⟩ : Gref17_Poem), ([] : List Gapi_Verse), (⟨3, q1.From + 1024⟩ : Gapi_Spot))
) ( joinK (fun (j3 : Option (Gref17_Poem × (List Gapi_Verse) × Gapi_Spot)) => bcond (first3) ( andThen (ref17_Titled_v (cutB s1 q1.From q1.To)) fun (r3 : Bool) => bcond (r3) ( joinK (fun (j4 : ByteArray → Option (Gref17_Poem × (List Gapi_Verse) × Gapi_Spot)) => bcond (decide ((2 : Int) < ((cutB s1 q1.From q1.To).size : Int))) ( grd (0 ≤ (2 : Int) ∧ (2 : Int) ≤ ((cutB s1 q1.From q1.To).size : Int) ∧ (((cutB s1 q1.From q1.To).size : Int) : Int) ≤ ((cutB s1 q1.From q1.To).size : Int)) <| j4 (cutB (cutB s1 q1.From q1.To) 2 ((cutB s1 q1.From q1.To).size : Int))
) ( j4 p10
)
) (fun (p14 : ByteArray) => j2 p14 p11 l4 false row3
)
) ( j3
)
) ( j3
)
) ( bcond (((l4.length : Int) : Int) == 512) ( some ((⟨ByteArray.empty, ([] : List (List ByteArray))⟩ : Gref17_Poem), ([] : List Gapi_Verse), (⟨3, q1.From⟩ : Gapi_Spot))
) ( joinK (fun (j5 : (List (List ByteArray)) → Option (Gref17_Poem × (List Gapi_Verse) × Gapi_Spot)) => bcond (!row3) ( grd (p11.length + 1 ≤ 2147483648) <| j5 (p11 ++ [([] : List ByteArray)])
) ( j5 p11
)
) (fun (p15 : List (List ByteArray)) => grd (I64 ((p15.length : Int) - 1)) <| andThen (ref17_Indent_v (cutB s1 q1.From q1.To)) fun (r4 : Int) => grd (0 ≤ (r4 : Int) ∧ (r4 : Int) ≤ ((cutB s1 q1.From q1.To).size : Int) ∧ (((cutB s1 q1.From q1.To).size : Int) : Int) ≤ ((cutB s1 q1.From q1.To).size : Int)) <| andThen (ref17_Indent_v (cutB s1 q1.From q1.To)) fun (r5 : Int) => andThen (getO p15 ((p15.length : Int) - 1)) fun (x1 : List ByteArray) => andThen (ref17_Indent_v (cutB s1 q1.From q1.To)) fun (r6 : Int) => grd (I64 (q1.From + r6)) <| grd (l4.length + 1 ≤ 2147483648) <| andThen (getO p15 ((p15.length : Int) - 1)) fun (x2 : List ByteArray) => grd (x2.length + 1 ≤ 2147483648) <| j2 p10 (p15.set ((p15.length : Int) - 1 : Int).toNat (x2 ++ [cutB s1 q1.From q1.To])) (l4 ++ [(⟨cutB (cutB s1 q1.From q1.To) r4 ((cutB s1 q1.From q1.To).size : Int), r5, (p15.length : Int) - 1, (x1.length : Int), q1.From + r6, q1.To⟩ : Gapi_Verse)]) false true
)
)
)
)
)
) (fun (p12 : ByteArray) (p13 : List (List ByteArray)) (l5 : List Gapi_Verse) (first4 : Bool) (row4 : Bool) => grd (I64 (i3 + 1)) <| ag1 p12 p13 l5 first4 row4 (i3 + 1)
)
) ( j1 p10 p11 l4
)
def ref17_Read_v (s1 : ByteArray) : Option (Gref17_Poem × (List Gapi_Verse) × Gapi_Spot) := bcond (decide ((65536 : Int) < (s1.size : Int))) ( some ((⟨ByteArray.empty, ([] : List (List ByteArray))⟩ : Gref17_Poem), ([] : List Gapi_Verse), (⟨3, 65536⟩ : Gapi_Spot))
) ( joinK (fun (j1 : ByteArray → (List (List ByteArray)) → (List Gapi_Verse) → Option (Gref17_Poem × (List Gapi_Verse) × Gapi_Spot)) => andThen (ref17_Lines_v s1) fun (r1 : (List Gapi_Span)) => loopG (fun _ _ _ _ _ _ => none) (ref17_Read_s1 s1 j1 r1) fuel ByteArray.empty ([] : List (List ByteArray)) ([] : List Gapi_Verse) true false 0
) (fun (p1 : ByteArray) (p2 : List (List ByteArray)) (l1 : List Gapi_Verse) => some ((⟨p1, p2⟩ : Gref17_Poem), l1, (⟨0, 0⟩ : Gapi_Spot))
)
)
end Go.Proofs.YtgfkogafkhbgnaaDoor
namespace Go.Proofs.YtgfkogafkhbgnaaDoor
open Go.RowKit Go.Lib
set_option linter.unusedVariables false
set_option linter.unusedSimpArgs false
/-! ### Texts of bytes -/
def mkB (l : List UInt8) : ByteArray := ⟨l.toArray⟩
theorem mkB_data (l : List UInt8) : (mkB l).data.toList = l := rfl
theorem mkB_size (l : List UInt8) : (mkB l).size = l.length := by rw [← bs_len, mkB_data]
theorem mkB_inj {a b : List UInt8} (h : mkB a = mkB b) : a = b := by
  have := congrArg (fun s : ByteArray => s.data.toList) h
  exact this
theorem cutB_mk (l : List UInt8) (i j : Nat) : cutB (mkB l) (i : Int) (j : Int) = mkB ((l.drop i).take (j - i)) := by
  unfold cutB
  have h : ∀ a b : ByteArray, a.data.toList = b.data.toList → a = b := fun a b h => by
    have : mkB a.data.toList = mkB b.data.toList := by rw [h]
    exact this
  apply h
  rw [mkB_data]
  simp only [Int.toNat_natCast, ByteArray.data_extract, Array.toList_extract, List.extract, mkB_data]
theorem cutB_to (l : List UInt8) (i : Nat) : cutB (mkB l) (i : Int) ((mkB l).size : Int) = mkB (l.drop i) := by
  rw [cutB_mk, mkB_size, List.take_of_length_le (by rw [List.length_drop]; omega)]

/-! ### Blank lines -/
def isB (b : UInt8) : Bool := b == 32 || b == 9
def blank (l : List UInt8) : Bool := l.all isB
theorem dropWhile_head {p : UInt8 → Bool} : ∀ {l : List UInt8} {c : UInt8} {t : List UInt8}, l.dropWhile p = c :: t → p c = false
  | [], c, t, h => by cases h
  | b :: l, c, t, h => by
    rw [List.dropWhile_cons] at h
    split at h
    · exact dropWhile_head h
    · rename_i hb
      rw [← (List.cons.inj h).1]; simpa using hb
theorem dropWhile_nil {p : UInt8 → Bool} : ∀ (l : List UInt8), l.dropWhile p = [] ↔ l.all p = true
  | [] => by simp
  | b :: l => by
    rw [List.dropWhile_cons, List.all_cons]
    split
    · rename_i h; rw [dropWhile_nil l, h, Bool.true_and]
    · rename_i h; rw [Bool.not_eq_true] at h; rw [h]; simp
theorem trim_blank (l : List UInt8) : Lib.trimS l [32, 9] = [] ↔ blank l = true := by
  have hc : (fun x => ([32, 9] : List UInt8).contains x) = isB := by
    funext x; unfold isB; simp only [List.contains_cons, List.contains_nil, Bool.or_false]
  unfold Lib.trimS Lib.trimLeftS Lib.trimRightS blank
  rw [hc]
  cases hd : l.reverse.dropWhile isB with
  | nil =>
    have := (dropWhile_nil l.reverse).1 hd
    rw [List.all_reverse] at this
    rw [this]; simp
  | cons c t =>
    have h1 := dropWhile_head hd
    rw [dropWhile_nil, List.all_reverse, List.all_cons, h1]
    have h2 : l.all isB = false := by
      cases h : l.all isB with
      | false => rfl
      | true =>
        rw [← List.all_reverse, ← dropWhile_nil, hd] at h; cases h
    rw [h2]; simp
theorem empty_v (l : List UInt8) (h : l.length ≤ 9223372036854775807) : poem_empty_v (mkB l) = some (blank l) := by
  unfold poem_empty_v
  refine grdI (by rw [mkB_size]; exact h) (congrArg some ?_)
  unfold trimST
  rw [mkB_data]
  have : (⟨(Lib.trimS l [32, 9]).toArray⟩ : ByteArray) = mkB (Lib.trimS l [32, 9]) := rfl
  rw [this, show (⟨#[]⟩ : ByteArray) = mkB [] from rfl]
  cases hb : blank l with
  | true => exact decide_eq_true (by rw [(trim_blank l).2 hb])
  | false => exact decide_eq_false (fun e => by have := (trim_blank l).1 (mkB_inj e); rw [hb] at this; cases this)
/-- A loop that looks at a text's bytes one by one. -/
theorem byte_loop {R : Type} {F : (Int → Option R) → Int → Option R} {bot : Int → Option R} (l : List UInt8) (g : UInt8 → Option (Option R)) (J : Option R)
    (hs : ∀ ag (i : Nat) b t, l.drop i = b :: t → F ag (i : Int) = (g b).getD (ag ((i + 1 : Nat) : Int))) (he : ∀ ag, F ag (l.length : Int) = J) :
    ∀ (n i : Nat), i ≤ l.length → l.length - i < n → loopG bot F n (i : Int) = ((l.drop i).findSome? g).getD J := by
  intro n
  induction n with
  | zero => intro i h1 h2; omega
  | succ n ih =>
    intro i hi hn
    rw [loopG_succ]
    cases hd : l.drop i with
    | nil =>
      have : l.length ≤ i := List.drop_eq_nil_iff.1 hd
      obtain rfl : i = l.length := by omega
      rw [he]; rfl
    | cons b t =>
      have hlt : i < l.length := by
        rcases Nat.lt_or_ge i l.length with h | h
        · exact h
        · rw [List.drop_eq_nil_of_le h] at hd; cases hd
      rw [hs _ i b t hd, List.findSome?_cons]
      cases hg : g b with
      | some x => rfl
      | none =>
        show loopG bot F n _ = _
        rw [ih (i + 1) (by omega) (by omega), drop_next hd]
theorem big_l {l : List UInt8} (h : l.length ≤ 1073741824) : l.length - 0 < fuel := by unfold fuel; omega
theorem refempty_v (l : List UInt8) (h : l.length ≤ 1073741824) : ref17_Empty_v (mkB l) = some (blank l) := by
  unfold ref17_Empty_v
  refine joinI ?_
  refine (byte_loop l (fun b => if isB b then none else some (some false)) (some true) (fun ag i b t hd => ?_) (fun ag => ?_) fuel 0 (Nat.zero_le _) (big_l h)).trans ?_
  · unfold ref17_Empty_s1
    obtain ⟨hb, hlt⟩ := getB_at (s := mkB l) hd
    refine condTI (decide_eq_true (by omega)) (joinI (thenI hb ?_))
    rw [mkB_size] at hlt
    have go : (grd (I64 ((i : Int) + 1)) <| ag ((i : Int) + 1)) = ag ((i + 1 : Nat) : Int) := grdI ⟨by omega, by omega⟩ (by rw [show (i : Int) + 1 = ((i + 1 : Nat) : Int) by omega])
    unfold isB
    by_cases h32 : b = 32
    · refine condFI (by unfold bne; rw [n32, decide_eq_true h32]; rfl) ?_
      rw [h32]; exact go
    · refine condTI (by unfold bne; rw [n32, decide_eq_false h32]; rfl) ?_
      rw [beq_eq_false_iff_ne.2 h32, Bool.false_or]
      by_cases h9 : b = 9
      · refine condFI (by unfold bne; rw [n9, decide_eq_true h9]; rfl) ?_
        rw [h9]; exact go
      · refine condTI (by unfold bne; rw [n9, decide_eq_false h9]; rfl) ?_
        rw [beq_eq_false_iff_ne.2 h9]; rfl
  · unfold ref17_Empty_s1
    exact condFI (decide_eq_false (by rw [mkB_size]; omega)) rfl
  · rw [List.drop_zero]
    unfold blank
    clear h
    induction l with
    | nil => rfl
    | cons b l ih =>
      rw [List.findSome?_cons, List.all_cons]
      cases hb : isB b with
      | true => simpa using ih
      | false => rfl

/-! ### Title lines -/
def titl : List UInt8 → Bool
  | [] => false
  | [b] => b == 35
  | b :: c :: _ => b == 35 && c == 32
theorem pre_v (l p : List UInt8) : internal_stringslite_HasPrefix_v (mkB l) (mkB p) = some (decide (p.length ≤ l.length) && decide (l.take p.length = p)) := by
  unfold internal_stringslite_HasPrefix_v
  rw [mkB_size, mkB_size]
  by_cases h : p.length ≤ l.length
  · refine condTI (decide_eq_true (by omega)) (grdI ⟨by omega, by omega, by omega⟩ (congrArg some ?_))
    have := cutB_mk l 0 p.length
    rw [show ((0 : Nat) : Int) = 0 from rfl] at this
    rw [this, List.drop_zero, Nat.sub_zero, decide_eq_true h, Bool.true_and]
    by_cases e : l.take p.length = p
    · rw [decide_eq_true e, decide_eq_true (by rw [e])]
    · rw [decide_eq_false e, decide_eq_false (fun x => e (mkB_inj x))]
  · refine condFI (decide_eq_false (by omega)) ?_
    rw [decide_eq_false h]; rfl
theorem titled_v (l : List UInt8) : poem_titled_v (mkB l) = some (titl l) := by
  unfold poem_titled_v strings_HasPrefix_v
  rw [show (⟨#[35]⟩ : ByteArray) = mkB [35] from rfl, show (⟨#[35, 32]⟩ : ByteArray) = mkB [35, 32] from rfl]
  by_cases h : l = [35]
  · subst h; exact condTI (decide_eq_true rfl) rfl
  · refine condFI (decide_eq_false (fun e => h (mkB_inj e))) (thenI (thenI (pre_v _ _) rfl) (congrArg some ?_))
    match l with
    | [] => rfl
    | [b] =>
      have hb : b ≠ 35 := fun e => h (by rw [e])
      show _ = (b == 35)
      rw [beq_eq_false_iff_ne.2 hb]; rfl
    | b :: c :: t =>
      show _ = (b == 35 && c == 32)
      rw [decide_eq_true (by simp), Bool.true_and]
      show decide ([b, c] = [35, 32]) = _
      by_cases hb : b = 35 <;> by_cases hc : c = 32 <;> simp [hb, hc]
theorem reftitled_v (l : List UInt8) : ref17_Titled_v (mkB l) = some (titl l) := by
  unfold ref17_Titled_v
  rw [show (⟨#[35]⟩ : ByteArray) = mkB [35] from rfl]
  by_cases h : l = [35]
  · subst h; exact condTI (decide_eq_true rfl) rfl
  · refine condFI (decide_eq_false (fun e => h (mkB_inj e))) ?_
    match l with
    | [] => exact condFI (decide_eq_false (by rw [mkB_size]; simp)) rfl
    | [b] =>
      have hb : b ≠ 35 := fun e => h (by rw [e])
      refine condFI (decide_eq_false (by rw [mkB_size]; simp)) ?_
      show _ = some (b == 35)
      rw [beq_eq_false_iff_ne.2 hb]
    | b :: c :: t =>
      have h0 := (getB_at (s := mkB (b :: c :: t)) (i := 0) (b := b) (t := c :: t) rfl).1
      have h1 := (getB_at (s := mkB (b :: c :: t)) (i := 1) (b := c) (t := t) rfl).1
      refine condTI (decide_eq_true (by rw [mkB_size]; simp; omega)) (thenI h0 ?_)
      show _ = some (b == 35 && c == 32)
      by_cases hb : b = 35
      · refine condTI (by rw [n35]; exact decide_eq_true hb) (thenI h1 (congrArg some ?_))
        rw [n32, beq_iff_eq.2 hb, Bool.true_and]
        by_cases hc : c = 32
        · rw [decide_eq_true hc, hc]; rfl
        · rw [decide_eq_false hc, beq_eq_false_iff_ne.2 hc]
      · refine condFI (by rw [n35]; exact decide_eq_false hb) ?_
        rw [beq_eq_false_iff_ne.2 hb]; rfl
theorem trimp_v (l : List UInt8) (h : titl l = true) : strings_TrimPrefix_v (mkB (l.drop 1)) (mkB [32]) = some (mkB (l.drop 2)) := by
  unfold strings_TrimPrefix_v internal_stringslite_TrimPrefix_v
  refine thenI (thenI (pre_v _ _) (?_ : _ = some (mkB (l.drop 2)))) rfl
  match l with
  | [] => cases h
  | [b] => exact condFI (by simp) rfl
  | b :: c :: t =>
    have hc : c = 32 := by
      unfold titl at h; rw [Bool.and_eq_true] at h; exact beq_iff_eq.1 h.2
    subst hc
    refine condTI (by simp) (grdI ⟨by omega, by rw [mkB_size, mkB_size, List.drop_one, List.tail_cons, List.length_cons]; simp only [List.length_cons, List.length_nil]; omega, by omega⟩ (congrArg some ?_))
    exact cutB_to (32 :: t) 1

/-! ### Indents -/
def ind (l : List UInt8) : Nat := (l.takeWhile (· == 32)).length
theorem ind_cons (b : UInt8) (l : List UInt8) : ind (b :: l) = if b = 32 then ind l + 1 else 0 := by
  unfold ind
  rw [List.takeWhile_cons]
  by_cases h : b = 32
  · subst h; simp
  · rw [if_neg h, beq_eq_false_iff_ne.2 h]; rfl
theorem ind_le (l : List UInt8) : ind l ≤ l.length := by
  induction l with
  | nil => exact Nat.le_refl _
  | cons b l ih => rw [ind_cons, List.length_cons]; split <;> omega
theorem refindent_v (l : List UInt8) (h : l.length ≤ 1073741824) : ref17_Indent_v (mkB l) = some (ind l : Int) := by
  unfold ref17_Indent_v
  refine joinI ?_
  have key : ∀ (n i : Nat), i ≤ l.length → l.length - i < n → loopG (fun _ => none) (ref17_Indent_s1 (mkB l) (fun (n1 : Int) => some n1)) n (i : Int) = some ((i + ind (l.drop i) : Nat) : Int) := by
    intro n
    induction n with
    | zero => intro i h1 h2; omega
    | succ n ih =>
      intro i hi hn
      rw [loopG_succ]
      obtain ⟨ag, hag⟩ : ∃ ag, ag = loopG (fun _ => none) (ref17_Indent_s1 (mkB l) (fun (n1 : Int) => some n1)) n := ⟨_, rfl⟩
      rw [← hag] at ih ⊢
      unfold ref17_Indent_s1
      cases hd : l.drop i with
      | nil =>
        have : l.length ≤ i := List.drop_eq_nil_iff.1 hd
        exact condFI (decide_eq_false (by rw [mkB_size]; omega)) rfl
      | cons b t =>
        obtain ⟨hb, hlt⟩ := getB_at (s := mkB l) hd
        rw [mkB_size] at hlt
        refine condTI (decide_eq_true (by rw [mkB_size]; omega)) (thenI hb ?_)
        rw [ind_cons]
        by_cases h32 : b = 32
        · refine condTI (by rw [n32]; exact decide_eq_true h32) (grdI ⟨by omega, by omega⟩ ?_)
          have := ih (i + 1) (by omega) (by omega)
          rw [drop_next hd] at this
          rw [if_pos h32, show (i : Int) + 1 = ((i + 1 : Nat) : Int) by omega, this]
          congr 1; omega
        · refine condFI (by rw [n32]; exact decide_eq_false h32) ?_
          rw [if_neg h32]; rfl
  have := key fuel 0 (Nat.zero_le _) (by unfold fuel; omega)
  rw [List.drop_zero, Nat.zero_add] at this
  exact this
theorem indent_v (l : List UInt8) (h : l.length ≤ 1073741824) : poem_indent_v (mkB l) = some (ind l : Int) := by
  unfold poem_indent_v
  refine joinI ?_
  have key : ∀ (n i : Nat), i ≤ l.length → l.length - i < n → (pcs l).drop i = pcsFrom i (l.drop i) → loopG (fun _ _ => none) (poem_indent_s1 (mkB l) (fun (n1 : Int) => some n1)) n (i : Int) i = some ((i + ind (l.drop i) : Nat) : Int) := by
    intro n
    induction n with
    | zero => intro i h1 h2; omega
    | succ n ih =>
      intro i hi hn hp
      rw [loopG_succ]
      obtain ⟨ag, hag⟩ : ∃ ag, ag = loopG (fun _ _ => none) (poem_indent_s1 (mkB l) (fun (n1 : Int) => some n1)) n := ⟨_, rfl⟩
      rw [← hag] at ih ⊢
      unfold poem_indent_s1
      rw [mkB_data]
      cases hd : l.drop i with
      | nil =>
        rw [hd, pcsFrom_nil] at hp
        have := List.drop_eq_nil_iff.1 hp
        exact condFI (decide_eq_false (by omega)) rfl
      | cons b t =>
        obtain ⟨hb, hlt⟩ := getB_at (s := mkB l) hd
        rw [mkB_size] at hlt
        rw [hd, pcsFrom_cons i (b :: t) (by simp)] at hp
        have hlm : i < (pcs l).length := by
          rcases Nat.lt_or_ge i (pcs l).length with h | h
          · exact h
          · rw [List.drop_eq_nil_of_le h] at hp; cases hp
        have hq : (pcs l)[i]? = some ⟨i, (decodeL (b :: t)).2, (decodeL (b :: t)).1⟩ := by
          have hp2 := hp
          rw [List.drop_eq_getElem_cons hlm] at hp2
          rw [List.getElem?_eq_getElem hlm, (List.cons.inj hp2).1]
        refine condTI (decide_eq_true hlm) (thenI hq ?_)
        rw [ind_cons]
        by_cases h32 : b = 32
        · subst h32
          have hdec := decodeL_ascii 32 t (by decide)
          rw [hdec] at hp ⊢
          refine condFI rfl (grdI ⟨by omega, by omega⟩ ?_)
          have := ih (i + 1) (by omega) (by omega) (by
            rw [← List.drop_drop, hp, drop_next hd]; rfl)
          rw [drop_next hd] at this
          rw [if_pos rfl, show (i : Int) + 1 = ((i + 1 : Nat) : Int) by omega]
          refine this.trans ?_
          congr 2; omega
        · refine condTI ?_ (by rw [if_neg h32]; rfl)
          show (((decodeL (b :: t)).1 : Int) != 32) = true
          refine bne_iff_ne.2 (fun e => ?_)
          by_cases hbig : 128 ≤ b.toNat
          · have := (big_piece (t := t) hbig).1; omega
          · rw [decodeL_ascii b t (by omega)] at e
            exact h32 (UInt8.toNat.inj (by show b.toNat = 32; have : ((b.toNat : Nat) : Int) = 32 := e; omega))
  have := key fuel 0 (Nat.zero_le _) (by unfold fuel; omega) (by rw [List.drop_zero, List.drop_zero]; rfl)
  rw [List.drop_zero, Nat.zero_add] at this
  exact this
end Go.Proofs.YtgfkogafkhbgnaaDoor
namespace Go.Proofs.YtgfkogafkhbgnaaDoor
open Go.RowKit Go.Lib
set_option linter.unusedVariables false
set_option linter.unusedSimpArgs false
/-! ### What lines are -/
theorem spP_ok (T : List UInt8) : ∀ (l : List UInt8) (p : Bool) (f a : Nat), T.drop a = l → f ≤ a → (p = true → l.head? = some 10 → f + 1 ≤ a) →
    (∀ b ∈ (T.drop f).take ((if p = true ∧ l.head? = some 10 then a - 1 else a) - f), isE b = false) → a ≤ T.length →
    ∀ x ∈ spP p f a l, x.1 ≤ x.2 ∧ x.2 ≤ T.length ∧ ∀ b ∈ (T.drop x.1).take (x.2 - x.1), isE b = false
  | [], p, f, a, hd, hf, hp, hb, ha => by
    intro x hx
    rw [spP, List.mem_singleton] at hx
    subst hx
    have : T.length ≤ a := List.drop_eq_nil_iff.1 hd
    refine ⟨hf, ha, ?_⟩
    rw [if_neg (by simp)] at hb
    exact hb
  | b :: t, p, f, a, hd, hf, hp, hb, ha => by
    intro x hx
    have hlt : a < T.length := by
      rcases Nat.lt_or_ge a T.length with h | h
      · exact h
      · rw [List.drop_eq_nil_of_le h] at hd; cases hd
    have hd1 := drop_next hd
    have hsnoc : ∀ f', f' ≤ a → (T.drop f').take (a + 1 - f') = (T.drop f').take (a - f') ++ [b] := fun f' hf' => by
      rw [show a + 1 - f' = (a - f') + 1 by omega, List.take_add_one, List.getElem?_drop, show f' + (a - f') = a by omega]
      have : T[a]? = some b := by
        have h0 : (T.drop a)[0]? = some b := by rw [hd]; rfl
        rw [List.getElem?_drop] at h0; exact h0
      rw [this]; rfl
    rw [spP] at hx
    by_cases h13 : b = 13
    · rw [if_pos h13] at hx
      have hne : ¬ (p = true ∧ (b :: t).head? = some 10) := by rw [h13]; simp
      rw [if_neg hne] at hb
      by_cases ht : t.head? = some 10
      · rw [if_pos ht] at hx
        refine spP_ok T t true f (a + 1) hd1 (by omega) (fun _ _ => by omega) ?_ (by omega) x hx
        rw [if_pos ⟨rfl, ht⟩]; exact hb
      · rw [if_neg ht] at hx
        rcases List.mem_cons.1 hx with rfl | hx
        · exact ⟨hf, ha, hb⟩
        · refine spP_ok T t true (a + 1) (a + 1) hd1 (Nat.le_refl _) (fun _ h => absurd h ht) ?_ (by omega) x hx
          rw [if_neg (fun h => ht h.2), Nat.sub_self, List.take_zero]
          intro y hy; cases hy
    · rw [if_neg h13] at hx
      by_cases h10 : b = 10
      · rw [if_pos h10] at hx
        rcases List.mem_cons.1 hx with rfl | hx
        · cases p with
          | true =>
            have := hp rfl (by rw [h10]; rfl)
            rw [if_pos ⟨rfl, by rw [h10]; rfl⟩] at hb
            exact ⟨by show f ≤ a - 1; omega, by show a - 1 ≤ _; omega, hb⟩
          | false =>
            rw [if_neg (by simp)] at hb
            exact ⟨hf, ha, hb⟩
        · refine spP_ok T t false (a + 1) (a + 1) hd1 (Nat.le_refl _) (fun h => by cases h) ?_ (by omega) x hx
          rw [if_neg (by simp), Nat.sub_self, List.take_zero]
          intro y hy; cases hy
      · rw [if_neg h10] at hx
        refine spP_ok T t false f (a + 1) hd1 (by omega) (fun h => by cases h) ?_ (by omega) x hx
        rw [if_neg (by simp), hsnoc f hf]
        have hne : ¬ (p = true ∧ (b :: t).head? = some 10) := fun h => h10 (Option.some.inj h.2)
        rw [if_neg hne] at hb
        intro y hy
        rcases List.mem_append.1 hy with hy | hy
        · exact hb y hy
        · rw [List.mem_singleton] at hy
          subst hy
          unfold isE
          rw [beq_eq_false_iff_ne.2 h13, beq_eq_false_iff_ne.2 h10]; rfl
theorem spans_ok (T : List UInt8) : ∀ x ∈ spansOf T, x.1 ≤ x.2 ∧ x.2 ≤ T.length ∧ ∀ b ∈ (T.drop x.1).take (x.2 - x.1), isE b = false :=
  spP_ok T T false 0 0 (List.drop_zero) (Nat.le_refl _) (fun h => by cases h) (by intro b hb; simp at hb) (Nat.zero_le _)
theorem spP_len : ∀ (l : List UInt8) (p : Bool) (f a : Nat), (spP p f a l).length ≤ l.length + 1
  | [], p, f, a => Nat.le_refl _
  | b :: t, p, f, a => by
    rw [spP, List.length_cons]
    split
    · split
      · have := spP_len t true f (a + 1); omega
      · rw [List.length_cons]; have := spP_len t true (a + 1) (a + 1); omega
    · split
      · rw [List.length_cons]; have := spP_len t false (a + 1) (a + 1); omega
      · have := spP_len t false f (a + 1); omega
/-- A text's lines: where each begins, and its bytes. -/
def items (T : List UInt8) : List (Nat × List UInt8) := (spansOf T).map fun x => (x.1, (T.drop x.1).take (x.2 - x.1))

/-! ### The fold -/
structure RS where
  t : List UInt8
  stz : List (List (List UInt8))
  vs : List Gapi_Verse
  first : Bool
  row : Bool
def lastL (z : List (List (List UInt8))) : List (List UInt8) := z.getLastD []
def open1 (st : RS) : List (List (List UInt8)) := if st.row then st.stz else st.stz ++ [[]]
def verseOf (f : Nat) (x : List UInt8) (z : List (List (List UInt8))) : Gapi_Verse := ⟨mkB (x.drop (ind x)), ind x, (z.length : Int) - 1, (lastL z).length, (f : Int) + ind x, ((f + x.length : Nat) : Int)⟩
def addV (st : RS) (f : Nat) (x : List UInt8) : RS :=
  ⟨st.t, (open1 st).dropLast ++ [lastL (open1 st) ++ [x]], st.vs ++ [verseOf f x (open1 st)], false, true⟩
def rstep (st : RS) (x : Nat × List UInt8) : Except Gapi_Spot RS :=
  if blank x.2 = true then .ok { st with row := false }
  else if 1024 < x.2.length then .error ⟨3, (x.1 : Int) + 1024⟩
  else if st.first = true ∧ titl x.2 = true then .ok { st with first := false, t := x.2.drop 2 }
  else if st.vs.length = 512 then .error ⟨3, x.1⟩
  else .ok (addV st x.1 x.2)
def rfold : RS → List (Nat × List UInt8) → Except Gapi_Spot RS
  | st, [] => .ok st
  | st, x :: xs => match rstep st x with
    | .ok st' => rfold st' xs
    | .error e => .error e
def rs0 : RS := ⟨[], [], [], true, false⟩
def rd (T : List UInt8) : Except Gapi_Spot RS := if 65536 < T.length then .error ⟨3, 65536⟩ else rfold rs0 (items T)
def tot (z : List (List (List UInt8))) : Nat := (z.map List.length).sum
def stSp : Nat → List (List (List UInt8)) → List Gapi_Span
  | _, [] => []
  | n, r :: rs => ⟨n, ((n + r.length : Nat) : Int)⟩ :: stSp (n + r.length) rs
theorem stSp_app : ∀ (a b : List (List (List UInt8))) (n : Nat), stSp n (a ++ b) = stSp n a ++ stSp (n + tot a) b
  | [], b, n => rfl
  | r :: a, b, n => by
    show _ :: stSp (n + r.length) (a ++ b) = _
    rw [stSp_app a b]
    have : n + tot (r :: a) = n + r.length + tot a := by unfold tot; rw [List.map_cons, List.sum_cons]; omega
    rw [this]; rfl
theorem stSp_len : ∀ (a : List (List (List UInt8))) (n : Nat), (stSp n a).length = a.length
  | [], n => rfl
  | r :: a, n => by rw [stSp, List.length_cons, List.length_cons, stSp_len a]
theorem tot_app (a b : List (List (List UInt8))) : tot (a ++ b) = tot a + tot b := by unfold tot; rw [List.map_append, List.sum_append]
theorem tot_one (r : List (List UInt8)) : tot [r] = r.length := by unfold tot; simp
theorem init_last {z : List (List (List UInt8))} (h : z ≠ []) : z = z.dropLast ++ [lastL z] := by
  unfold lastL
  rw [List.getLastD_eq_getLast?, List.getLast?_eq_some_getLast h]
  exact (List.dropLast_concat_getLast h).symm
structure RInv (st : RS) : Prop where
  tot : st.vs.length = tot st.stz
  row : st.row = true → st.stz ≠ []
  most : st.vs.length ≤ 512
  ne : ∀ r ∈ st.stz, r ≠ []
  t0 : st.first = true → st.t = []
theorem tot_ge : ∀ (z : List (List (List UInt8))), (∀ r ∈ z, r ≠ []) → z.length ≤ tot z
  | [], h => Nat.le_refl _
  | r :: z, h => by
    have h1 := tot_ge z fun y hy => h y (by simp [hy])
    have h2 : 0 < r.length := List.length_pos_iff.2 (h r (by simp))
    have : tot (r :: z) = r.length + tot z := by unfold tot; rw [List.map_cons, List.sum_cons]
    rw [this, List.length_cons]; omega
theorem RInv.stzLen {st : RS} (h : RInv st) : st.stz.length ≤ 512 := Nat.le_trans (tot_ge _ h.ne) (h.tot ▸ h.most)
theorem open1_ne {st : RS} (h : RInv st) : open1 st ≠ [] := by
  unfold open1
  split
  · rename_i hr; exact h.row hr
  · simp
theorem open1_len {st : RS} {n : Nat} (h : st.stz.length ≤ n) : (open1 st).length ≤ n + 1 := by
  unfold open1
  split
  · omega
  · rw [List.length_append, List.length_singleton]; omega
theorem open1_tot (st : RS) : tot (open1 st) = tot st.stz := by
  unfold open1
  split
  · rfl
  · rw [tot_app, tot_one]; rfl
theorem RInv.step {st st' : RS} {x : Nat × List UInt8} (h : RInv st) (hs : rstep st x = .ok st') : RInv st' := by
  unfold rstep at hs
  split at hs
  · cases hs; exact ⟨h.tot, (fun e => by cases e), h.most, h.ne, h.t0⟩
  · split at hs
    · cases hs
    · split at hs
      · cases hs; exact ⟨h.tot, h.row, h.most, h.ne, (fun e => by cases e)⟩
      · split at hs
        · cases hs
        · rename_i h512
          cases hs
          have e := init_last (open1_ne h)
          refine ⟨?_, (fun _ => by simp [addV]), ?_, ?_, (fun e => by cases e)⟩
          · show (st.vs ++ [_]).length = Go.Proofs.YtgfkogafkhbgnaaDoor.tot ((open1 st).dropLast ++ [lastL (open1 st) ++ [x.2]])
            have h2 := open1_tot st
            rw [e, tot_app, tot_one] at h2
            rw [tot_app, tot_one, List.length_append, List.length_append, List.length_singleton, List.length_singleton, h.tot, ← h2]
            omega
          · show (st.vs ++ [_]).length ≤ 512
            rw [List.length_append, List.length_singleton]
            have := h.most; omega
          · intro r hr
            rcases List.mem_append.1 hr with hr | hr
            · have hm : r ∈ open1 st := (List.dropLast_sublist _).mem hr
              unfold open1 at hm hr
              split at hm
              · exact h.ne r hm
              · rename_i hrow
                rw [if_neg hrow, List.dropLast_concat] at hr
                exact h.ne r hr
            · rw [List.mem_singleton] at hr
              subst hr; simp
theorem rs0_inv : RInv rs0 := ⟨rfl, (fun e => by cases e), Nat.zero_le _, (fun r hr => by cases hr), (fun _ => rfl)⟩
theorem RInv.fold : ∀ {xs : List (Nat × List UInt8)} {st st' : RS}, RInv st → rfold st xs = .ok st' → RInv st'
  | [], st, st', h, hs => by cases hs; exact h
  | x :: xs, st, st', h, hs => by
    unfold rfold at hs
    cases he : rstep st x with
    | ok s1 => rw [he] at hs; exact RInv.fold (h.step he) hs
    | error e => rw [he] at hs; cases hs
theorem set_last {α : Type} (a : List α) (x y : α) : (a ++ [x]).set a.length y = a ++ [y] := by simp
/-! ### The program -/
def mkZ (z : List (List (List UInt8))) : List (List ByteArray) := z.map (·.map mkB)
section
variable {T : List UInt8} {st : RS} {sp : Nat × Nat} {k : Nat}
theorem last_sp {st : RS} (h : RInv st) : ∃ init r, open1 st = init ++ [r] ∧ lastL (open1 st) = r ∧ (open1 st).dropLast = init ∧ tot init + r.length = st.vs.length ∧ stSp 0 (open1 st) = stSp 0 init ++ [⟨(tot init : Int), (st.vs.length : Int)⟩] := by
  have e := init_last (open1_ne h)
  refine ⟨_, _, e, rfl, rfl, ?_, ?_⟩
  · have h2 := open1_tot st
    rw [e, tot_app, tot_one] at h2
    rw [h.tot]; exact h2
  · have h2 := open1_tot st
    rw [e, tot_app, tot_one] at h2
    conv => lhs; rw [e]
    rw [stSp_app, Nat.zero_add]
    show _ ++ [(⟨(tot (open1 st).dropLast : Int), ((tot (open1 st).dropLast + (lastL (open1 st)).length : Nat) : Int)⟩ : Gapi_Span)] = _
    rw [h2, h.tot]
theorem read_step {J : ByteArray → (List Gapi_Verse) → (List Gapi_Span) → Option ((Option Gpoem_Poem) × Gapi_Spot)} {m : Gplace_Map} {n : Int} {ag : ByteArray → (List Gapi_Verse) → (List Gapi_Span) → Bool → Bool → Int → Option ((Option Gpoem_Poem) × Gapi_Spot)}
    (hT : T.length ≤ 65536) (hI : RInv st) (hk : (spansOf T)[k]? = some sp) (hm : m.lines.map spE = (spansOf T).map mkS) (hn : (k : Int) < n) :
    poem_Read_s1 (mkB T) J m n ag (mkB st.t) st.vs (stSp 0 st.stz) st.first st.row (k : Int) =
      match rstep st (sp.1, (T.drop sp.1).take (sp.2 - sp.1)) with
      | .error e => some (none, e)
      | .ok st' => ag (mkB st'.t) st'.vs (stSp 0 st'.stz) st'.first st'.row ((k + 1 : Nat) : Int) := by
  obtain ⟨h1, h2, _⟩ := spans_ok T sp (List.mem_of_getElem? hk)
  have hkl := (List.getElem?_eq_some_iff.1 hk).1
  have hkb := spP_len T false 0 0
  have hkb2 : (spansOf T).length ≤ T.length + 1 := hkb
  obtain ⟨q, hq, hqs⟩ : ∃ q, m.lines[k]? = some q ∧ spE q = mkS sp := by
    have h3 : (m.lines.map spE)[k]? = some (mkS sp) := by rw [hm, List.getElem?_map, hk]; rfl
    rw [List.getElem?_map] at h3
    obtain ⟨q, a, b⟩ := Option.map_eq_some_iff.1 h3
    exact ⟨q, a, b⟩
  have hlen : m.lines.length = (spansOf T).length := by have := congrArg List.length hm; simpa using this
  have hq1 : q.span_From = (sp.1 : Int) := congrArg Gapi_Span.From hqs
  have hq2 : q.span_To = (sp.2 : Int) := congrArg Gapi_Span.To hqs
  have hspan : place_Map_Span_v m (k : Int) = some ((⟨(sp.1 : Int), (sp.2 : Int)⟩ : Gapi_Span), q.end_, 0) := by
    unfold place_Map_Span_v
    refine condFI (decide_eq_false (by omega)) (condFI (decide_eq_false (by omega)) (thenI (getO_nat hq) ?_))
    rw [hq1, hq2]
  have hcut : cutB (mkB T) (sp.1 : Int) (sp.2 : Int) = mkB ((T.drop sp.1).take (sp.2 - sp.1)) := cutB_mk T sp.1 sp.2
  generalize hx : (T.drop sp.1).take (sp.2 - sp.1) = x at hcut ⊢
  have hxl : x.length = sp.2 - sp.1 := by rw [← hx, List.length_take, List.length_drop]; omega
  unfold poem_Read_s1
  refine condTI (decide_eq_true hn) (joinI (joinI (thenI hspan (grdI ⟨by show (0 : Int) ≤ (sp.1 : Int); omega, by show (sp.1 : Int) ≤ sp.2; omega, by show (sp.2 : Int) ≤ _; rw [mkB_size]; omega⟩ ?_))))
  show andThen (poem_empty_v (cutB (mkB T) (sp.1 : Int) (sp.2 : Int))) _ = _
  rw [hcut]
  refine thenI (empty_v x (by omega)) ?_
  unfold rstep
  have goOn : ∀ (a : ByteArray) (b : List Gapi_Verse) (c : List Gapi_Span) (d e : Bool), (grd (I64 ((k : Int) + 1)) <| ag a b c d e ((k : Int) + 1)) = ag a b c d e ((k + 1 : Nat) : Int) := fun a b c d e => grdI ⟨by omega, by omega⟩ (by rw [show (k : Int) + 1 = ((k + 1 : Nat) : Int) by omega])
  cases hb : blank x with
  | true =>
    rw [if_pos rfl]
    exact condTI rfl (goOn _ _ _ _ _)
  | false =>
    rw [if_neg (by decide)]
    refine condFI rfl ?_
    by_cases hbig : 1024 < x.length
    · rw [if_pos hbig]
      exact condTI (decide_eq_true (by rw [mkB_size]; omega)) (grdI ⟨by show _ ≤ (sp.1 : Int) + 1024; omega, by show (sp.1 : Int) + 1024 ≤ _; omega⟩ rfl)
    · rw [if_neg hbig]
      refine condFI (decide_eq_false (by rw [mkB_size]; omega)) ?_
      have h512 := hI.most
      -- the line is one of verse
      have verse : ¬ (st.first = true ∧ titl x = true) → (bcond (((st.vs.length : Int) : Int) == 512) (some (none, (⟨3, (sp.1 : Int)⟩ : Gapi_Spot))) (joinK (fun (j4 : (List Gapi_Span) → Option ((Option Gpoem_Poem) × Gapi_Spot)) =>
          bcond (!st.row) (grd ((stSp 0 st.stz).length + 1 ≤ 2147483648) <| j4 (stSp 0 st.stz ++ [(⟨(st.vs.length : Int), (st.vs.length : Int)⟩ : Gapi_Span)])) (j4 (stSp 0 st.stz))) (fun (p20 : List Gapi_Span) =>
            grd (I64 ((p20.length : Int) - 1)) <|
            andThen (getO p20 ((p20.length : Int) - 1)) fun (q1 : Gapi_Span) =>
            andThen (poem_indent_v (mkB x)) fun (r7 : Int) =>
            grd (0 ≤ (r7 : Int) ∧ (r7 : Int) ≤ ((mkB x).size : Int) ∧ (((mkB x).size : Int) : Int) ≤ ((mkB x).size : Int)) <|
            grd (I64 ((p20.length : Int) - 1)) <|
            grd (I64 ((st.vs.length : Int) - q1.From)) <|
            grd (I64 ((sp.1 : Int) + r7)) <|
            grd (st.vs.length + 1 ≤ 2147483648) <|
            grd (I64 ((st.vs.length : Int) + 1)) <|
            (grd (I64 ((k : Int) + 1)) <| ag (mkB st.t) (st.vs ++ [(⟨cutB (mkB x) r7 ((mkB x).size : Int), r7, (p20.length : Int) - 1, (st.vs.length : Int) - q1.From, (sp.1 : Int) + r7, (sp.2 : Int)⟩ : Gapi_Verse)]) (p20.set ((p20.length : Int) - 1 : Int).toNat (⟨q1.From, (st.vs.length : Int) + 1⟩ : Gapi_Span)) false true ((k : Int) + 1))))) =
          match (if st.vs.length = 512 then Except.error (⟨3, (sp.1 : Int)⟩ : Gapi_Spot) else Except.ok (addV st sp.1 x)) with
          | .error e => some (none, e)
          | .ok st' => ag (mkB st'.t) st'.vs (stSp 0 st'.stz) st'.first st'.row ((k + 1 : Nat) : Int) := fun hnt => by
        by_cases hfull : st.vs.length = 512
        · rw [if_pos hfull]; exact condTI (beq_iff_eq.2 (by omega)) rfl
        · rw [if_neg hfull]
          refine condFI (beq_eq_false_iff_ne.2 (by omega)) (joinI ?_)
          obtain ⟨init, r, he, hl, hdl, htot, hsp⟩ := last_sp hI
          have hzl := hI.stzLen
          have hol : (open1 st).length ≤ 513 := open1_len hzl
          have hil : init.length + 1 = (open1 st).length := by rw [he]; simp
          have tail : ∀ p20 : List Gapi_Span, p20 = stSp 0 (open1 st) → (grd (I64 ((p20.length : Int) - 1)) <|
            andThen (getO p20 ((p20.length : Int) - 1)) fun (q1 : Gapi_Span) =>
            andThen (poem_indent_v (mkB x)) fun (r7 : Int) =>
            grd (0 ≤ (r7 : Int) ∧ (r7 : Int) ≤ ((mkB x).size : Int) ∧ (((mkB x).size : Int) : Int) ≤ ((mkB x).size : Int)) <|
            grd (I64 ((p20.length : Int) - 1)) <|
            grd (I64 ((st.vs.length : Int) - q1.From)) <|
            grd (I64 ((sp.1 : Int) + r7)) <|
            grd (st.vs.length + 1 ≤ 2147483648) <|
            grd (I64 ((st.vs.length : Int) + 1)) <|
            (grd (I64 ((k : Int) + 1)) <| ag (mkB st.t) (st.vs ++ [(⟨cutB (mkB x) r7 ((mkB x).size : Int), r7, (p20.length : Int) - 1, (st.vs.length : Int) - q1.From, (sp.1 : Int) + r7, (sp.2 : Int)⟩ : Gapi_Verse)]) (p20.set ((p20.length : Int) - 1 : Int).toNat (⟨q1.From, (st.vs.length : Int) + 1⟩ : Gapi_Span)) false true ((k : Int) + 1))) =
              ag (mkB (addV st sp.1 x).t) (addV st sp.1 x).vs (stSp 0 (addV st sp.1 x).stz) (addV st sp.1 x).first (addV st sp.1 x).row ((k + 1 : Nat) : Int) := fun p20 hp => by
            have hpl : p20.length = (open1 st).length := by rw [hp, stSp_len]
            have hg : getO p20 ((p20.length : Int) - 1) = some ⟨(tot init : Int), (st.vs.length : Int)⟩ := by
              refine getO_of (n := init.length) (by omega) ?_
              rw [hp, hsp, List.getElem?_append_right (by rw [stSp_len]; exact Nat.le_refl _), stSp_len, Nat.sub_self]; rfl
            have hind := ind_le x
            refine grdI ⟨by omega, by omega⟩ (thenI hg (thenI (indent_v x (by omega)) (grdI ⟨by omega, by rw [mkB_size]; omega, by omega⟩ (grdI ⟨by omega, by omega⟩ (grdI ⟨by show _ ≤ (st.vs.length : Int) - (tot init : Int); omega, by show (st.vs.length : Int) - (tot init : Int) ≤ _; omega⟩ (grdI ⟨by omega, by omega⟩ (grdI (by omega) (grdI ⟨by omega, by omega⟩ ?_))))))))
            refine (goOn _ _ _ _ _).trans ?_
            have e1 : (p20.set ((p20.length : Int) - 1 : Int).toNat (⟨(tot init : Int), (st.vs.length : Int) + 1⟩ : Gapi_Span)) = stSp 0 (addV st sp.1 x).stz := by
              rw [show ((p20.length : Int) - 1 : Int).toNat = (stSp 0 init).length by rw [stSp_len]; omega, hp, hsp, set_last]
              show _ = stSp 0 ((open1 st).dropLast ++ [lastL (open1 st) ++ [x]])
              rw [hdl, hl, stSp_app, Nat.zero_add]
              show _ = _ ++ [(⟨(tot init : Int), ((tot init + (r ++ [x]).length : Nat) : Int)⟩ : Gapi_Span)]
              rw [List.length_append, List.length_singleton]
              congr 3
              omega
            have e2 : (⟨cutB (mkB x) (ind x : Int) ((mkB x).size : Int), (ind x : Int), (p20.length : Int) - 1, (st.vs.length : Int) - (tot init : Int), (sp.1 : Int) + (ind x : Int), (sp.2 : Int)⟩ : Gapi_Verse) = verseOf sp.1 x (open1 st) := by
              unfold verseOf
              rw [cutB_to, hpl, hl]
              congr 1
              · omega
              · omega
            show ag _ (st.vs ++ [_]) _ _ _ _ = _
            rw [e2]
            show ag _ _ (p20.set _ _) _ _ _ = _
            rw [e1]
            rfl
          cases hr : st.row with
          | true =>
            refine condFI rfl ?_
            exact tail _ (by unfold open1; rw [hr]; rfl)
          | false =>
            refine condTI rfl (grdI (by rw [stSp_len]; omega) ?_)
            refine tail _ ?_
            unfold open1; rw [hr, if_neg (by decide), stSp_app, Nat.zero_add, ← hI.tot]
            rfl
      cases hf : st.first with
      | true =>
        refine condTI rfl (thenI (titled_v x) ?_)
        cases ht : titl x with
        | true =>
          rw [if_pos ⟨rfl, rfl⟩]
          have hx1 : 1 ≤ x.length := by
            cases x with
            | nil => cases ht
            | cons b t => simp
          refine condTI rfl (grdI ⟨by omega, by rw [mkB_size]; omega, by omega⟩ (thenI (a := mkB (x.drop 2)) ?_ (goOn _ _ _ _ _)))
          have := cutB_to x 1
          rw [show ((1 : Nat) : Int) = 1 from rfl] at this
          rw [this]
          exact trimp_v x ht
        | false =>
          rw [if_neg (by simp)]
          refine condFI rfl ?_
          exact verse (by rw [ht]; simp)
      | false =>
        rw [if_neg (by simp)]
        refine condFI rfl ?_
        exact verse (by rw [hf]; simp)
end
theorem read_loop {T : List UInt8} {J : ByteArray → (List Gapi_Verse) → (List Gapi_Span) → Option ((Option Gpoem_Poem) × Gapi_Spot)} {m : Gplace_Map} (hT : T.length ≤ 65536) (hm : m.lines.map spE = (spansOf T).map mkS) :
    ∀ (n k : Nat) (st : RS), RInv st → k ≤ (spansOf T).length → (spansOf T).length - k < n →
      loopG (fun _ _ _ _ _ _ => none) (poem_Read_s1 (mkB T) J m (m.lines.length : Int)) n (mkB st.t) st.vs (stSp 0 st.stz) st.first st.row (k : Int) =
        match rfold st ((items T).drop k) with
        | .error e => some (none, e)
        | .ok st' => J (mkB st'.t) st'.vs (stSp 0 st'.stz) := by
  have hlen : m.lines.length = (spansOf T).length := by have := congrArg List.length hm; simpa using this
  intro n
  induction n with
  | zero => intro k st h1 h2 h3; omega
  | succ n ih =>
    intro k st hI hk hn
    rw [loopG_succ]
    obtain ⟨ag, hag⟩ : ∃ ag, ag = loopG (fun _ _ _ _ _ _ => none) (poem_Read_s1 (mkB T) J m (m.lines.length : Int)) n := ⟨_, rfl⟩
    rw [← hag] at ih ⊢
    rcases Nat.lt_or_ge k (spansOf T).length with h | h
    · obtain ⟨sp, hsp⟩ : ∃ sp, (spansOf T)[k]? = some sp := ⟨_, List.getElem?_eq_getElem h⟩
      rw [read_step hT hI hsp hm (by omega)]
      have hi : (items T).drop k = (sp.1, (T.drop sp.1).take (sp.2 - sp.1)) :: (items T).drop (k + 1) := by
        have hl : k < (items T).length := by unfold items; rw [List.length_map]; exact h
        rw [List.drop_eq_getElem_cons hl]
        congr 1
        have : (items T)[k]? = some (sp.1, (T.drop sp.1).take (sp.2 - sp.1)) := by unfold items; rw [List.getElem?_map, hsp]; rfl
        rw [List.getElem?_eq_getElem hl] at this
        exact Option.some.inj this
      rw [hi, rfold]
      cases hs : rstep st (sp.1, (T.drop sp.1).take (sp.2 - sp.1)) with
      | error e => rfl
      | ok st' => exact ih (k + 1) st' (hI.step hs) (by omega) (by omega)
    · rw [List.drop_eq_nil_of_le (by unfold items; rw [List.length_map]; exact h)]
      unfold poem_Read_s1
      exact condFI (decide_eq_false (by omega)) rfl
/-- What poem.Read answers. -/
theorem read_v (T : List UInt8) : poem_Read_v (mkB T) = match rd T with
    | .error e => some (none, e)
    | .ok st => some (some (⟨mkB st.t, st.vs, stSp 0 st.stz, mkB T⟩ : Gpoem_Poem), (⟨0, 0⟩ : Gapi_Spot)) := by
  unfold poem_Read_v rd
  by_cases h : 65536 < T.length
  · rw [if_pos h]
    exact thenI (new_long _ (by rw [mkB_size]; exact h)) (condTI rfl rfl)
  · rw [if_neg h]
    obtain ⟨m, h1, h2, h3⟩ := new_v (mkB T) (by rw [mkB_size]; omega)
    refine thenI h1 (condFI rfl (joinI (thenI rfl (thenI rfl ?_))))
    have hl := spP_len T false 0 0
    have hl2 : (spansOf T).length ≤ T.length + 1 := hl
    have := read_loop (J := fun (p1 : ByteArray) (p2 : List Gapi_Verse) (p3 : List Gapi_Span) => some ((some (⟨p1, p2, p3, mkB T⟩ : Gpoem_Poem)), (⟨0, 0⟩ : Gapi_Spot))) (T := T) (m := m) (by omega) h3 fuel 0 rs0 rs0_inv (Nat.zero_le _) (by unfold fuel; omega)
    rw [List.drop_zero] at this
    exact this
end Go.Proofs.YtgfkogafkhbgnaaDoor
namespace Go.Proofs.YtgfkogafkhbgnaaDoor
open Go.RowKit Go.Lib
set_option linter.unusedVariables false
set_option linter.unusedSimpArgs false
theorem mkZ_app (a b : List (List (List UInt8))) : mkZ (a ++ b) = mkZ a ++ mkZ b := List.map_append
theorem mkZ_len (a : List (List (List UInt8))) : (mkZ a).length = a.length := List.length_map ..
section
variable {T : List UInt8} {st : RS} {sp : Nat × Nat} {k : Nat}
theorem refread_step {J : ByteArray → (List (List ByteArray)) → (List Gapi_Verse) → Option (Gref17_Poem × (List Gapi_Verse) × Gapi_Spot)} {ag : ByteArray → (List (List ByteArray)) → (List Gapi_Verse) → Bool → Bool → Int → Option (Gref17_Poem × (List Gapi_Verse) × Gapi_Spot)}
    (hT : T.length ≤ 65536) (hI : RInv st) (hk : (spansOf T)[k]? = some sp) :
    ref17_Read_s1 (mkB T) J ((spansOf T).map mkS) ag (mkB st.t) (mkZ st.stz) st.vs st.first st.row (k : Int) =
      match rstep st (sp.1, (T.drop sp.1).take (sp.2 - sp.1)) with
      | .error e => some ((⟨ByteArray.empty, ([] : List (List ByteArray))⟩ : Gref17_Poem), ([] : List Gapi_Verse), e)
      | .ok st' => ag (mkB st'.t) (mkZ st'.stz) st'.vs st'.first st'.row ((k + 1 : Nat) : Int) := by
  obtain ⟨h1, h2, _⟩ := spans_ok T sp (List.mem_of_getElem? hk)
  have hkl := (List.getElem?_eq_some_iff.1 hk).1
  have hkb := spP_len T false 0 0
  have hkb2 : (spansOf T).length ≤ T.length + 1 := hkb
  have hq : getO ((spansOf T).map mkS) (k : Int) = some (mkS sp) := getO_nat (by rw [List.getElem?_map, hk]; rfl)
  have hcut : cutB (mkB T) (sp.1 : Int) (sp.2 : Int) = mkB ((T.drop sp.1).take (sp.2 - sp.1)) := cutB_mk T sp.1 sp.2
  generalize hx : (T.drop sp.1).take (sp.2 - sp.1) = x at hcut ⊢
  have hxl : x.length = sp.2 - sp.1 := by rw [← hx, List.length_take, List.length_drop]; omega
  unfold ref17_Read_s1
  refine condTI (decide_eq_true (by rw [List.length_map]; omega)) (joinI (thenI hq (grdI ⟨by show (0 : Int) ≤ (sp.1 : Int); omega, by show (sp.1 : Int) ≤ sp.2; omega, by show (sp.2 : Int) ≤ _; rw [mkB_size]; omega⟩ ?_)))
  show andThen (ref17_Empty_v (cutB (mkB T) (sp.1 : Int) (sp.2 : Int))) _ = _
  have hcut2 : cutB (mkB T) (mkS sp).From (mkS sp).To = mkB x := hcut
  rw [hcut, hcut2]
  refine thenI (refempty_v x (by omega)) ?_
  unfold rstep
  have goOn : ∀ (a : ByteArray) (b : List (List ByteArray)) (c : List Gapi_Verse) (d e : Bool), (grd (I64 ((k : Int) + 1)) <| ag a b c d e ((k : Int) + 1)) = ag a b c d e ((k + 1 : Nat) : Int) := fun a b c d e => grdI ⟨by omega, by omega⟩ (by rw [show (k : Int) + 1 = ((k + 1 : Nat) : Int) by omega])
  cases hb : blank x with
  | true =>
    rw [if_pos rfl]
    exact condTI rfl (goOn _ _ _ _ _)
  | false =>
    rw [if_neg (by decide)]
    refine condFI rfl ?_
    by_cases hbig : 1024 < x.length
    · rw [if_pos hbig]
      exact condTI (decide_eq_true (by rw [mkB_size]; omega)) (grdI ⟨by show _ ≤ (sp.1 : Int) + 1024; omega, by show (sp.1 : Int) + 1024 ≤ _; omega⟩ rfl)
    · rw [if_neg hbig]
      refine condFI (decide_eq_false (by rw [mkB_size]; omega)) ?_
      have h512 := hI.most
      have verse : ∀ Z : Option (Gref17_Poem × (List Gapi_Verse) × Gapi_Spot), Z = (bcond (((st.vs.length : Int) : Int) == 512) (some ((⟨ByteArray.empty, ([] : List (List ByteArray))⟩ : Gref17_Poem), ([] : List Gapi_Verse), (⟨3, (mkS sp).From⟩ : Gapi_Spot))) (joinK (fun (j5 : (List (List ByteArray)) → Option (Gref17_Poem × (List Gapi_Verse) × Gapi_Spot)) =>
          bcond (!st.row) (grd ((mkZ st.stz).length + 1 ≤ 2147483648) <| j5 (mkZ st.stz ++ [([] : List ByteArray)])) (j5 (mkZ st.stz))) (fun (p15 : List (List ByteArray)) =>
            grd (I64 ((p15.length : Int) - 1)) <|
            andThen (ref17_Indent_v (mkB x)) fun (r4 : Int) =>
            grd (0 ≤ (r4 : Int) ∧ (r4 : Int) ≤ ((mkB x).size : Int) ∧ (((mkB x).size : Int) : Int) ≤ ((mkB x).size : Int)) <|
            andThen (ref17_Indent_v (mkB x)) fun (r5 : Int) =>
            andThen (getO p15 ((p15.length : Int) - 1)) fun (x1 : List ByteArray) =>
            andThen (ref17_Indent_v (mkB x)) fun (r6 : Int) =>
            grd (I64 ((mkS sp).From + r6)) <|
            grd (st.vs.length + 1 ≤ 2147483648) <|
            andThen (getO p15 ((p15.length : Int) - 1)) fun (x2 : List ByteArray) =>
            grd (x2.length + 1 ≤ 2147483648) <|
            (grd (I64 ((k : Int) + 1)) <| ag (mkB st.t) (p15.set ((p15.length : Int) - 1 : Int).toNat (x2 ++ [mkB x])) (st.vs ++ [(⟨cutB (mkB x) r4 ((mkB x).size : Int), r5, (p15.length : Int) - 1, (x1.length : Int), (mkS sp).From + r6, (mkS sp).To⟩ : Gapi_Verse)]) false true ((k : Int) + 1))))) →
          ¬ (st.first = true ∧ titl x = true) → Z =
          match (if st.vs.length = 512 then Except.error (⟨3, (sp.1 : Int)⟩ : Gapi_Spot) else Except.ok (addV st sp.1 x)) with
          | .error e => some ((⟨ByteArray.empty, ([] : List (List ByteArray))⟩ : Gref17_Poem), ([] : List Gapi_Verse), e)
          | .ok st' => ag (mkB st'.t) (mkZ st'.stz) st'.vs st'.first st'.row ((k + 1 : Nat) : Int) := fun Z hZ hnt => by
        rw [hZ]
        by_cases hfull : st.vs.length = 512
        · rw [if_pos hfull]; exact condTI (beq_iff_eq.2 (by omega)) rfl
        · rw [if_neg hfull]
          refine condFI (beq_eq_false_iff_ne.2 (by omega)) (joinI ?_)
          obtain ⟨init, r, he, hl, hdl, htot, hsp⟩ := last_sp hI
          have hzl := hI.stzLen
          have hol : (open1 st).length ≤ 513 := open1_len hzl
          have hil : init.length + 1 = (open1 st).length := by rw [he]; simp
          have tail : ∀ p15 : List (List ByteArray), p15 = mkZ (open1 st) → (grd (I64 ((p15.length : Int) - 1)) <|
            andThen (ref17_Indent_v (mkB x)) fun (r4 : Int) =>
            grd (0 ≤ (r4 : Int) ∧ (r4 : Int) ≤ ((mkB x).size : Int) ∧ (((mkB x).size : Int) : Int) ≤ ((mkB x).size : Int)) <|
            andThen (ref17_Indent_v (mkB x)) fun (r5 : Int) =>
            andThen (getO p15 ((p15.length : Int) - 1)) fun (x1 : List ByteArray) =>
            andThen (ref17_Indent_v (mkB x)) fun (r6 : Int) =>
            grd (I64 ((mkS sp).From + r6)) <|
            grd (st.vs.length + 1 ≤ 2147483648) <|
            andThen (getO p15 ((p15.length : Int) - 1)) fun (x2 : List ByteArray) =>
            grd (x2.length + 1 ≤ 2147483648) <|
            (grd (I64 ((k : Int) + 1)) <| ag (mkB st.t) (p15.set ((p15.length : Int) - 1 : Int).toNat (x2 ++ [mkB x])) (st.vs ++ [(⟨cutB (mkB x) r4 ((mkB x).size : Int), r5, (p15.length : Int) - 1, (x1.length : Int), (mkS sp).From + r6, (mkS sp).To⟩ : Gapi_Verse)]) false true ((k : Int) + 1))) =
              ag (mkB (addV st sp.1 x).t) (mkZ (addV st sp.1 x).stz) (addV st sp.1 x).vs (addV st sp.1 x).first (addV st sp.1 x).row ((k + 1 : Nat) : Int) := fun p15 hp => by
            have hpl : p15.length = (open1 st).length := by rw [hp, mkZ_len]
            have hg : getO p15 ((p15.length : Int) - 1) = some (r.map mkB) := by
              refine getO_of (n := init.length) (by omega) ?_
              rw [hp, he, mkZ_app, List.getElem?_append_right (by rw [mkZ_len]; exact Nat.le_refl _), mkZ_len, Nat.sub_self]; rfl
            have hind := ind_le x
            refine grdI ⟨by omega, by omega⟩ (thenI (refindent_v x (by omega)) (grdI ⟨by omega, by rw [mkB_size]; omega, by omega⟩ (thenI (refindent_v x (by omega)) (thenI hg (thenI (refindent_v x (by omega)) (grdI ⟨by show _ ≤ (sp.1 : Int) + _; omega, by show (sp.1 : Int) + _ ≤ _; omega⟩ (grdI (by omega) (thenI hg (grdI (by rw [List.length_map]; omega) ?_)))))))))
            refine (goOn _ _ _ _ _).trans ?_
            have e1 : (p15.set ((p15.length : Int) - 1 : Int).toNat (r.map mkB ++ [mkB x])) = mkZ (addV st sp.1 x).stz := by
              rw [show ((p15.length : Int) - 1 : Int).toNat = (mkZ init).length by rw [mkZ_len]; omega, hp, he, mkZ_app]
              show ((mkZ init ++ [r.map mkB]).set _ _) = mkZ ((open1 st).dropLast ++ [lastL (open1 st) ++ [x]])
              rw [set_last, hdl, hl, mkZ_app]
              show _ = _ ++ [(r ++ [x]).map mkB]
              rw [List.map_append]; rfl
            have e2 : (⟨cutB (mkB x) (ind x : Int) ((mkB x).size : Int), (ind x : Int), (p15.length : Int) - 1, ((r.map mkB).length : Int), (mkS sp).From + (ind x : Int), (mkS sp).To⟩ : Gapi_Verse) = verseOf sp.1 x (open1 st) := by
              unfold verseOf
              rw [cutB_to, hpl, hl, List.length_map]
              congr 1
              show (sp.2 : Int) = _
              omega
            rw [e2, e1]
            rfl
          cases hr : st.row with
          | true =>
            refine condFI rfl ?_
            exact tail _ (by unfold open1; rw [hr]; rfl)
          | false =>
            refine condTI rfl (grdI (by rw [mkZ_len]; omega) ?_)
            refine tail _ ?_
            unfold open1; rw [hr, if_neg (by decide), mkZ_app]
            rfl
      refine joinI ?_
      cases hf : st.first with
      | true =>
        refine condTI rfl (thenI (reftitled_v x) ?_)
        cases ht : titl x with
        | true =>
          rw [if_pos ⟨rfl, rfl⟩]
          refine condTI rfl (joinI ?_)
          by_cases h2l : 2 < x.length
          · refine condTI (decide_eq_true (by rw [mkB_size]; omega)) (grdI ⟨by omega, by rw [mkB_size]; omega, by omega⟩ ?_)
            have := cutB_to x 2
            rw [show ((2 : Nat) : Int) = 2 from rfl] at this
            rw [this]
            exact goOn _ _ _ _ _
          · refine condFI (decide_eq_false (by rw [mkB_size]; omega)) ?_
            rw [hI.t0 hf, List.drop_eq_nil_of_le (by show x.length ≤ 2; omega)]
            exact goOn _ _ _ _ _
        | false =>
          rw [if_neg (by simp)]
          refine condFI rfl ?_
          exact verse _ rfl (by rw [ht]; simp)
      | false =>
        rw [if_neg (by simp)]
        refine condFI rfl ?_
        exact verse _ rfl (by rw [hf]; simp)
end
theorem refread_loop {T : List UInt8} {J : ByteArray → (List (List ByteArray)) → (List Gapi_Verse) → Option (Gref17_Poem × (List Gapi_Verse) × Gapi_Spot)} (hT : T.length ≤ 65536) :
    ∀ (n k : Nat) (st : RS), RInv st → k ≤ (spansOf T).length → (spansOf T).length - k < n →
      loopG (fun _ _ _ _ _ _ => none) (ref17_Read_s1 (mkB T) J ((spansOf T).map mkS)) n (mkB st.t) (mkZ st.stz) st.vs st.first st.row (k : Int) =
        match rfold st ((items T).drop k) with
        | .error e => some ((⟨ByteArray.empty, ([] : List (List ByteArray))⟩ : Gref17_Poem), ([] : List Gapi_Verse), e)
        | .ok st' => J (mkB st'.t) (mkZ st'.stz) st'.vs := by
  intro n
  induction n with
  | zero => intro k st h1 h2 h3; omega
  | succ n ih =>
    intro k st hI hk hn
    rw [loopG_succ]
    obtain ⟨ag, hag⟩ : ∃ ag, ag = loopG (fun _ _ _ _ _ _ => none) (ref17_Read_s1 (mkB T) J ((spansOf T).map mkS)) n := ⟨_, rfl⟩
    rw [← hag] at ih ⊢
    rcases Nat.lt_or_ge k (spansOf T).length with h | h
    · obtain ⟨sp, hsp⟩ : ∃ sp, (spansOf T)[k]? = some sp := ⟨_, List.getElem?_eq_getElem h⟩
      rw [refread_step hT hI hsp]
      have hi : (items T).drop k = (sp.1, (T.drop sp.1).take (sp.2 - sp.1)) :: (items T).drop (k + 1) := by
        have hl : k < (items T).length := by unfold items; rw [List.length_map]; exact h
        rw [List.drop_eq_getElem_cons hl]
        congr 1
        have : (items T)[k]? = some (sp.1, (T.drop sp.1).take (sp.2 - sp.1)) := by unfold items; rw [List.getElem?_map, hsp]; rfl
        rw [List.getElem?_eq_getElem hl] at this
        exact Option.some.inj this
      rw [hi, rfold]
      cases hs : rstep st (sp.1, (T.drop sp.1).take (sp.2 - sp.1)) with
      | error e => rfl
      | ok st' => exact ih (k + 1) st' (hI.step hs) (by omega) (by omega)
    · rw [List.drop_eq_nil_of_le (by unfold items; rw [List.length_map]; exact h)]
      unfold ref17_Read_s1
      exact condFI (decide_eq_false (by rw [List.length_map]; omega)) rfl
/-- What reference 17's Read answers. -/
theorem refread_v (T : List UInt8) : ref17_Read_v (mkB T) = match rd T with
    | .error e => some ((⟨ByteArray.empty, ([] : List (List ByteArray))⟩ : Gref17_Poem), ([] : List Gapi_Verse), e)
    | .ok st => some ((⟨mkB st.t, mkZ st.stz⟩ : Gref17_Poem), st.vs, (⟨0, 0⟩ : Gapi_Spot)) := by
  unfold ref17_Read_v rd
  by_cases h : 65536 < T.length
  · rw [if_pos h]
    exact condTI (decide_eq_true (by rw [mkB_size]; omega)) rfl
  · rw [if_neg h]
    refine condFI (decide_eq_false (by rw [mkB_size]; omega)) (joinI (thenI (reflines_v _ (by rw [mkB_size]; omega)) ?_))
    have hl := spP_len T false 0 0
    have hl2 : (spansOf T).length ≤ T.length + 1 := hl
    have := refread_loop (J := fun (p1 : ByteArray) (p2 : List (List ByteArray)) (l1 : List Gapi_Verse) => some ((⟨p1, p2⟩ : Gref17_Poem), l1, (⟨0, 0⟩ : Gapi_Spot))) (T := T) (by omega) fuel 0 rs0 rs0_inv (Nat.zero_le _) (by unfold fuel; omega)
    rw [List.drop_zero] at this
    exact this
end Go.Proofs.YtgfkogafkhbgnaaDoor
namespace Go.Proofs.YtgfkogafkhbgnaaDoor
open Go.RowKit Go.Lib
set_option linter.unusedVariables false
set_option linter.unusedSimpArgs false
def poem_Poem_Each_1_s1 (c0 : Gpoem_Poem) (ag1 : Int → Option (List (Int × Gapi_Verse))) (x3 : Int) : Option (List (Int × Gapi_Verse)) := bcond (decide ((x3 : Int) < (c0.told_lines.length : Int))) ( andThen (getO c0.told_lines x3) fun (q1 : Gapi_Verse) => consO (x3, q1) <| grd (I64 (x3 + 1)) <| ag1 (x3 + 1)
) ( some []
)
def poem_Poem_Each_1_v (c0 : Gpoem_Poem) : Option (List (Int × Gapi_Verse)) := loopG (fun _ => none) (poem_Poem_Each_1_s1 c0) fuel 0
set_option maxRecDepth 100000 in
set_option maxHeartbeats 4000000 in
theorem poem_Poem_Each_1_itr {b_c0 p_c0 : Nat} {c0 : Gpoem_Poem} {c0_h0 c0_h1 : Hd} {xs : (List (Int × Gapi_Verse))} (h : poem_Poem_Each_1_v c0 = some xs) : ItrR Tryd.prog 52 [.pointer (some ⟨b_c0, 0, none⟩)] (fun q : Int × Gapi_Verse => [.int .i64 q.1, .agg #[.string q.2.Text, .int .i64 q.2.Indent, .int .i64 q.2.Stanza, .int .i64 q.2.In, .int .i64 q.2.Span_From, .int .i64 q.2.Span_To]]) xs [cells b_c0 [.pointer (some ⟨p_c0, 0, none⟩)] 23, cells p_c0 [.string c0.told_title, c0_h0.v, c0_h1.v, .string c0.source] 93, vec enc_Gapi_Verse 36 6 c0_h0.v c0.told_lines, vec enc_Gapi_Span 34 2 c0_h1.v c0.told_stanzas] := by
 unfold poem_Poem_Each_1_v at h
 refine ItrR.intro Tryd.func52 rfl Tryd.ntmps52 (by simp) ?_
 intro l w0 K I X hrd hy
 obtain ⟨r0, hx0⟩ : ∃ r, xs = [] ++ r := ⟨xs, rfl⟩
 have hr0 : xs = r0 := hx0
 rw [hr0] at h
 refine TC.seq (TC.seq (TC.region (TO.loadRd (i := 0) hrd rfl sc_23 rfl dc rfl rfl (TO.bin rfl dc rfl rfl (bin_ptrnileqlR Tryd.underlying23) (TO.nil (TX.next (TC.condF rfl (TC.skip (TX.next (TC.seq (TC.region (TO.loadRd (i := 0) hrd rfl sc_23 rfl dc rfl rfl (TO.nilCheck rfl dc rfl ?_)))))))))))))
 refine TO.fieldAddr fl_93_0 rfl dc rfl (show _ = 0 from rfl) (TO.fieldAddr fl_91_1 rfl dc rfl (show _ = 1 from rfl) (TO.loadRd (i := 1) hrd rfl sc_57 rfl dc rfl rfl (TO.lenVw (hrd.vw (i := 2) rfl) rfl dc rfl Tryd.underlying57 (TO.move rfl dc rfl (TO.nil (TX.next (TC.block ?_)))))))
 refine TC.loopD (β := Nat × Int × (List (Int × Gapi_Verse)) × (List (Int × Gapi_Verse))) (fun b => loopG (fun _ => none) (poem_Poem_Each_1_s1 c0) b.1 b.2.1 = some b.2.2.2 ∧ xs = b.2.2.1 ++ b.2.2.2) (fun b => []) (fun b => [(0, .func (.yield l) #[] #[]), (11, c0_h0.v), (12, .int .i64 (c0.told_lines.length : Int)), (13, .int .i64 b.2.1)]) (fun b => [I b.2.2.1]) (fun b => b.1) (fuel, 0, ([] : List (Int × Gapi_Verse)), r0) ⟨h, hx0⟩ rfl (Sbs.cons rfl (Sbs.cons rfl (Sbs.cons rfl (Sbs.cons rfl (Sbs.nil))))) (Splits.of [0] kr rfl) ?_
 rintro ⟨n1, x3, acc3, rr3⟩ ⟨h, hx3⟩
 cases n1 with
 | zero => exact noneE h
 | succ n1 =>
  obtain ⟨ag1, hag1⟩ : ∃ ag, ag = loopG (fun _ => none) (poem_Poem_Each_1_s1 c0) n1 := ⟨_, rfl⟩
  have h : poem_Poem_Each_1_s1 c0 ag1 x3 = some rr3 := by rw [hag1]; exact h
  unfold poem_Poem_Each_1_s1 at h
  show TC _ _ _ _ _ ([]) _ _ [(0, .func (.yield l) #[] #[]), (11, c0_h0.v), (12, .int .i64 (c0.told_lines.length : Int)), (13, .int .i64 x3)] [I acc3]
  refine TC.seq (TC.region (TO.bin rfl dc rfl rfl bin_lss (TO.nil (TX.next (TC.seq ?_)))))
  refine TC.condB rfl (fun hb1 => ?_) (fun hb1 => ?_)
  ·
   have h := condT hb1 h
   refine TC.skip (TX.next (TC.seq (TC.block (TC.seq (TC.region (TO.move rfl dc rfl ?_))))))
   obtain ⟨q1, hq1, h⟩ := andE h
   refine TO.indexVw (hrd.vw (i := 2) rfl) hq1 Tryd.underlying57 sz_36 rfl dc rfl rfl rfl (TO.loadsVecRd (m := 0 + (x3 : Int).toNat) (j := 0) (i := 2) (q := q1) (cs := [.string q1.Text, .int .i64 q1.Indent, .int .i64 q1.Stanza, .int .i64 q1.In, .int .i64 q1.Span_From, .int .i64 q1.Span_To]) hrd rfl rw_36 enc_Gapi_Verse_len rfl dc rfl (Vw.get (hrd.vw (i := 2) rfl) hq1) rfl rfl rfl ?_)
   refine TO.alloc zr_36 rfl dc (fun b1 => ?_)
   refine TO.assign rfl dc rfl (TO.stores (k := 1) (vs := [.string q1.Text, .int .i64 q1.Indent, .int .i64 q1.Stanza, .int .i64 q1.In, .int .i64 q1.Span_From, .int .i64 q1.Span_To]) (l' := [.string q1.Text, .int .i64 q1.Indent, .int .i64 q1.Stanza, .int .i64 q1.In, .int .i64 q1.Span_From, .int .i64 q1.Span_To]) sz_36 rfl rfl rfl rfl rfl (show _ ≤ _ by simp) rfl rfl ?_)
   show TO _ _ _ _ _ _ _ _ _ _ [I acc3, cells b1 [.string q1.Text, .int .i64 q1.Indent, .int .i64 q1.Stanza, .int .i64 q1.In, .int .i64 q1.Span_From, .int .i64 q1.Span_To] 36]
   refine TO.nil (TX.next (TC.seq (TC.region (TO.move rfl dc rfl (TO.move rfl dc rfl (TO.loads (k := 1) (cs := [.string q1.Text, .int .i64 q1.Indent, .int .i64 q1.Stanza, .int .i64 q1.In, .int .i64 q1.Span_From, .int .i64 q1.Span_To]) rw_36 rfl dc rfl rfl rfl rfl ?_))))))
   obtain ⟨rr4, hr1, h⟩ := consE h
   have hx4 : xs = acc3 ++ (x3, q1) :: rr4 := by rw [hx3, hr1]
   refine TO.yield hy rfl dc rfl hx4 rfl (k := 0) rfl ?_ ?_
   ·
    have hx5 : xs = (acc3 ++ [(x3, q1)]) ++ rr4 := by rw [hx4]; simp
    show TO _ _ _ _ _ _ _ _ _ _ [I (acc3 ++ [(x3, q1)]), cells b1 [.string q1.Text, .int .i64 q1.Indent, .int .i64 q1.Stanza, .int .i64 q1.In, .int .i64 q1.Span_From, .int .i64 q1.Span_To] 36]
    refine TO.un rfl dc rfl un_not (TO.nil (TX.next (TC.condF rfl (TC.skip (TX.blockNormal (TX.next (TC.region ?_)))))))
    obtain ⟨hg1, h⟩ := grdE h
    refine TO.bin rfl dc rfl rfl (bin_add (r := x3 + 1) (IntWalk.i64_in _ hg1)) (TO.move rfl dc rfl (TO.nil ?_))
    subst hag1
    exact TX.againD (n1, x3 + 1, acc3 ++ [(x3, q1)], rr4) ⟨h, hx5⟩ (Nat.lt_succ_self _) rfl (Sbs.cons rfl (Sbs.cons rfl (Sbs.cons rfl (Sbs.cons rfl (Sbs.nil))))) (Splits.of [0] kr rfl)
   ·
    show TO _ _ _ _ _ _ _ _ _ _ [X (acc3 ++ [(x3, q1)]), cells b1 [.string q1.Text, .int .i64 q1.Indent, .int .i64 q1.Stanza, .int .i64 q1.In, .int .i64 q1.Span_From, .int .i64 q1.Span_To] 36]
    refine TO.un rfl dc rfl un_not (TO.nil (TX.next (TC.condT rfl (TC.ret (TX.blockRet (TX.thenRet (TX.thenRet (TX.blockRet ?_))))))))
    exact TX.finX (ds := []) acc3 (x3, q1) rr4 hx4 (.inl rfl) Splits.nil Tryd.results52 (Splits.of [0] kr rfl)
  ·
   have h := condF hb1 h
   refine TC.exit (TX.thenExit (TX.thenExit (TX.blockHere ?_)))
   cases h
   exact TX.finY (ds := []) (.inr rfl) Splits.nil Tryd.results52 (congrArg I (hx3.trans (List.append_nil _))) (Splits.of [0] kr rfl)
def poem_Poem_Each_v (p1 : Gpoem_Poem) : Option Unit := some ()
set_option maxRecDepth 100000 in
set_option maxHeartbeats 4000000 in
theorem poem_Poem_Each_fn {bp1 : Nat} {p1 : Gpoem_Poem} {p1_h0 p1_h1 : Hd} {r : Unit} (h : poem_Poem_Each_v p1 = some r) : FnR Tryd.prog 14 [.pointer (some ⟨bp1, 0, none⟩)] [cells bp1 [.string p1.told_title, p1_h0.v, p1_h1.v, .string p1.source] 93, vec enc_Gapi_Verse 36 6 p1_h0.v p1.told_lines, vec enc_Gapi_Span 34 2 p1_h1.v p1.told_stanzas] [] (fun v0 : Nat => .func (.func 52) #[] #[.pointer (some ⟨v0, 0, none⟩)]) (fun v0 => [cells v0 [.pointer (some ⟨bp1, 0, none⟩)] 23]) := by
 unfold poem_Poem_Each_v at h
 refine FnR.intro Tryd.func14 rfl Tryd.ntmps14 (by simp) ?_
 intro w0 K hrd
 refine TC.seq (TC.region ?_)
 refine TO.box rfl dc rfl (fun b1 => ?_)
 refine TO.assign rfl dc rfl (TO.nil (TX.next (TC.seq (TC.region (TO.makeFunc (x1 := []) (x2 := [.tmp 1]) rfl dc rfl rfl (TO.assign rfl dc rfl (TO.nil (TX.next (TC.ret ?_)))))))))
 cases h
 exact TX.fin (rs := [.tmp 2]) b1 (.inl rfl) Tryd.results14 (.cons (.tmp rfl) .nil) rfl (Splits.of [0] kr rfl)
end Go.Proofs.YtgfkogafkhbgnaaDoor
namespace Go.Proofs.YtgfkogafkhbgnaaDoor
open Go.RowKit Go.Lib
set_option linter.unusedVariables false
set_option linter.unusedSimpArgs false
def strings_ContainsAny_crlf_v (s1 : ByteArray) : Option Bool := grd (s1.size ≤ 4294967280) <| some (decide ((0 : Int) ≤ (iaV s1)))
set_option maxRecDepth 100000 in
set_option maxHeartbeats 4000000 in
theorem strings_ContainsAny_crlf_fn {s1 : ByteArray} {r : Bool} (h : strings_ContainsAny_crlf_v s1 = some r) : FnP Tryd.prog 17 [.string s1, .string (⟨#[13, 10]⟩ : ByteArray)] (.bool r) := by
 unfold strings_ContainsAny_crlf_v at h
 refine FnP.intro Tryd.func17 rfl Tryd.ntmps17 (by simp) ?_
 intro w0 K
 refine TC.seq (TC.region (TO.assign rfl dc rfl (TO.nil (TX.next (TC.seq (TC.region (TO.move rfl dc rfl (TO.move rfl dc rfl ?_))))))))
 obtain ⟨hg1, h⟩ := grdE h
 refine TO.callP (v := .int .i64 (iaV s1)) (vs := [.string s1, .string (⟨#[13, 10]⟩ : ByteArray)]) rfl dc rfl rfl rfl en_59 (iany_p s1 hg1) (TO.bin rfl dc rfl rfl bin_geq (TO.assign rfl dc rfl (TO.nil (TX.next (TC.ret ?_)))))
 cases h
 exact TX.fin (rs := [.tmp 4]) () (.inl rfl) Tryd.results17 (.cons (.tmp rfl) .nil) rfl Splits.nil
def poem_may_v (s1 : ByteArray) (most1 : Int) : Option Bool := bcond (decide (((s1.size : Int) : Int) ≤ most1)) ( andThen (strings_ContainsAny_crlf_v s1) fun (r1 : Bool) => some (!r1)
) ( some false
)
set_option maxRecDepth 100000 in
set_option maxHeartbeats 4000000 in
theorem poem_may_fn {s1 : ByteArray} {most1 : Int} {r : Bool} (h : poem_may_v s1 most1 = some r) : FnP Tryd.prog 63 [.string s1, .int .i64 most1] (.bool r) := by
 unfold poem_may_v at h
 refine FnP.intro Tryd.func63 rfl Tryd.ntmps63 (by simp) ?_
 intro w0 K
 refine TC.seq (TC.region (TO.assign rfl dc rfl (TO.nil (TX.next (TC.seq (TC.region (TO.move rfl dc rfl (TO.lenStr rfl dc rfl Tryd.underlying9 (TO.move rfl dc rfl (TO.bin rfl dc rfl rfl bin_leq (TO.move rfl dc rfl ?_)))))))))))
 refine TO.split (s := 9) rfl (fun hb1 => ?_) (fun hb1 => ?_)
 ·
  have h := condT hb1 h
  refine TO.move rfl dc rfl ?_
  obtain ⟨r1, hq1, h⟩ := andE h
  refine TO.callP (v := .bool r1) (vs := [.string s1, .string (⟨#[13, 10]⟩ : ByteArray)]) rfl dc rfl rfl rfl en_17 (strings_ContainsAny_crlf_fn hq1) (TO.un rfl dc rfl un_not (TO.pick (b := true) rfl dc rfl rfl (TO.assign rfl dc rfl (TO.nil (TX.next (TC.ret ?_))))))
  cases h
  exact TX.fin (rs := [.tmp 4]) () (.inl rfl) Tryd.results63 (.cons (.tmp rfl) .nil) rfl Splits.nil
 ·
  have h := condF hb1 h
  refine TO.skip rfl dc (TO.skip rfl dc (TO.skip rfl dc (TO.pick (b := false) rfl dc rfl rfl (TO.assign rfl dc rfl (TO.nil (TX.next (TC.ret ?_)))))))
  cases h
  exact TX.fin (rs := [.tmp 4]) () (.inl rfl) Tryd.results63 (.cons (.tmp rfl) .nil) rfl Splits.nil
end Go.Proofs.YtgfkogafkhbgnaaDoor
namespace Go.Proofs.YtgfkogafkhbgnaaDoor
open Go.RowKit Go.Lib Go.Shelf
set_option linter.unusedVariables false
set_option linter.unusedSimpArgs false
def mayL (s : ByteArray) (n : Int) : Bool := decide ((s.size : Int) ≤ n) && !anyEnd s
theorem contains_v (s : ByteArray) (h : s.size ≤ 4294967280) : strings_ContainsAny_crlf_v s = some (anyEnd s) := by
  unfold strings_ContainsAny_crlf_v
  exact grdI h (congrArg some (ia_hit s))
theorem may_p (s : ByteArray) (n : Int) (h : n ≤ 4294967280) : FnP Tryd.prog 63 [.string s, .int .i64 n] (.bool (mayL s n)) := by
  refine poem_may_fn ?_
  unfold poem_may_v mayL
  cases hc : decide ((s.size : Int) ≤ n) with
  | true => exact condTI rfl (thenI (contains_v s (by have := of_decide_eq_true hc; omega)) rfl)
  | false => exact condFI rfl rfl
end Go.Proofs.YtgfkogafkhbgnaaDoor
namespace Go.Proofs.YtgfkogafkhbgnaaDoor
open Go.RowKit Go.Lib
set_option linter.unusedVariables false
set_option linter.unusedSimpArgs false
def poem_Poem_Lines_v (p1 : Gpoem_Poem) : Option Int := some (p1.told_lines.length : Int)
set_option maxRecDepth 100000 in
set_option maxHeartbeats 4000000 in
theorem poem_Poem_Lines_fn {bp1 : Nat} {p1 : Gpoem_Poem} {p1_h0 p1_h1 : Hd} {r : Int} (h : poem_Poem_Lines_v p1 = some r) : FnR Tryd.prog 21 [.pointer (some ⟨bp1, 0, none⟩)] [cells bp1 [.string p1.told_title, p1_h0.v, p1_h1.v, .string p1.source] 93, vec enc_Gapi_Verse 36 6 p1_h0.v p1.told_lines, vec enc_Gapi_Span 34 2 p1_h1.v p1.told_stanzas] [] (fun _ : Unit => (.int .i64 r)) (fun _ => []) := by
 unfold poem_Poem_Lines_v at h
 refine FnR.intro Tryd.func21 rfl Tryd.ntmps21 (by simp) ?_
 intro w0 K hrd
 refine TC.seq (TC.region (TO.assign rfl dc rfl (TO.nil (TX.next (TC.seq (TC.seq (TC.region (TO.move rfl dc rfl (TO.bin rfl dc rfl rfl (bin_ptrnileqlR Tryd.underlying23) (TO.nil (TX.next (TC.condF rfl (TC.skip ?_)))))))))))))
 refine TX.next (TC.seq (TC.region (TO.move rfl dc rfl (TO.nilCheck rfl dc rfl (TO.fieldAddr fl_93_0 rfl dc rfl (show _ = 0 from rfl) (TO.fieldAddr fl_91_1 rfl dc rfl (show _ = 1 from rfl) (TO.loadRd (i := 0) hrd rfl sc_57 rfl dc rfl rfl (TO.lenVw (hrd.vw (i := 1) rfl) rfl dc rfl Tryd.underlying57 (TO.assign rfl dc rfl (TO.nil (TX.next (TC.ret ?_))))))))))))
 cases h
 exact TX.fin (rs := [.tmp 2]) () (.inl rfl) Tryd.results21 (.cons (.tmp rfl) .nil) rfl Splits.nil
def poem_Poem_Stanzas_v (p1 : Gpoem_Poem) : Option Int := some (p1.told_stanzas.length : Int)
set_option maxRecDepth 100000 in
set_option maxHeartbeats 4000000 in
theorem poem_Poem_Stanzas_fn {bp1 : Nat} {p1 : Gpoem_Poem} {p1_h0 p1_h1 : Hd} {r : Int} (h : poem_Poem_Stanzas_v p1 = some r) : FnR Tryd.prog 23 [.pointer (some ⟨bp1, 0, none⟩)] [cells bp1 [.string p1.told_title, p1_h0.v, p1_h1.v, .string p1.source] 93, vec enc_Gapi_Verse 36 6 p1_h0.v p1.told_lines, vec enc_Gapi_Span 34 2 p1_h1.v p1.told_stanzas] [] (fun _ : Unit => (.int .i64 r)) (fun _ => []) := by
 unfold poem_Poem_Stanzas_v at h
 refine FnR.intro Tryd.func23 rfl Tryd.ntmps23 (by simp) ?_
 intro w0 K hrd
 refine TC.seq (TC.region (TO.assign rfl dc rfl (TO.nil (TX.next (TC.seq (TC.seq (TC.region (TO.move rfl dc rfl (TO.bin rfl dc rfl rfl (bin_ptrnileqlR Tryd.underlying23) (TO.nil (TX.next (TC.condF rfl (TC.skip ?_)))))))))))))
 refine TX.next (TC.seq (TC.region (TO.move rfl dc rfl (TO.nilCheck rfl dc rfl (TO.fieldAddr fl_93_0 rfl dc rfl (show _ = 0 from rfl) (TO.fieldAddr fl_91_2 rfl dc rfl (show _ = 2 from rfl) (TO.loadRd (i := 0) hrd rfl sc_89 rfl dc rfl rfl (TO.lenVw (hrd.vw (i := 2) rfl) rfl dc rfl Tryd.underlying89 (TO.assign rfl dc rfl (TO.nil (TX.next (TC.ret ?_))))))))))))
 cases h
 exact TX.fin (rs := [.tmp 2]) () (.inl rfl) Tryd.results23 (.cons (.tmp rfl) .nil) rfl Splits.nil
def poem_Poem_Title_v (p1 : Gpoem_Poem) : Option ByteArray := some p1.told_title
set_option maxRecDepth 100000 in
set_option maxHeartbeats 4000000 in
theorem poem_Poem_Title_fn {bp1 : Nat} {p1 : Gpoem_Poem} {p1_h0 p1_h1 : Hd} {r : ByteArray} (h : poem_Poem_Title_v p1 = some r) : FnR Tryd.prog 24 [.pointer (some ⟨bp1, 0, none⟩)] [cells bp1 [.string p1.told_title, p1_h0.v, p1_h1.v, .string p1.source] 93, vec enc_Gapi_Verse 36 6 p1_h0.v p1.told_lines, vec enc_Gapi_Span 34 2 p1_h1.v p1.told_stanzas] [] (fun _ : Unit => (.string r)) (fun _ => []) := by
 unfold poem_Poem_Title_v at h
 refine FnR.intro Tryd.func24 rfl Tryd.ntmps24 (by simp) ?_
 intro w0 K hrd
 refine TC.seq (TC.region (TO.assign rfl dc rfl (TO.nil (TX.next (TC.seq (TC.seq (TC.region (TO.move rfl dc rfl (TO.bin rfl dc rfl rfl (bin_ptrnileqlR Tryd.underlying23) (TO.nil (TX.next (TC.condF rfl (TC.skip ?_)))))))))))))
 refine TX.next (TC.seq (TC.region (TO.move rfl dc rfl (TO.nilCheck rfl dc rfl (TO.fieldAddr fl_93_0 rfl dc rfl (show _ = 0 from rfl) (TO.fieldAddr fl_91_0 rfl dc rfl (show _ = 0 from rfl) (TO.loadRd (i := 0) hrd rfl sc_9 rfl dc rfl rfl (TO.assign rfl dc rfl (TO.nil (TX.next (TC.ret ?_)))))))))))
 cases h
 exact TX.fin (rs := [.tmp 2]) () (.inl rfl) Tryd.results24 (.cons (.tmp rfl) .nil) rfl Splits.nil
def poem_Poem_Line_v (p1 : Gpoem_Poem) (k1 : Int) : Option (Gapi_Verse × Int) := bcond (decide ((k1 : Int) < 0)) ( some ((⟨ByteArray.empty, 0, 0, 0, 0, 0⟩ : Gapi_Verse), 5)
) ( bcond (decide (((p1.told_lines.length : Int) : Int) ≤ k1)) ( some ((⟨ByteArray.empty, 0, 0, 0, 0, 0⟩ : Gapi_Verse), 5)
) ( andThen (getO p1.told_lines k1) fun (q1 : Gapi_Verse) => some (q1, 0)
)
)
set_option maxRecDepth 100000 in
set_option maxHeartbeats 4000000 in
theorem poem_Poem_Line_fn {bp1 : Nat} {p1 : Gpoem_Poem} {p1_h0 p1_h1 : Hd} {k1 : Int} {r : (Gapi_Verse × Int)} (h : poem_Poem_Line_v p1 k1 = some r) : FnR Tryd.prog 28 [.pointer (some ⟨bp1, 0, none⟩), .int .i64 k1] [cells bp1 [.string p1.told_title, p1_h0.v, p1_h1.v, .string p1.source] 93, vec enc_Gapi_Verse 36 6 p1_h0.v p1.told_lines, vec enc_Gapi_Span 34 2 p1_h1.v p1.told_stanzas] [] (fun _ : Unit => (.tuple #[.agg #[.string r.1.Text, .int .i64 r.1.Indent, .int .i64 r.1.Stanza, .int .i64 r.1.In, .int .i64 r.1.Span_From, .int .i64 r.1.Span_To], .int .i64 r.2])) (fun _ => []) := by
 unfold poem_Poem_Line_v at h
 refine FnR.intro Tryd.func28 rfl Tryd.ntmps28 (by simp) ?_
 intro w0 K hrd
 refine TC.seq (TC.region ?_)
 refine TO.alloc zr_36 rfl dc (fun b1 => ?_)
 refine TO.assign rfl dc rfl (TO.nil (TX.next (TC.seq (TC.block (TC.seq (TC.region (TO.move rfl dc rfl (TO.bin rfl dc rfl rfl (bin_ptrnileqlR Tryd.underlying23) (TO.assign rfl dc rfl (TO.nil (TX.next (TC.condF rfl (TC.seq ?_)))))))))))))
 refine TC.region (TO.move rfl dc rfl (TO.bin rfl dc rfl rfl bin_lss (TO.move rfl dc rfl ?_)))
 refine TO.split (s := 13) rfl (fun hb1 => ?_) (fun hb1 => ?_)
 ·
  have h := condT hb1 h
  refine TO.skip rfl dc (TO.skip rfl dc (TO.skip rfl dc (TO.skip rfl dc (TO.skip rfl dc (TO.skip rfl dc (TO.skip rfl dc (TO.skip rfl dc (TO.pick (b := true) rfl dc rfl rfl (TO.assign rfl dc rfl (TO.nil (TX.next (TC.condT rfl (TC.seq ?_)))))))))))))
  refine TC.region ?_
  refine TO.build (v := .agg #[.string ByteArray.empty, .int .i64 0, .int .i64 0, .int .i64 0, .int .i64 0, .int .i64 0]) (ps := []) rfl dc rfl (fun _ => by kernel_rfl) ?_
  refine TO.stores (k := 0) (vs := [.string ByteArray.empty, .int .i64 0, .int .i64 0, .int .i64 0, .int .i64 0, .int .i64 0]) (l' := [.string ByteArray.empty, .int .i64 0, .int .i64 0, .int .i64 0, .int .i64 0, .int .i64 0]) sz_36 rfl rfl rfl rfl rfl (show _ ≤ _ by simp) rfl rfl ?_
  show TO _ _ _ _ _ _ _ _ _ _ [cells b1 [.string ByteArray.empty, .int .i64 0, .int .i64 0, .int .i64 0, .int .i64 0, .int .i64 0] 36]
  refine TO.assign rfl dc rfl (TO.nil (TX.next (TC.ret (TX.blockRet (TX.thenRet ?_)))))
  cases h
  exact TX.fin (rs := [.cell 4 36, .tmp 5]) () (.inl rfl) Tryd.results28 (.cons (.cells rw_36 (k := 0) rfl rfl rfl) (.cons (.tmp rfl) .nil)) rfl Splits.nil
 ·
  have h := condF hb1 h
  refine TO.move rfl dc rfl (TO.move rfl dc rfl (TO.nilCheck rfl dc rfl (TO.fieldAddr fl_93_0 rfl dc rfl (show _ = 0 from rfl) (TO.fieldAddr fl_91_1 rfl dc rfl (show _ = 1 from rfl) (TO.loadRd (i := 0) hrd rfl sc_57 rfl dc rfl rfl (TO.lenVw (hrd.vw (i := 1) rfl) rfl dc rfl Tryd.underlying57 (TO.bin rfl dc rfl rfl bin_geq (TO.pick (b := false) rfl dc rfl rfl (TO.assign rfl dc rfl (TO.nil (TX.next ?_)))))))))))
  refine TC.condB rfl (fun hb2 => ?_) (fun hb2 => ?_)
  ·
   have h := condT hb2 h
   refine TC.seq (TC.region ?_)
   refine TO.build (v := .agg #[.string ByteArray.empty, .int .i64 0, .int .i64 0, .int .i64 0, .int .i64 0, .int .i64 0]) (ps := []) rfl dc rfl (fun _ => by kernel_rfl) ?_
   refine TO.stores (k := 0) (vs := [.string ByteArray.empty, .int .i64 0, .int .i64 0, .int .i64 0, .int .i64 0, .int .i64 0]) (l' := [.string ByteArray.empty, .int .i64 0, .int .i64 0, .int .i64 0, .int .i64 0, .int .i64 0]) sz_36 rfl rfl rfl rfl rfl (show _ ≤ _ by simp) rfl rfl ?_
   show TO _ _ _ _ _ _ _ _ _ _ [cells b1 [.string ByteArray.empty, .int .i64 0, .int .i64 0, .int .i64 0, .int .i64 0, .int .i64 0] 36]
   refine TO.assign rfl dc rfl (TO.nil (TX.next (TC.ret (TX.blockRet (TX.thenRet ?_)))))
   cases h
   exact TX.fin (rs := [.cell 4 36, .tmp 5]) () (.inl rfl) Tryd.results28 (.cons (.cells rw_36 (k := 0) rfl rfl rfl) (.cons (.tmp rfl) .nil)) rfl Splits.nil
  ·
   have h := condF hb2 h
   refine TC.skip (TX.blockNormal (TX.next (TC.seq (TC.region (TO.move rfl dc rfl (TO.nilCheck rfl dc rfl (TO.fieldAddr fl_93_0 rfl dc rfl (show _ = 0 from rfl) (TO.fieldAddr fl_91_1 rfl dc rfl (show _ = 1 from rfl) (TO.loadRd (i := 0) hrd rfl sc_57 rfl dc rfl rfl (TO.move rfl dc rfl ?_))))))))))
   obtain ⟨q1, hq1, h⟩ := andE h
   refine TO.indexVw (hrd.vw (i := 1) rfl) hq1 Tryd.underlying57 sz_36 rfl dc rfl rfl rfl (TO.loadsVecRd (m := 0 + (k1 : Int).toNat) (j := 0) (i := 1) (q := q1) (cs := [.string q1.Text, .int .i64 q1.Indent, .int .i64 q1.Stanza, .int .i64 q1.In, .int .i64 q1.Span_From, .int .i64 q1.Span_To]) hrd rfl rw_36 enc_Gapi_Verse_len rfl dc rfl (Vw.get (hrd.vw (i := 1) rfl) hq1) rfl rfl rfl (TO.stores (k := 0) (vs := [.string q1.Text, .int .i64 q1.Indent, .int .i64 q1.Stanza, .int .i64 q1.In, .int .i64 q1.Span_From, .int .i64 q1.Span_To]) (l' := [.string q1.Text, .int .i64 q1.Indent, .int .i64 q1.Stanza, .int .i64 q1.In, .int .i64 q1.Span_From, .int .i64 q1.Span_To]) sz_36 rfl rfl rfl rfl rfl (show _ ≤ _ by simp) rfl rfl ?_))
   show TO _ _ _ _ _ _ _ _ _ _ [cells b1 [.string q1.Text, .int .i64 q1.Indent, .int .i64 q1.Stanza, .int .i64 q1.In, .int .i64 q1.Span_From, .int .i64 q1.Span_To] 36]
   refine TO.assign rfl dc rfl (TO.nil (TX.next (TC.ret ?_)))
   cases h
   exact TX.fin (rs := [.cell 4 36, .tmp 5]) () (.inl rfl) Tryd.results28 (.cons (.cells rw_36 (k := 0) rfl rfl rfl) (.cons (.tmp rfl) .nil)) rfl Splits.nil
def poem_Poem_Same_s1 (p1 : Gpoem_Poem) (q1 : Gpoem_Poem) (j1 : Option Bool) (ag1 : Int → Option Bool) (x3 : Int) : Option Bool := bcond (decide ((x3 : Int) < (p1.told_lines.length : Int))) ( andThen (getO p1.told_lines x3) fun (q2 : Gapi_Verse) => andThen (getO q1.told_lines x3) fun (q3 : Gapi_Verse) => bcond (!decide (q2.Text = q3.Text)) ( some false
) ( bcond ((q2.Indent : Int) != q3.Indent) ( some false
) ( bcond ((q2.Stanza : Int) != q3.Stanza) ( some false
) ( grd (I64 (x3 + 1)) <| ag1 (x3 + 1)
)
)
)
) ( j1
)
def poem_Poem_Same_v (p1 : Gpoem_Poem) (q1 : Gpoem_Poem) : Option Bool := bcond (!decide (p1.told_title = q1.told_title)) ( some false
) ( bcond (((p1.told_lines.length : Int) : Int) != (q1.told_lines.length : Int)) ( some false
) ( joinK (fun (j1 : Option Bool) => loopG (fun _ => none) (poem_Poem_Same_s1 p1 q1 j1) fuel 0
) ( some true
)
)
)
set_option maxRecDepth 100000 in
set_option maxHeartbeats 4000000 in
theorem poem_Poem_Same_fn {bp1 : Nat} {p1 : Gpoem_Poem} {p1_h0 p1_h1 : Hd} {bq1 : Nat} {q1 : Gpoem_Poem} {q1_h0 q1_h1 : Hd} {r : Bool} (h : poem_Poem_Same_v p1 q1 = some r) : FnR Tryd.prog 19 [.pointer (some ⟨bp1, 0, none⟩), .pointer (some ⟨bq1, 0, none⟩)] [cells bp1 [.string p1.told_title, p1_h0.v, p1_h1.v, .string p1.source] 93, vec enc_Gapi_Verse 36 6 p1_h0.v p1.told_lines, vec enc_Gapi_Span 34 2 p1_h1.v p1.told_stanzas, cells bq1 [.string q1.told_title, q1_h0.v, q1_h1.v, .string q1.source] 93, vec enc_Gapi_Verse 36 6 q1_h0.v q1.told_lines, vec enc_Gapi_Span 34 2 q1_h1.v q1.told_stanzas] [] (fun _ : Unit => (.bool r)) (fun _ => []) := by
 unfold poem_Poem_Same_v at h
 refine FnR.intro Tryd.func19 rfl Tryd.ntmps19 (by simp) ?_
 intro w0 K hrd
 refine TC.seq (TC.region (TO.assign rfl dc rfl (TO.nil (TX.next (TC.seq (TC.seq ?_))))))
 refine TC.bySplit (b := !decide (p1.told_title = q1.told_title)) (fun hb1 => ?_) (fun hb1 => ?_)
 ·
  have h := condT hb1 h
  refine TC.drawN 32 [(0, 8, .pointer (some ⟨bp1, 0, none⟩)), (1, 9, .bool false), (2, 10, .bool false), (3, 11, .pointer (some ⟨bq1, 0, none⟩)), (4, 12, .bool false), (5, 13, .bool false), (6, 14, .bool false), (7, 15, .pointer (some ⟨bp1, 0, none⟩)), (8, 16, .pointer (some ⟨bp1, 0, none⟩)), (9, 17, .pointer (some ⟨bp1, 0, none⟩)), (10, 18, .pointer (some ⟨bp1, 0, none⟩)), (11, 19, .string p1.told_title), (12, 20, .pointer (some ⟨bq1, 0, none⟩)), (13, 21, .pointer (some ⟨bq1, 0, none⟩)), (14, 22, .pointer (some ⟨bq1, 0, none⟩)), (15, 23, .pointer (some ⟨bq1, 0, none⟩)), (16, 24, .string q1.told_title), (17, 25, .bool true), (18, 26, .bool true), (19, 27, .bool true), (20, 28, undef), (21, 29, undef), (22, 30, undef), (23, 31, undef), (24, 32, undef), (25, 33, undef), (26, 34, undef), (27, 35, undef), (28, 36, undef), (29, 37, undef), (30, 38, undef), (31, 39, undef)] mixed kr kr dc (by rfl) kr kr (DrawPre.cons ?_ (DrawPre.cons ?_ (DrawPre.cons ?_ (DrawPre.cons ?_ (DrawPre.cons ?_ (DrawPre.cons ?_ (DrawPre.cons ?_ (DrawPre.cons ?_ (DrawPre.cons ?_ (DrawPre.cons ?_ (DrawPre.cons ?_ (DrawPre.cons ?_ (DrawPre.cons ?_ (DrawPre.cons ?_ (DrawPre.cons ?_ (DrawPre.cons ?_ (DrawPre.cons ?_ (DrawPre.cons ?_ (DrawPre.cons ?_ (DrawPre.cons ?_ (DrawPre.cons ?_ (DrawPre.cons ?_ (DrawPre.cons ?_ (DrawPre.cons ?_ (DrawPre.cons ?_ (DrawPre.cons ?_ (DrawPre.cons ?_ (DrawPre.cons ?_ (DrawPre.cons ?_ (DrawPre.cons ?_ (DrawPre.cons ?_ (DrawPre.cons ?_ DrawPre.nil)))))))))))))))))))))))))))))))) ?_
  ·
   intro D hn hd hcl hu hi
   refine TO.move rfl dc (dl_old (by rfl) rfl) ?_
   exact TX.quiet 0 hu hi rfl
  ·
   intro D hn hd hcl hu hi
   refine TO.bin rfl dc (dl_lookup (m := 0) hu rfl (hd 0 dc)) rfl (bin_ptrnileqlR Tryd.underlying23) ?_
   exact TX.quiet 1 hu hi rfl
  ·
   intro D hn hd hcl hu hi
   refine TO.move rfl dc (dl_lookup (m := 1) hu rfl (hd 1 dc)) ?_
   exact TX.quiet 2 hu hi rfl
  ·
   intro D hn hd hcl hu hi
   refine TO.move (gd_T rfl (dl_lookup (m := 2) hu rfl (hd 2 dc))) dc (dl_old (by rfl) rfl) ?_
   exact TX.quiet 3 hu hi rfl
  ·
   intro D hn hd hcl hu hi
   refine TO.bin (gd_T rfl (dl_lookup (m := 2) hu rfl (hd 2 dc))) dc (dl_lookup (m := 3) hu rfl (hd 3 dc)) rfl (bin_ptrnileqlR Tryd.underlying23) ?_
   exact TX.quiet 4 hu hi rfl
  ·
   intro D hn hd hcl hu hi
   refine TO.pick (b := false) rfl dc (dl_lookup (m := 2) hu rfl (hd 2 dc)) (dl_lookup (m := 4) hu rfl (hd 4 dc)) ?_
   exact TX.quiet 5 hu hi rfl
  ·
   intro D hn hd hcl hu hi
   refine TO.move rfl dc (dl_lookup (m := 5) hu rfl (hd 5 dc)) ?_
   exact TX.quiet 6 hu hi rfl
  ·
   intro D hn hd hcl hu hi
   refine TO.move (gd_T rfl (dl_lookup (m := 6) hu rfl (hd 6 dc))) dc (dl_old (by rfl) rfl) ?_
   exact TX.quiet 7 hu hi rfl
  ·
   intro D hn hd hcl hu hi
   refine TO.nilCheck (gd_T rfl (dl_lookup (m := 6) hu rfl (hd 6 dc))) dc (dl_lookup (m := 7) hu rfl (hd 7 dc)) ?_
   exact TX.quiet 8 hu hi rfl
  ·
   intro D hn hd hcl hu hi
   refine TO.fieldAddr fl_93_0 (gd_T rfl (dl_lookup (m := 6) hu rfl (hd 6 dc))) dc (dl_lookup (m := 8) hu rfl (hd 8 dc)) (show _ = 0 from rfl) ?_
   exact TX.quiet 9 hu hi rfl
  ·
   intro D hn hd hcl hu hi
   refine TO.fieldAddr fl_91_0 (gd_T rfl (dl_lookup (m := 6) hu rfl (hd 6 dc))) dc (dl_lookup (m := 9) hu rfl (hd 9 dc)) (show _ = 0 from rfl) ?_
   exact TX.quiet 10 hu hi rfl
  ·
   intro D hn hd hcl hu hi
   refine TO.loadRd (i := 0) hrd rfl sc_9 (gd_T rfl (dl_lookup (m := 6) hu rfl (hd 6 dc))) dc (dl_lookup (m := 10) hu rfl (hd 10 dc)) rfl ?_
   exact TX.quiet 11 hu hi rfl
  ·
   intro D hn hd hcl hu hi
   refine TO.move (gd_T rfl (dl_lookup (m := 6) hu rfl (hd 6 dc))) dc (dl_old (by rfl) rfl) ?_
   exact TX.quiet 12 hu hi rfl
  ·
   intro D hn hd hcl hu hi
   refine TO.nilCheck (gd_T rfl (dl_lookup (m := 6) hu rfl (hd 6 dc))) dc (dl_lookup (m := 12) hu rfl (hd 12 dc)) ?_
   exact TX.quiet 13 hu hi rfl
  ·
   intro D hn hd hcl hu hi
   refine TO.fieldAddr fl_93_0 (gd_T rfl (dl_lookup (m := 6) hu rfl (hd 6 dc))) dc (dl_lookup (m := 13) hu rfl (hd 13 dc)) (show _ = 0 from rfl) ?_
   exact TX.quiet 14 hu hi rfl
  ·
   intro D hn hd hcl hu hi
   refine TO.fieldAddr fl_91_0 (gd_T rfl (dl_lookup (m := 6) hu rfl (hd 6 dc))) dc (dl_lookup (m := 14) hu rfl (hd 14 dc)) (show _ = 0 from rfl) ?_
   exact TX.quiet 15 hu hi rfl
  ·
   intro D hn hd hcl hu hi
   refine TO.loadRd (i := 3) hrd rfl sc_9 (gd_T rfl (dl_lookup (m := 6) hu rfl (hd 6 dc))) dc (dl_lookup (m := 15) hu rfl (hd 15 dc)) rfl ?_
   exact TX.quiet 16 hu hi rfl
  ·
   intro D hn hd hcl hu hi
   refine TO.bin (gd_T rfl (dl_lookup (m := 6) hu rfl (hd 6 dc))) dc (dl_lookup (m := 11) hu rfl (hd 11 dc)) (dl_lookup (m := 16) hu rfl (hd 16 dc)) bin_sneq (TO.rewH (show Value.bool (!decide (p1.told_title = q1.told_title)) = Value.bool true from congrArg Value.bool hb1) ?_)
   exact TX.quiet 17 hu hi rfl
  ·
   intro D hn hd hcl hu hi
   refine TO.pick (b := false) rfl dc (dl_lookup (m := 6) hu rfl (hd 6 dc)) (dl_lookup (m := 17) hu rfl (hd 17 dc)) ?_
   exact TX.quiet 18 hu hi rfl
  ·
   intro D hn hd hcl hu hi
   refine TO.move rfl dc (dl_lookup (m := 18) hu rfl (hd 18 dc)) ?_
   exact TX.quiet 19 hu hi rfl
  ·
   intro D hn hd hcl hu hi
   refine TO.skip (gd_F rfl (dl_lookup (m := 19) hu rfl (hd 19 dc))) dc ?_
   exact TX.quiet 20 hu hi rfl
  ·
   intro D hn hd hcl hu hi
   refine TO.skip (gd_F rfl (dl_lookup (m := 19) hu rfl (hd 19 dc))) dc ?_
   exact TX.quiet 21 hu hi rfl
  ·
   intro D hn hd hcl hu hi
   refine TO.skip (gd_F rfl (dl_lookup (m := 19) hu rfl (hd 19 dc))) dc ?_
   exact TX.quiet 22 hu hi rfl
  ·
   intro D hn hd hcl hu hi
   refine TO.skip (gd_F rfl (dl_lookup (m := 19) hu rfl (hd 19 dc))) dc ?_
   exact TX.quiet 23 hu hi rfl
  ·
   intro D hn hd hcl hu hi
   refine TO.skip (gd_F rfl (dl_lookup (m := 19) hu rfl (hd 19 dc))) dc ?_
   exact TX.quiet 24 hu hi rfl
  ·
   intro D hn hd hcl hu hi
   refine TO.skip (gd_F rfl (dl_lookup (m := 19) hu rfl (hd 19 dc))) dc ?_
   exact TX.quiet 25 hu hi rfl
  ·
   intro D hn hd hcl hu hi
   refine TO.skip (gd_F rfl (dl_lookup (m := 19) hu rfl (hd 19 dc))) dc ?_
   exact TX.quiet 26 hu hi rfl
  ·
   intro D hn hd hcl hu hi
   refine TO.skip (gd_F rfl (dl_lookup (m := 19) hu rfl (hd 19 dc))) dc ?_
   exact TX.quiet 27 hu hi rfl
  ·
   intro D hn hd hcl hu hi
   refine TO.skip (gd_F rfl (dl_lookup (m := 19) hu rfl (hd 19 dc))) dc ?_
   exact TX.quiet 28 hu hi rfl
  ·
   intro D hn hd hcl hu hi
   refine TO.skip (gd_F rfl (dl_lookup (m := 19) hu rfl (hd 19 dc))) dc ?_
   exact TX.quiet 29 hu hi rfl
  ·
   intro D hn hd hcl hu hi
   refine TO.skip (gd_F rfl (dl_lookup (m := 19) hu rfl (hd 19 dc))) dc ?_
   exact TX.quiet 30 hu hi rfl
  ·
   intro D hn hd hcl hu hi
   refine TO.skip (gd_F rfl (dl_lookup (m := 19) hu rfl (hd 19 dc))) dc ?_
   exact TX.quiet 31 hu hi rfl
  refine TO.skip rfl dc (TO.pick (b := true) rfl dc rfl rfl (TO.nil (TX.next (TC.condT rfl (TC.seq (TC.region (TO.assign rfl dc rfl (TO.nil (TX.next (TC.ret (TX.thenRet ?_)))))))))))
  cases h
  exact TX.fin (rs := [.tmp 4]) () (.inl rfl) Tryd.results19 (.cons (.tmp rfl) .nil) rfl Splits.nil
 ·
  have h := condF hb1 h
  refine TC.drawN 32 [(0, 8, .pointer (some ⟨bp1, 0, none⟩)), (1, 9, .bool false), (2, 10, .bool false), (3, 11, .pointer (some ⟨bq1, 0, none⟩)), (4, 12, .bool false), (5, 13, .bool false), (6, 14, .bool false), (7, 15, .pointer (some ⟨bp1, 0, none⟩)), (8, 16, .pointer (some ⟨bp1, 0, none⟩)), (9, 17, .pointer (some ⟨bp1, 0, none⟩)), (10, 18, .pointer (some ⟨bp1, 0, none⟩)), (11, 19, .string p1.told_title), (12, 20, .pointer (some ⟨bq1, 0, none⟩)), (13, 21, .pointer (some ⟨bq1, 0, none⟩)), (14, 22, .pointer (some ⟨bq1, 0, none⟩)), (15, 23, .pointer (some ⟨bq1, 0, none⟩)), (16, 24, .string q1.told_title), (17, 25, .bool false), (18, 26, .bool false), (19, 27, .bool false), (20, 28, .pointer (some ⟨bp1, 0, none⟩)), (21, 29, .pointer (some ⟨bp1, 0, none⟩)), (22, 30, .pointer (some ⟨bp1, 0, none⟩)), (23, 31, .pointer (some ⟨bp1, 1, none⟩)), (24, 32, p1_h0.v), (25, 33, .int .i64 (p1.told_lines.length : Int)), (26, 34, .pointer (some ⟨bq1, 0, none⟩)), (27, 35, .pointer (some ⟨bq1, 0, none⟩)), (28, 36, .pointer (some ⟨bq1, 0, none⟩)), (29, 37, .pointer (some ⟨bq1, 1, none⟩)), (30, 38, q1_h0.v), (31, 39, .int .i64 (q1.told_lines.length : Int))] mixed kr kr dc (by rfl) kr kr (DrawPre.cons ?_ (DrawPre.cons ?_ (DrawPre.cons ?_ (DrawPre.cons ?_ (DrawPre.cons ?_ (DrawPre.cons ?_ (DrawPre.cons ?_ (DrawPre.cons ?_ (DrawPre.cons ?_ (DrawPre.cons ?_ (DrawPre.cons ?_ (DrawPre.cons ?_ (DrawPre.cons ?_ (DrawPre.cons ?_ (DrawPre.cons ?_ (DrawPre.cons ?_ (DrawPre.cons ?_ (DrawPre.cons ?_ (DrawPre.cons ?_ (DrawPre.cons ?_ (DrawPre.cons ?_ (DrawPre.cons ?_ (DrawPre.cons ?_ (DrawPre.cons ?_ (DrawPre.cons ?_ (DrawPre.cons ?_ (DrawPre.cons ?_ (DrawPre.cons ?_ (DrawPre.cons ?_ (DrawPre.cons ?_ (DrawPre.cons ?_ (DrawPre.cons ?_ DrawPre.nil)))))))))))))))))))))))))))))))) ?_
  ·
   intro D hn hd hcl hu hi
   refine TO.move rfl dc (dl_old (by rfl) rfl) ?_
   exact TX.quiet 0 hu hi rfl
  ·
   intro D hn hd hcl hu hi
   refine TO.bin rfl dc (dl_lookup (m := 0) hu rfl (hd 0 dc)) rfl (bin_ptrnileqlR Tryd.underlying23) ?_
   exact TX.quiet 1 hu hi rfl
  ·
   intro D hn hd hcl hu hi
   refine TO.move rfl dc (dl_lookup (m := 1) hu rfl (hd 1 dc)) ?_
   exact TX.quiet 2 hu hi rfl
  ·
   intro D hn hd hcl hu hi
   refine TO.move (gd_T rfl (dl_lookup (m := 2) hu rfl (hd 2 dc))) dc (dl_old (by rfl) rfl) ?_
   exact TX.quiet 3 hu hi rfl
  ·
   intro D hn hd hcl hu hi
   refine TO.bin (gd_T rfl (dl_lookup (m := 2) hu rfl (hd 2 dc))) dc (dl_lookup (m := 3) hu rfl (hd 3 dc)) rfl (bin_ptrnileqlR Tryd.underlying23) ?_
   exact TX.quiet 4 hu hi rfl
  ·
   intro D hn hd hcl hu hi
   refine TO.pick (b := false) rfl dc (dl_lookup (m := 2) hu rfl (hd 2 dc)) (dl_lookup (m := 4) hu rfl (hd 4 dc)) ?_
   exact TX.quiet 5 hu hi rfl
  ·
   intro D hn hd hcl hu hi
   refine TO.move rfl dc (dl_lookup (m := 5) hu rfl (hd 5 dc)) ?_
   exact TX.quiet 6 hu hi rfl
  ·
   intro D hn hd hcl hu hi
   refine TO.move (gd_T rfl (dl_lookup (m := 6) hu rfl (hd 6 dc))) dc (dl_old (by rfl) rfl) ?_
   exact TX.quiet 7 hu hi rfl
  ·
   intro D hn hd hcl hu hi
   refine TO.nilCheck (gd_T rfl (dl_lookup (m := 6) hu rfl (hd 6 dc))) dc (dl_lookup (m := 7) hu rfl (hd 7 dc)) ?_
   exact TX.quiet 8 hu hi rfl
  ·
   intro D hn hd hcl hu hi
   refine TO.fieldAddr fl_93_0 (gd_T rfl (dl_lookup (m := 6) hu rfl (hd 6 dc))) dc (dl_lookup (m := 8) hu rfl (hd 8 dc)) (show _ = 0 from rfl) ?_
   exact TX.quiet 9 hu hi rfl
  ·
   intro D hn hd hcl hu hi
   refine TO.fieldAddr fl_91_0 (gd_T rfl (dl_lookup (m := 6) hu rfl (hd 6 dc))) dc (dl_lookup (m := 9) hu rfl (hd 9 dc)) (show _ = 0 from rfl) ?_
   exact TX.quiet 10 hu hi rfl
  ·
   intro D hn hd hcl hu hi
   refine TO.loadRd (i := 0) hrd rfl sc_9 (gd_T rfl (dl_lookup (m := 6) hu rfl (hd 6 dc))) dc (dl_lookup (m := 10) hu rfl (hd 10 dc)) rfl ?_
   exact TX.quiet 11 hu hi rfl
  ·
   intro D hn hd hcl hu hi
   refine TO.move (gd_T rfl (dl_lookup (m := 6) hu rfl (hd 6 dc))) dc (dl_old (by rfl) rfl) ?_
   exact TX.quiet 12 hu hi rfl
  ·
   intro D hn hd hcl hu hi
   refine TO.nilCheck (gd_T rfl (dl_lookup (m := 6) hu rfl (hd 6 dc))) dc (dl_lookup (m := 12) hu rfl (hd 12 dc)) ?_
   exact TX.quiet 13 hu hi rfl
  ·
   intro D hn hd hcl hu hi
   refine TO.fieldAddr fl_93_0 (gd_T rfl (dl_lookup (m := 6) hu rfl (hd 6 dc))) dc (dl_lookup (m := 13) hu rfl (hd 13 dc)) (show _ = 0 from rfl) ?_
   exact TX.quiet 14 hu hi rfl
  ·
   intro D hn hd hcl hu hi
   refine TO.fieldAddr fl_91_0 (gd_T rfl (dl_lookup (m := 6) hu rfl (hd 6 dc))) dc (dl_lookup (m := 14) hu rfl (hd 14 dc)) (show _ = 0 from rfl) ?_
   exact TX.quiet 15 hu hi rfl
  ·
   intro D hn hd hcl hu hi
   refine TO.loadRd (i := 3) hrd rfl sc_9 (gd_T rfl (dl_lookup (m := 6) hu rfl (hd 6 dc))) dc (dl_lookup (m := 15) hu rfl (hd 15 dc)) rfl ?_
   exact TX.quiet 16 hu hi rfl
  ·
   intro D hn hd hcl hu hi
   refine TO.bin (gd_T rfl (dl_lookup (m := 6) hu rfl (hd 6 dc))) dc (dl_lookup (m := 11) hu rfl (hd 11 dc)) (dl_lookup (m := 16) hu rfl (hd 16 dc)) bin_sneq (TO.rewH (show Value.bool (!decide (p1.told_title = q1.told_title)) = Value.bool false from congrArg Value.bool hb1) ?_)
   exact TX.quiet 17 hu hi rfl
  ·
   intro D hn hd hcl hu hi
   refine TO.pick (b := false) rfl dc (dl_lookup (m := 6) hu rfl (hd 6 dc)) (dl_lookup (m := 17) hu rfl (hd 17 dc)) ?_
   exact TX.quiet 18 hu hi rfl
  ·
   intro D hn hd hcl hu hi
   refine TO.move rfl dc (dl_lookup (m := 18) hu rfl (hd 18 dc)) ?_
   exact TX.quiet 19 hu hi rfl
  ·
   intro D hn hd hcl hu hi
   refine TO.move (gd_T rfl (dl_lookup (m := 19) hu rfl (hd 19 dc))) dc (dl_old (by rfl) rfl) ?_
   exact TX.quiet 20 hu hi rfl
  ·
   intro D hn hd hcl hu hi
   refine TO.nilCheck (gd_T rfl (dl_lookup (m := 19) hu rfl (hd 19 dc))) dc (dl_lookup (m := 20) hu rfl (hd 20 dc)) ?_
   exact TX.quiet 21 hu hi rfl
  ·
   intro D hn hd hcl hu hi
   refine TO.fieldAddr fl_93_0 (gd_T rfl (dl_lookup (m := 19) hu rfl (hd 19 dc))) dc (dl_lookup (m := 21) hu rfl (hd 21 dc)) (show _ = 0 from rfl) ?_
   exact TX.quiet 22 hu hi rfl
  ·
   intro D hn hd hcl hu hi
   refine TO.fieldAddr fl_91_1 (gd_T rfl (dl_lookup (m := 19) hu rfl (hd 19 dc))) dc (dl_lookup (m := 22) hu rfl (hd 22 dc)) (show _ = 1 from rfl) ?_
   exact TX.quiet 23 hu hi rfl
  ·
   intro D hn hd hcl hu hi
   refine TO.loadRd (i := 0) hrd rfl sc_57 (gd_T rfl (dl_lookup (m := 19) hu rfl (hd 19 dc))) dc (dl_lookup (m := 23) hu rfl (hd 23 dc)) rfl ?_
   exact TX.quiet 24 hu hi rfl
  ·
   intro D hn hd hcl hu hi
   refine TO.lenVw (hrd.vw (i := 1) rfl) (gd_T rfl (dl_lookup (m := 19) hu rfl (hd 19 dc))) dc (dl_lookup (m := 24) hu rfl (hd 24 dc)) Tryd.underlying57 ?_
   exact TX.quiet 25 hu hi rfl
  ·
   intro D hn hd hcl hu hi
   refine TO.move (gd_T rfl (dl_lookup (m := 19) hu rfl (hd 19 dc))) dc (dl_old (by rfl) rfl) ?_
   exact TX.quiet 26 hu hi rfl
  ·
   intro D hn hd hcl hu hi
   refine TO.nilCheck (gd_T rfl (dl_lookup (m := 19) hu rfl (hd 19 dc))) dc (dl_lookup (m := 26) hu rfl (hd 26 dc)) ?_
   exact TX.quiet 27 hu hi rfl
  ·
   intro D hn hd hcl hu hi
   refine TO.fieldAddr fl_93_0 (gd_T rfl (dl_lookup (m := 19) hu rfl (hd 19 dc))) dc (dl_lookup (m := 27) hu rfl (hd 27 dc)) (show _ = 0 from rfl) ?_
   exact TX.quiet 28 hu hi rfl
  ·
   intro D hn hd hcl hu hi
   refine TO.fieldAddr fl_91_1 (gd_T rfl (dl_lookup (m := 19) hu rfl (hd 19 dc))) dc (dl_lookup (m := 28) hu rfl (hd 28 dc)) (show _ = 1 from rfl) ?_
   exact TX.quiet 29 hu hi rfl
  ·
   intro D hn hd hcl hu hi
   refine TO.loadRd (i := 3) hrd rfl sc_57 (gd_T rfl (dl_lookup (m := 19) hu rfl (hd 19 dc))) dc (dl_lookup (m := 29) hu rfl (hd 29 dc)) rfl ?_
   exact TX.quiet 30 hu hi rfl
  ·
   intro D hn hd hcl hu hi
   refine TO.lenVw (hrd.vw (i := 4) rfl) (gd_T rfl (dl_lookup (m := 19) hu rfl (hd 19 dc))) dc (dl_lookup (m := 30) hu rfl (hd 30 dc)) Tryd.underlying57 ?_
   exact TX.quiet 31 hu hi rfl
  refine TO.bin rfl dc rfl rfl bin_neq (TO.pick (b := false) rfl dc rfl rfl (TO.nil (TX.next ?_)))
  refine TC.condB rfl (fun hb2 => ?_) (fun hb2 => ?_)
  ·
   have h := condT hb2 h
   refine TC.seq (TC.region (TO.assign rfl dc rfl (TO.nil (TX.next (TC.ret (TX.thenRet ?_))))))
   cases h
   exact TX.fin (rs := [.tmp 4]) () (.inl rfl) Tryd.results19 (.cons (.tmp rfl) .nil) rfl Splits.nil
  ·
   have h := condF hb2 h
   refine TC.skip (TX.next ?_)
   obtain ⟨j1, hj1, h⟩ := joinE h
   refine TC.cutN (β := Unit) 0 rfl (fun b => j1 = some r) (fun b => []) (fun b => []) (fun b => []) (fun cut => ?_) ?_
   ·
    refine cut (TC.seq (TC.region (TO.move rfl dc rfl (TO.nilCheck rfl dc rfl (TO.fieldAddr fl_93_0 rfl dc rfl (show _ = 0 from rfl) (TO.fieldAddr fl_91_1 rfl dc rfl (show _ = 1 from rfl) (TO.loadRd (i := 0) hrd rfl sc_57 rfl dc rfl rfl (TO.lenVw (hrd.vw (i := 1) rfl) rfl dc rfl Tryd.underlying57 (TO.move rfl dc rfl (TO.nil (TX.next (TC.block ?_))))))))))))
    refine TC.loopD (β := Nat × Int) (fun b => loopG (fun _ => none) (poem_Poem_Same_s1 p1 q1 j1) b.1 b.2 = some r) (fun b => []) (fun b => [(1, .pointer (some ⟨bq1, 0, none⟩)), (46, p1_h0.v), (47, .int .i64 (p1.told_lines.length : Int)), (48, .int .i64 b.2)]) (fun b => []) (fun b => b.1) (fuel, 0) h rfl (Sbs.cons rfl (Sbs.cons rfl (Sbs.cons rfl (Sbs.cons rfl (Sbs.nil))))) Splits.nil ?_
    rintro ⟨n1, x3⟩ h
    cases n1 with
    | zero => exact noneE h
    | succ n1 =>
     obtain ⟨ag1, hag1⟩ : ∃ ag, ag = loopG (fun _ => none) (poem_Poem_Same_s1 p1 q1 j1) n1 := ⟨_, rfl⟩
     have h : poem_Poem_Same_s1 p1 q1 j1 ag1 x3 = some r := by rw [hag1]; exact h
     unfold poem_Poem_Same_s1 at h
     show TC _ _ _ _ _ ([]) _ _ [(1, .pointer (some ⟨bq1, 0, none⟩)), (46, p1_h0.v), (47, .int .i64 (p1.told_lines.length : Int)), (48, .int .i64 x3)] []
     refine TC.seq (TC.region (TO.bin rfl dc rfl rfl bin_lss (TO.nil (TX.next (TC.seq ?_)))))
     refine TC.condB rfl (fun hb3 => ?_) (fun hb3 => ?_)
     ·
      have h := condT hb3 h
      refine TC.skip (TX.next (TC.seq (TC.block (TC.seq (TC.region (TO.move rfl dc rfl ?_))))))
      obtain ⟨q2, hq1, h⟩ := andE h
      refine TO.indexVw (hrd.vw (i := 1) rfl) hq1 Tryd.underlying57 sz_36 rfl dc rfl rfl rfl (TO.loadsVecRd (m := 0 + (x3 : Int).toNat) (j := 0) (i := 1) (q := q2) (cs := [.string q2.Text, .int .i64 q2.Indent, .int .i64 q2.Stanza, .int .i64 q2.In, .int .i64 q2.Span_From, .int .i64 q2.Span_To]) hrd rfl rw_36 enc_Gapi_Verse_len rfl dc rfl (Vw.get (hrd.vw (i := 1) rfl) hq1) rfl rfl rfl ?_)
      refine TO.alloc zr_36 rfl dc (fun b1 => ?_)
      refine TO.assign rfl dc rfl (TO.stores (k := 0) (vs := [.string q2.Text, .int .i64 q2.Indent, .int .i64 q2.Stanza, .int .i64 q2.In, .int .i64 q2.Span_From, .int .i64 q2.Span_To]) (l' := [.string q2.Text, .int .i64 q2.Indent, .int .i64 q2.Stanza, .int .i64 q2.In, .int .i64 q2.Span_From, .int .i64 q2.Span_To]) sz_36 rfl rfl rfl rfl rfl (show _ ≤ _ by simp) rfl rfl ?_)
      show TO _ _ _ _ _ _ _ _ _ _ [cells b1 [.string q2.Text, .int .i64 q2.Indent, .int .i64 q2.Stanza, .int .i64 q2.In, .int .i64 q2.Span_From, .int .i64 q2.Span_To] 36]
      refine TO.nil (TX.next (TC.seq (TC.region (TO.move rfl dc rfl (TO.nilCheck rfl dc rfl (TO.fieldAddr fl_93_0 rfl dc rfl (show _ = 0 from rfl) (TO.fieldAddr fl_91_1 rfl dc rfl (show _ = 1 from rfl) (TO.loadRd (i := 3) hrd rfl sc_57 rfl dc rfl rfl (TO.move rfl dc rfl ?_)))))))))
      obtain ⟨q3, hq2, h⟩ := andE h
      refine TO.indexVw (hrd.vw (i := 4) rfl) hq2 Tryd.underlying57 sz_36 rfl dc rfl rfl rfl (TO.loadsVecRd (m := 0 + (x3 : Int).toNat) (j := 0) (i := 4) (q := q3) (cs := [.string q3.Text, .int .i64 q3.Indent, .int .i64 q3.Stanza, .int .i64 q3.In, .int .i64 q3.Span_From, .int .i64 q3.Span_To]) hrd rfl rw_36 enc_Gapi_Verse_len rfl dc rfl (Vw.get (hrd.vw (i := 4) rfl) hq2) rfl rfl rfl ?_)
      refine TO.alloc zr_36 rfl dc (fun b2 => ?_)
      refine TO.stores (k := 1) (vs := [.string q3.Text, .int .i64 q3.Indent, .int .i64 q3.Stanza, .int .i64 q3.In, .int .i64 q3.Span_From, .int .i64 q3.Span_To]) (l' := [.string q3.Text, .int .i64 q3.Indent, .int .i64 q3.Stanza, .int .i64 q3.In, .int .i64 q3.Span_From, .int .i64 q3.Span_To]) sz_36 rfl rfl rfl rfl rfl (show _ ≤ _ by simp) rfl rfl ?_
      show TO _ _ _ _ _ _ _ _ _ _ [cells b1 [.string q2.Text, .int .i64 q2.Indent, .int .i64 q2.Stanza, .int .i64 q2.In, .int .i64 q2.Span_From, .int .i64 q2.Span_To] 36, cells b2 [.string q3.Text, .int .i64 q3.Indent, .int .i64 q3.Stanza, .int .i64 q3.In, .int .i64 q3.Span_From, .int .i64 q3.Span_To] 36]
      refine TO.nil (TX.next (TC.seq (TC.region (TO.fieldAddr fl_36_0 rfl dc rfl (show _ = 0 from rfl) (TO.load (k := 0) sc_9 rfl dc rfl rfl rfl (TO.fieldAddr fl_36_0 rfl dc rfl (show _ = 0 from rfl) (TO.load (k := 1) sc_9 rfl dc rfl rfl rfl (TO.bin rfl dc rfl rfl bin_sneq (TO.move rfl dc rfl ?_)))))))))
      refine TO.split (s := 66) rfl (fun hb4 => ?_) (fun hb4 => ?_)
      ·
       have h := condT hb4 h
       refine TO.skip rfl dc (TO.skip rfl dc (TO.skip rfl dc (TO.skip rfl dc (TO.skip rfl dc (TO.pick (b := true) rfl dc rfl rfl (TO.move rfl dc rfl (TO.skip rfl dc (TO.skip rfl dc (TO.skip rfl dc (TO.skip rfl dc (TO.skip rfl dc (TO.pick (b := true) rfl dc rfl rfl (TO.nil ?_)))))))))))))
       refine TX.next (TC.condT rfl (TC.seq (TC.region (TO.assign rfl dc rfl (TO.nil (TX.next (TC.ret (TX.blockRet (TX.thenRet (TX.thenRet (TX.blockRet (TX.thenRet ?_))))))))))))
       cases h
       exact TX.fin (rs := [.tmp 4]) () (.inl rfl) Tryd.results19 (.cons (.tmp rfl) .nil) rfl Splits.nil
      ·
       have h := condF hb4 h
       refine TO.fieldAddr fl_36_1 rfl dc rfl (show _ = 1 from rfl) (TO.load (k := 0) sc_3 rfl dc rfl rfl rfl (TO.fieldAddr fl_36_1 rfl dc rfl (show _ = 1 from rfl) (TO.load (k := 1) sc_3 rfl dc rfl rfl rfl (TO.bin rfl dc rfl rfl bin_neq (TO.pick (b := false) rfl dc rfl rfl (TO.move rfl dc rfl ?_))))))
       refine TO.split (s := 73) rfl (fun hb5 => ?_) (fun hb5 => ?_)
       ·
        have h := condT hb5 h
        refine TO.skip rfl dc (TO.skip rfl dc (TO.skip rfl dc (TO.skip rfl dc (TO.skip rfl dc (TO.pick (b := true) rfl dc rfl rfl (TO.nil (TX.next (TC.condT rfl (TC.seq (TC.region (TO.assign rfl dc rfl (TO.nil (TX.next ?_)))))))))))))
        refine TC.ret (TX.blockRet (TX.thenRet (TX.thenRet (TX.blockRet (TX.thenRet ?_)))))
        cases h
        exact TX.fin (rs := [.tmp 4]) () (.inl rfl) Tryd.results19 (.cons (.tmp rfl) .nil) rfl Splits.nil
       ·
        have h := condF hb5 h
        refine TO.fieldAddr fl_36_2 rfl dc rfl (show _ = 2 from rfl) (TO.load (k := 0) sc_3 rfl dc rfl rfl rfl (TO.fieldAddr fl_36_2 rfl dc rfl (show _ = 2 from rfl) (TO.load (k := 1) sc_3 rfl dc rfl rfl rfl (TO.bin rfl dc rfl rfl bin_neq (TO.pick (b := false) rfl dc rfl rfl (TO.nil (TX.next ?_)))))))
        refine TC.condB rfl (fun hb6 => ?_) (fun hb6 => ?_)
        ·
         have h := condT hb6 h
         refine TC.seq (TC.region (TO.assign rfl dc rfl (TO.nil (TX.next (TC.ret (TX.blockRet (TX.thenRet (TX.thenRet (TX.blockRet (TX.thenRet ?_))))))))))
         cases h
         exact TX.fin (rs := [.tmp 4]) () (.inl rfl) Tryd.results19 (.cons (.tmp rfl) .nil) rfl Splits.nil
        ·
         have h := condF hb6 h
         refine TC.skip (TX.blockNormal (TX.next (TC.region ?_)))
         obtain ⟨hg1, h⟩ := grdE h
         refine TO.bin rfl dc rfl rfl (bin_add (r := x3 + 1) (IntWalk.i64_in _ hg1)) (TO.move rfl dc rfl (TO.nil ?_))
         subst hag1
         exact TX.againD (n1, x3 + 1) h (Nat.lt_succ_self _) rfl (Sbs.cons rfl (Sbs.cons rfl (Sbs.cons rfl (Sbs.cons rfl (Sbs.nil))))) Splits.nil
     ·
      have h := condF hb3 h
      refine TC.exit (TX.thenExit (TX.thenExit (TX.blockHere ?_)))
      exact TX.meetD () h rfl (Sbs.nil) Splits.nil
   ·
    rintro _ h
    rw [hj1] at h
    show TC _ _ _ _ _ ([]) _ _ [] []
    refine TC.seq (TC.region (TO.assign rfl dc rfl (TO.nil (TX.next (TC.ret ?_)))))
    cases h
    exact TX.fin (rs := [.tmp 4]) () (.inl rfl) Tryd.results19 (.cons (.tmp rfl) .nil) rfl Splits.nil
end Go.Proofs.YtgfkogafkhbgnaaDoor
namespace Go.Proofs.YtgfkogafkhbgnaaDoor
open Go.RowKit Go.Lib Go.Shelf
attribute [local go_sem] Oper.semAt_some wide_fn wide_in_fn wide_depth
set_option linter.unusedVariables false

end Go.Proofs.YtgfkogafkhbgnaaDoor
namespace Go.Proofs.YtgfkogafkhbgnaaDoor
open Go.RowKit Go.Lib

/-- The slice value v owns the bytes b. -/
def Br (w : World) (base : Nat) (e : TypeId) (v : Value) (b : ByteArray) : Prop := w.ownsRow base e 1 v b.size (strCells b)
theorem Br.nil (w : World) (base : Nat) (e : TypeId) : Br w base e (.slice none 0 0) ⟨#[]⟩ := World.ownsRow_nil w base e 1
theorem Br.below {w w' : World} {base : Nat} {e : TypeId} {v : Value} {b : ByteArray} (h : Br w base e v b) (hb : Below w.heap.size w w') : Br w' base e v b := by
  refine ⟨h.1, ?_⟩
  rcases h.2 with hn | ⟨g, cap, cur, rfl, h2, h3, rest⟩
  · exact .inl hn
  · exact .inr ⟨g, cap, cur, rfl, h2, some_lt h3 hb, rest⟩
theorem Br.lt {w : World} {base : Nat} {e : TypeId} {v : Value} {b : ByteArray} (h : Br w base e v b) : ∀ k, v.ownBlock = some k → base ≤ k ∧ k < w.heap.size := World.ownsRow.lt h
theorem Br.conv {P : Program} {w : World} {base : Nat} {el : TypeId} {v : Value} {b : ByteArray} (h : Br w base el v b) (src dst e : TypeId) (hs : P.underlying src = some (.slice e)) (he : P.underlying e = some (.int .u8)) (hd : P.underlying dst = some .string) :
    (convert src dst v).run P w = .ok (.string b) w := by
  rcases h.2 with ⟨rfl, h2⟩ | ⟨g, cap, cur, rfl, _, _, _⟩
  · have hb : b = ⟨#[]⟩ := by
      apply ByteArray.ext; exact Array.eq_empty_of_size_eq_zero h2
    rw [hb]; exact run_convert_nil_bytes w src dst e 0 hs he hd
  · have hl : b.data.toList.length = b.size := by rw [Array.length_toList]; rfl
    have := run_convert_bytes_back (P := P) w src dst e ⟨g, 0, none⟩ cap b.data.toList hs he hd (fun j hj => by
      refine World.ownsRow.cells h rfl j _ ?_
      unfold strCells; rw [List.getElem?_map, List.getElem?_eq_getElem hj]; rfl)
    rw [hl] at this
    rw [this]

end Go.Proofs.YtgfkogafkhbgnaaDoor
namespace Go.Proofs.YtgfkogafkhbgnaaDoor
open Go.RowKit Go.Lib Go.Shelf
attribute [local go_sem] Oper.semAt_some
set_option linter.unusedVariables false
set_option linter.unusedSimpArgs false

theorem binfoB : (Tryd.prog.info? 5).map (fun i => (i.zero, i.size, i.bytes)) = some (some (.int .u8 0), 1, 1) := by kernel_rfl
theorem bSize : ∃ j, Tryd.prog.info? 106 = some j ∧ j.size ≠ 0 := by
  have h : (Tryd.prog.info? 106).map (fun j => decide (j.size ≠ 0)) = some true := by kernel_rfl
  cases hj : Tryd.prog.info? 106 with
  | none => rw [hj] at h; simp at h
  | some j => rw [hj] at h; exact ⟨j, rfl, by simpa using h⟩

set_option maxRecDepth 100000 in
set_option maxHeartbeats 4000000 in
theorem check_new (b : Nat) (v : Value) (w : World) (h : w.heap[b]? = some (.cells #[.pointer none, v] 106 (0, 0))) :
    Calls Tryd.prog 79 #[.pointer (some ⟨b, 0, none⟩)] w fun e w' => e = .returned (.tuple #[]) ∧ w' = w.setCell ⟨b, 0, none⟩ (.pointer (some ⟨b, 0, none⟩)) := by
  have c0 : w.cell? ⟨b, 0, none⟩ = some (.pointer none) := cell_at h rfl
  have f0 := frozen_at h 0
  have hsh : w.shape? b = some (106, 2) := by simp [World.shape?, h]
  obtain ⟨j, hj, hjs⟩ := bSize
  clear h
  go_enter Tryd.func79, Tryd.ntmps79
  go_wp2
  rw [Lib.run_to_unsafe w ⟨b, 0, none⟩ (t := 106) (by kernel_rfl) (by kernel_rfl) hj hjs hsh (Nat.zero_lt_succ 1)]
  simp only [Result.andThen]
  rw [Oper.upon_value]
  go_wp2
  rw [run_callFunc_extern Tryd.func97 (by kernel_rfl) (by kernel_rfl) (by kernel_rfl) (e := Extern.AbiNoEscape.same) (by kernel_rfl)]
  rw [Lib.run_noEscape]
  simp only [Result.andThen]
  rw [Oper.upon_value]
  go_wp2
  rw [Lib.run_from_unsafe w ⟨b, 0, none⟩ (u := 106) (by kernel_rfl) (by kernel_rfl) hj hsh (by kernel_rfl)]
  simp only [Result.andThen]
  rw [Oper.upon_value]
  go_wp2
  go_end0
  exact ⟨rfl, rfl⟩
set_option maxRecDepth 100000 in
set_option maxHeartbeats 4000000 in
theorem check_used (b : Nat) (v : Value) (w : World) (h : w.heap[b]? = some (.cells #[.pointer (some ⟨b, 0, none⟩), v] 106 (0, 0))) :
    Calls Tryd.prog 79 #[.pointer (some ⟨b, 0, none⟩)] w fun e w' => e = .returned (.tuple #[]) ∧ w' = w := by
  have c0 : w.cell? ⟨b, 0, none⟩ = some (.pointer (some ⟨b, 0, none⟩)) := cell_at h rfl
  obtain ⟨j, hj, hjs⟩ := bSize
  clear h
  go_enter Tryd.func79, Tryd.ntmps79
  go_wp2
  rw [Lib.run_neq_ptr_same w _ (te := 106) (by kernel_rfl) hj]
  go_wp2
  go_end0
  exact ⟨rfl, rfl⟩

/-- A builder in block b that holds the bytes bs; C: its blocks. -/
def Bld (b : Nat) (bs : ByteArray) (C : Nat → Prop) (w : World) : Prop :=
  ∃ p v D, w.heap[b]? = some (.cells #[p, v] 106 (0, 0)) ∧ (p = .pointer none ∨ p = .pointer (some ⟨b, 0, none⟩)) ∧ Byt 5 v bs D w ∧ ¬ D b ∧ C = (fun k => k = b ∨ D k)
theorem Bld.local {b : Nat} {bs : ByteArray} {C : Nat → Prop} {w w' : World} (h : Bld b bs C w) (hk : ∀ k, C k → w'.heap[k]? = w.heap[k]?) : Bld b bs C w' := by
  obtain ⟨p, v, D, h1, h2, h3, h4, rfl⟩ := h
  exact ⟨p, v, D, (hk b (.inl rfl)).trans h1, h2, h3.local (fun k h => hk k (.inr h)), h4, rfl⟩
theorem Bld.lt {b : Nat} {bs : ByteArray} {C : Nat → Prop} {w : World} (h : Bld b bs C w) : ∀ k, C k → k < w.heap.size := by
  obtain ⟨p, v, D, h1, h2, h3, h4, rfl⟩ := h
  rintro k (rfl | hk)
  · exact lt_of_some h1
  · exact h3.lt k hk
theorem Bld.ext {b : Nat} {bs : ByteArray} {C D D' : Nat → Prop} {w w' : World} (h : Bld b bs C w) (hx : Ext D D' w w') (hd : ∀ k, C k → ¬ D k) : Bld b bs C w' :=
  h.local (fun k hk => hx.1.keep k (h.lt k hk) (hd k hk))
set_option maxRecDepth 100000 in
set_option maxHeartbeats 4000000 in
theorem writeString_any (b : Nat) (bs s : ByteArray) (C : Nat → Prop) (w : World) (h : Bld b bs C w) (hn : bs.size + s.size ≤ 140737488355328) :
    Calls Tryd.prog 55 #[.pointer (some ⟨b, 0, none⟩), .string s] w fun e w' => (∃ u, e = .returned u) ∧ ∃ C', Bld b (bs ++ s) C' w' ∧ Ext C C' w w' := by
  obtain ⟨p, v, D, hbk, hp, hbr, hne, rfl⟩ := h
  obtain ⟨ip, hpi, hpz, hps, hpb⟩ := info_parts binfoB
  obtain ⟨w1, hck, hb1, hbr1, hx1⟩ : ∃ w1, (Calls Tryd.prog 79 #[.pointer (some ⟨b, 0, none⟩)] w fun e w' => e = .returned (.tuple #[]) ∧ w' = w1) ∧
      w1.heap[b]? = some (.cells #[.pointer (some ⟨b, 0, none⟩), v] 106 (0, 0)) ∧ Byt 5 v bs D w1 ∧ Ext (fun k => k = b ∨ D k) (fun k => k = b ∨ D k) w w1 := by
    rcases hp with rfl | rfl
    · have hx : Ext (fun k => k = b) (fun k => k = b) w (w.setCell ⟨b, 0, none⟩ (.pointer (some ⟨b, 0, none⟩))) := Ext.setCell (C' := fun k => k = b) (Ext.refl _ _) (p := ⟨b, 0, none⟩) rfl _
      refine ⟨_, check_new b v w hbk, ?_, hbr.ext hx (by rintro k hk rfl; exact hne hk), Ext.setCell (C' := fun k => k = b ∨ D k) (Ext.refl _ _) (p := ⟨b, 0, none⟩) (.inl rfl) _⟩
      simp [World.setCell, Array.getElem?_modify, hbk]
    · exact ⟨w, check_used b v w hbk, hbk, hbr, Ext.refl _ _⟩
  have c1 : w1.cell? ⟨b, 1, none⟩ = some v := cell_at hb1 rfl
  have hlt : b < w1.heap.size := lt_of_some hb1
  have Hbk := Lib.hid hbk; have Hbr := Lib.hid hbr; have Hx1 := Lib.hid hx1
  clear hbk hbr hx1
  go_enter Tryd.func55, Tryd.ntmps55
  go_wp2_with (first | (go_at_call 79; refine hck.mono ?_; rintro e w' ⟨rfl, rfl⟩) | (refine wpList_append_byt _ rfl _ _ _ _ rfl 5 _ (by kernel_rfl) (by kernel_rfl) hpi hpz hps hpb _ _ _ rfl hbr1 _ rfl hn ?_))
  rintro v' w2 D' hr2 hx2
  have hb2 : w2.heap[b]? = some (.cells #[.pointer (some ⟨b, 0, none⟩), v] 106 (0, 0)) := (hx2.1.keep b hlt hne).trans hb1
  have f1 := frozen_at hb2 1
  have d1 : w2.cell? ⟨b, 1, none⟩ = some v := cell_at hb2 rfl
  have hne' : ¬ D' b := hx2.not hlt hne
  obtain ⟨ao, n', cap', rfl⟩ : ∃ ao n' cap', v' = .slice ao n' cap' := by
    rcases hr2.shape with ⟨rfl, _⟩ | ⟨g, cap, cur, rfl, _⟩ <;> exact ⟨_, _, _, rfl⟩
  have Hr2 := Lib.hid hr2; have Hx2 := Lib.hid hx2; have Hb2 := Lib.hid hb2
  clear hr2 hx2 hb2
  go_wp2
  go_ret2
  have hx3 : Ext (fun k => k = b ∨ D' k) (fun k => k = b ∨ D' k) w2 (w2.setCell ⟨b, 1, none⟩ (.slice ao n' cap')) := Ext.setCell (C' := fun k => k = b ∨ D' k) (Ext.refl _ _) (p := ⟨b, 1, none⟩) (.inl rfl) _
  have hx3' : Ext (fun k => k = b) (fun k => k = b) w2 (w2.setCell ⟨b, 1, none⟩ (.slice ao n' cap')) := Ext.setCell (C' := fun k => k = b) (Ext.refl _ _) (p := ⟨b, 1, none⟩) rfl _
  refine ⟨⟨_, rfl⟩, fun k => k = b ∨ D' k, ⟨_, _, D', ?_, .inr rfl, Hr2.out.ext hx3' (by rintro k hk rfl; exact hne' hk), hne', rfl⟩, ?_⟩
  · simp [World.setCell, Array.getElem?_modify, Hb2.out]
  · refine (Hx1.out.trans ?_).trans hx3
    exact ⟨Hx2.out.1.weaken (fun k _ h => .inr h), fun k hk => by
      rcases hk with rfl | hk
      · exact .inl (.inl rfl)
      · exact (Hx2.out.2 k hk).imp .inr id⟩

/-- The string of a builder. -/
theorem freeze_ext {C C' : Nat → Prop} {a w : World} (h : Ext C C' a w) {g : Nat} (hg : C' g) (m : Nat) : Ext C C' a (w.freeze ⟨g, 0, none⟩ m) := by
  unfold World.freeze
  split
  · exact h
  · have hs : ∀ f : Obj → Obj, ({ w with heap := w.heap.modify g f } : World).heap.size = w.heap.size := fun f => by simp
    refine ⟨⟨h.1.os, h.1.tape, h.1.output, by simpa using h.1.size, fun k hk hn => ?_⟩, fun k hk => by simpa using h.2 k hk⟩
    rw [Array.getElem?_modify]
    rw [if_neg]
    · exact h.1.keep k hk hn
    · intro e
      have e' : g = k := e
      subst e'
      rcases h.2 _ hg with h' | h'
      · exact hn h'
      · omega

set_option maxRecDepth 100000 in
set_option maxHeartbeats 4000000 in
theorem bstring_any (b : Nat) (bs : ByteArray) (C : Nat → Prop) (w : World) (h : Bld b bs C w) :
    Calls Tryd.prog 57 #[.pointer (some ⟨b, 0, none⟩)] w fun e w' => e = .returned (.string bs) ∧ Ext C C w w' := by
  obtain ⟨p, v, D, hbk, hp, hbr, hne, rfl⟩ := h
  rcases hbr.shape with ⟨rfl, rfl, rfl⟩ | ⟨g, cap, cur, rfl, hgl, hbc, hcm, rfl, hg⟩
  · have c1 : w.drew.cell? ⟨b, 1, none⟩ = some (.slice none 0 0) := cell_at (w := w.drew) hbk rfl
    have hSD : (Builtin.unsafeSliceData_ #[104] 139 #[.slice none 0 0]).run Tryd.prog w.drew = .ok (.pointer none) w.drew := rfl
    have hUS : ∀ W q, (Builtin.unsafeString_ #[139, 3] 9 #[.pointer q, .int .i64 0]).run Tryd.prog W = .ok (.string .empty) W := fun W q => Lib.run_unsafeString_none W _ _ _ q
    clear hbk hbr
    go_enter Tryd.func57, Tryd.ntmps57
    go_wp2
    go_region
    all_goals (go_wp2; go_ret; exact ⟨rfl, (Ext.refl _ _).drew⟩)
  · by_cases h0 : bs.size = 0
    · have hbs : bs = ⟨#[]⟩ := by apply ByteArray.ext; exact Array.eq_empty_of_size_eq_zero h0
      subst hbs
      have h00 : (⟨#[]⟩ : ByteArray).size = 0 := rfl
      rw [h00] at hbk hbr
      have hUS : ∀ W q, (Builtin.unsafeString_ #[139, 3] 9 #[.pointer q, .int .i64 0]).run Tryd.prog W = .ok (.string .empty) W := fun W q => Lib.run_unsafeString_none W _ _ _ q
      have c1 : w.drew.cell? ⟨b, 1, none⟩ = some (.slice (some ⟨g, 0, none⟩) 0 cap) := cell_at (w := w.drew) hbk rfl
      by_cases hc0 : cap = 0
      · subst hc0
        have hSD : (Builtin.unsafeSliceData_ #[104] 139 #[.slice (some ⟨g, 0, none⟩) 0 0]).run Tryd.prog w.drew = .ok (.pointer (some ⟨w.drew.heap.size, 0, none⟩)) (w.drew.alloc (.view ⟨g, 0, none⟩ 5)) :=
          Lib.run_unsafeSliceData_zero w.drew _ _ 5 (by kernel_rfl) ⟨g, 0, none⟩ 0 (5, cur.size) (by have hg' : w.drew.heap[g]? = some (.cells cur 5 (0, 0)) := hg; simp [World.shape?, hg'])
        have hlt := lt_of_some hbk
        have c2 : (w.drew.alloc (.view ⟨g, 0, none⟩ 5)).cell? ⟨b, 1, none⟩ = some (.slice (some ⟨g, 0, none⟩) 0 0) := cell_at (w := w.drew.alloc _) ((Below.heap_alloc w.drew _ b hlt).trans hbk) rfl
        have c3 : (w.alloc (.view ⟨g, 0, none⟩ 5)).drew.cell? ⟨b, 1, none⟩ = some (.slice (some ⟨g, 0, none⟩) 0 0) := c2
        have c0 : w.cell? ⟨b, 1, none⟩ = some (.slice (some ⟨g, 0, none⟩) 0 0) := c1
        clear hbk hbr hg
        go_enter Tryd.func57, Tryd.ntmps57
        go_wp2
        go_region
        all_goals (go_wp2; go_ret; exact ⟨rfl, (Ext.refl _ _).drew.alloc _⟩)
      · have hSD : (Builtin.unsafeSliceData_ #[104] 139 #[.slice (some ⟨g, 0, none⟩) 0 cap]).run Tryd.prog w.drew = .ok (.pointer (some ⟨g, 0, none⟩)) w.drew := Lib.run_unsafeSliceData_row _ _ _ _ _ _ hc0
        clear hbk hbr hg hc0
        go_enter Tryd.func57, Tryd.ntmps57
        go_wp2
        go_region
        all_goals (go_wp2; go_ret; exact ⟨rfl, (Ext.refl _ _).drew⟩)
    · obtain ⟨l, hl⟩ : ∃ l, l = bs.data.toList := ⟨_, rfl⟩
      have hll : l.length = bs.size := by rw [hl, Array.length_toList]; rfl
      have hbs : bs = ⟨l.toArray⟩ := by rw [hl]
      have hl0 : l ≠ [] := by intro e; rw [e] at hll; exact h0 hll.symm
      rw [← hll] at hbk hbc hbr
      have c1 : w.drew.cell? ⟨b, 1, none⟩ = some (.slice (some ⟨g, 0, none⟩) l.length cap) := cell_at (w := w.drew) hbk rfl
      have hSD : (Builtin.unsafeSliceData_ #[104] 139 #[.slice (some ⟨g, 0, none⟩) l.length cap]).run Tryd.prog w.drew = .ok (.pointer (some ⟨g, 0, none⟩)) w.drew :=
        Lib.run_unsafeSliceData_row _ _ _ _ _ _ (by omega)
      have hcs : cur.size = cap * 1 := by
        rcases hbr.1.2 with ⟨h1, _⟩ | ⟨g', cap', cur', h1, _, h3, _, _, h6, _⟩
        · cases h1
        · have e1 : g = g' := by injection h1 with q1 q2 q3; injection q1 with q1; injection q1
          have e2 : cap = cap' := by injection h1
          subst e1; subst e2
          rw [hg] at h3; injection h3 with h3; injection h3 with h3
          rw [h3]; exact h6
      have hUS : (Builtin.unsafeString_ #[139, 3] 9 #[.pointer (some ⟨g, 0, none⟩), .int .i64 l.length]).run Tryd.prog w.drew = .ok (.string ⟨l.toArray⟩) (w.drew.freeze ⟨g, 0, none⟩ l.length) := by
        refine Lib.run_unsafeString_row w.drew 139 3 9 5 (by kernel_rfl) (by kernel_rfl) g cur.size (by have hg' : w.drew.heap[g]? = some (.cells cur 5 (0, 0)) := hg; simp [World.shape?, hg']) l hl0 (by omega) (by unfold maxLen at hcm; omega) ?_
        intro j x hx
        refine World.ownsRow.cells hbr.1 (g := g) rfl j (.int .u8 x.toNat) ?_
        unfold strCells
        rw [List.getElem?_map, ← hl, hx]; rfl
      rw [hbs]
      have hx : Ext (fun k => k = b ∨ k = g) (fun k => k = b ∨ k = g) w (w.drew.freeze ⟨g, 0, none⟩ l.length) := freeze_ext ((Ext.refl _ _).drew) (.inr rfl) _
      have Hx := Lib.hid hx
      clear hbk hbr hg hx hbs hll hcs
      clear hl
      go_enter Tryd.func57, Tryd.ntmps57
      go_wp2
      go_region
      all_goals (go_wp2; go_ret; exact ⟨rfl, Hx.out⟩)

end Go.Proofs.YtgfkogafkhbgnaaDoor
namespace Go.Proofs.YtgfkogafkhbgnaaDoor
open Go.RowKit Go.Lib Go.Shelf
attribute [local go_sem] Oper.semAt_some
set_option linter.unusedVariables false
set_option linter.unusedSimpArgs false
theorem Bld.drew {b : Nat} {bs : ByteArray} {C : Nat → Prop} {w : World} (h : Bld b bs C w) : Bld b bs C w.drew := h.local (fun _ _ => rfl)
/-! ### As contracts -/
def bldA (b : Nat) (bs : ByteArray) : Asn := ⟨fun C w => Bld b bs C w, fun h => h.lt, fun h _ hk => h.local hk⟩
theorem wstr_fn (b : Nat) (bs s : ByteArray) (hn : bs.size + s.size ≤ 140737488355328) : Fn Tryd.prog 55 [.pointer (some ⟨b, 0, none⟩), .string s] [bldA b bs] (fun u : Value => u) (fun _ => [bldA b (bs ++ s)]) := by
  intro w C hA
  refine (writeString_any b bs s C w (sepL.one1.1 hA) hn).mono ?_
  rintro e w' ⟨⟨u, rfl⟩, C', h1, h2⟩
  exact ⟨u, rfl, C', sepL.one1.2 h1, h2⟩
theorem bstr_fn (b : Nat) (bs : ByteArray) : Fn Tryd.prog 57 [.pointer (some ⟨b, 0, none⟩)] [bldA b bs] (fun _ : Unit => .string bs) (fun _ => []) := by
  intro w C hA
  refine (bstring_any b bs C w (sepL.one1.1 hA)).mono ?_
  rintro e w' ⟨rfl, h2⟩
  exact ⟨(), rfl, fun _ => False, fun _ h => h, h2.1, fun k hk => hk.elim⟩
theorem Ent.bldNew {b : Nat} : Ent (cells b [.pointer none, .slice none 0 0] 106) (bldA b ⟨#[]⟩) := by
  intro C w h
  have hC : C = fun k => k = b := funext fun k => propext (h.1 k)
  subst hC
  exact ⟨_, _, _, h.2, .inl rfl, Byt.nil, by simp, by funext k; simp⟩
end Go.Proofs.YtgfkogafkhbgnaaDoor
namespace Go.Proofs.YtgfkogafkhbgnaaDoor
open Go.RowKit Go.Lib Go.Shelf
set_option linter.unusedVariables false
set_option linter.unusedSimpArgs false
set_option maxHeartbeats 4000000 in
set_option maxRecDepth 100000 in
theorem blen_any (b : Nat) (bs : ByteArray) (C : Nat → Prop) (w : World) (h : Bld b bs C w) :
    Calls Tryd.prog 56 #[.pointer (some ⟨b, 0, none⟩)] w fun e w' => e = .returned (.int .i64 (bs.size : Int)) ∧ w = w' := by
  obtain ⟨p, v, D, hbk, hp, hbr, hne, rfl⟩ := h
  rcases hbr.shape with ⟨rfl, rfl, rfl⟩ | ⟨g, cap, cur, rfl, hgl, hbc, hcm, rfl, hg⟩
  · have c1 : w.cell? ⟨b, 1, none⟩ = some (.slice none 0 0) := cell_at hbk rfl
    clear hbk hbr
    go_enter Tryd.func56, Tryd.ntmps56
    go_wp2
    go_ret
    exact ⟨rfl, rfl⟩
  · have c1 : w.cell? ⟨b, 1, none⟩ = some (.slice (some ⟨g, 0, none⟩) bs.size cap) := cell_at hbk rfl
    clear hbk hbr
    go_enter Tryd.func56, Tryd.ntmps56
    go_wp2
    go_ret
    exact ⟨rfl, rfl⟩
theorem blen_fn (b : Nat) (bs : ByteArray) : Fn Tryd.prog 56 [.pointer (some ⟨b, 0, none⟩)] [bldA b bs] (fun _ : Unit => .int .i64 (bs.size : Int)) (fun _ => [bldA b bs]) := by
  intro w C hA
  refine (blen_any b bs C w (sepL.one1.1 hA)).mono ?_
  rintro e w' ⟨rfl, rfl⟩
  exact ⟨(), rfl, C, hA, Ext.refl _ _⟩
end Go.Proofs.YtgfkogafkhbgnaaDoor
