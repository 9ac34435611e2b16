/-
  Texts laid together: LpG, LpH, Pf, Pg, Ph, Pi, Pj, Pk, Pn, LfPageTurns, Ro, Sh, PlPageTurns. Nothing is assumed.
-/
import Derived.Test.YtnhdnpdbmgeheaaPageTurns4
import Derived.Test.YtnhdnpdbmgeheaaPageTurns2
import Derived.Test.YtnhdnpdbmgeheaaPageTurns3
import Derived.OpenShut
import Derived.SliceStrings
import Derived.ProofKit
namespace Go.Proofs.Ytnhdnpdbmgeheaa
open Go.RowKit Go.Lib
set_option linter.unusedVariables false
set_option linter.unusedSimpArgs false
def ref30_May_v (l1 : Gapi_Layout) : Option Bool := bcond (decide ((8 : Int) ≤ l1.Width)) ( bcond (decide ((l1.Width : Int) ≤ 256)) ( bcond (decide ((4 : Int) ≤ l1.Height)) ( bcond (decide ((l1.Height : Int) ≤ 200)) ( bcond (decide ((0 : Int) ≤ l1.Turn)) ( bcond (decide ((l1.Turn : Int) ≤ 7)) ( bcond (decide ((0 : Int) ≤ l1.Every)) ( some (decide ((l1.Every : Int) ≤ 512))
) ( some false
)
) ( some false
)
) ( some false
)
) ( some false
)
) ( some false
)
) ( some false
)
) ( some false
)
set_option maxRecDepth 100000 in
set_option maxHeartbeats 4000000 in
theorem ref30_May_fn {l1 : Gapi_Layout} {r : Bool} (h : ref30_May_v l1 = some r) : FnP Try.prog 15 [.agg #[.int .i64 l1.Width, .int .i64 l1.Height, .int .i64 l1.Turn, .int .i64 l1.Every]] (.bool r) := by
 unfold ref30_May_v at h
 refine FnP.intro Try.func15 rfl Try.ntmps15 (by simp) ?_
 intro w0 K
 refine TC.seq (TC.region ?_)
 refine TO.box rfl dc rfl (fun b1 => ?_)
 refine TO.assign rfl dc rfl (TO.nil (TX.next (TC.seq (TC.region (TO.fieldAddr fl_23_0 rfl dc rfl (show _ = 0 from rfl) (TO.load (k := 0) sc_3 rfl dc rfl rfl rfl (TO.bin rfl dc rfl rfl bin_geq (TO.move rfl dc rfl ?_))))))))
 refine TO.split (s := 6) rfl (fun hb1 => ?_) (fun hb1 => ?_)
 ·
  have h := condT hb1 h
  refine TO.fieldAddr fl_23_0 rfl dc rfl (show _ = 0 from rfl) (TO.load (k := 0) sc_3 rfl dc rfl rfl rfl (TO.bin rfl dc rfl rfl bin_leq (TO.pick (b := true) rfl dc rfl rfl (TO.move rfl dc rfl ?_))))
  refine TO.split (s := 11) rfl (fun hb2 => ?_) (fun hb2 => ?_)
  ·
   have h := condT hb2 h
   refine TO.fieldAddr fl_23_1 rfl dc rfl (show _ = 1 from rfl) (TO.load (k := 0) sc_3 rfl dc rfl rfl rfl (TO.bin rfl dc rfl rfl bin_geq (TO.pick (b := true) rfl dc rfl rfl (TO.move rfl dc rfl ?_))))
   refine TO.split (s := 16) rfl (fun hb3 => ?_) (fun hb3 => ?_)
   ·
    have h := condT hb3 h
    refine TO.fieldAddr fl_23_1 rfl dc rfl (show _ = 1 from rfl) (TO.load (k := 0) sc_3 rfl dc rfl rfl rfl (TO.bin rfl dc rfl rfl bin_leq (TO.pick (b := true) rfl dc rfl rfl (TO.move rfl dc rfl ?_))))
    refine TO.split (s := 21) rfl (fun hb4 => ?_) (fun hb4 => ?_)
    ·
     have h := condT hb4 h
     refine TO.fieldAddr fl_23_2 rfl dc rfl (show _ = 2 from rfl) (TO.load (k := 0) sc_3 rfl dc rfl rfl rfl (TO.bin rfl dc rfl rfl bin_geq (TO.pick (b := true) rfl dc rfl rfl (TO.move rfl dc rfl ?_))))
     refine TO.split (s := 26) rfl (fun hb5 => ?_) (fun hb5 => ?_)
     ·
      have h := condT hb5 h
      refine TO.fieldAddr fl_23_2 rfl dc rfl (show _ = 2 from rfl) (TO.load (k := 0) sc_3 rfl dc rfl rfl rfl (TO.bin rfl dc rfl rfl bin_leq (TO.pick (b := true) rfl dc rfl rfl (TO.move rfl dc rfl ?_))))
      refine TO.split (s := 31) rfl (fun hb6 => ?_) (fun hb6 => ?_)
      ·
       have h := condT hb6 h
       refine TO.fieldAddr fl_23_3 rfl dc rfl (show _ = 3 from rfl) (TO.load (k := 0) sc_3 rfl dc rfl rfl rfl (TO.bin rfl dc rfl rfl bin_geq (TO.pick (b := true) rfl dc rfl rfl (TO.move rfl dc rfl ?_))))
       refine TO.split (s := 36) rfl (fun hb7 => ?_) (fun hb7 => ?_)
       ·
        have h := condT hb7 h
        refine TO.fieldAddr fl_23_3 rfl dc rfl (show _ = 3 from rfl) (TO.load (k := 0) sc_3 rfl dc rfl rfl rfl (TO.bin rfl dc rfl rfl bin_leq (TO.pick (b := true) rfl dc rfl rfl (TO.assign rfl dc rfl (TO.nil (TX.next (TC.ret ?_)))))))
        cases h
        exact TX.fin (rs := [.tmp 2]) () (.inl rfl) Try.results15 (.cons (.tmp rfl) .nil) rfl Splits.nil
       ·
        have h := condF hb7 h
        refine TO.skip rfl dc (TO.skip rfl dc (TO.skip rfl dc (TO.pick (b := false) rfl dc rfl rfl (TO.assign rfl dc rfl (TO.nil (TX.next (TC.ret ?_)))))))
        cases h
        exact TX.fin (rs := [.tmp 2]) () (.inl rfl) Try.results15 (.cons (.tmp rfl) .nil) rfl Splits.nil
      ·
       have h := condF hb6 h
       refine TO.skip rfl dc (TO.skip rfl dc (TO.skip rfl dc (TO.pick (b := false) rfl dc rfl rfl (TO.move rfl dc rfl (TO.skip rfl dc (TO.skip rfl dc (TO.skip rfl dc (TO.pick (b := false) rfl dc rfl rfl (TO.assign rfl dc rfl (TO.nil (TX.next (TC.ret ?_))))))))))))
       cases h
       exact TX.fin (rs := [.tmp 2]) () (.inl rfl) Try.results15 (.cons (.tmp rfl) .nil) rfl Splits.nil
     ·
      have h := condF hb5 h
      refine TO.skip rfl dc (TO.skip rfl dc (TO.skip rfl dc (TO.pick (b := false) rfl dc rfl rfl (TO.move rfl dc rfl (TO.skip rfl dc (TO.skip rfl dc (TO.skip rfl dc (TO.pick (b := false) rfl dc rfl rfl (TO.move rfl dc rfl (TO.skip rfl dc (TO.skip rfl dc (TO.skip rfl dc (TO.pick (b := false) rfl dc rfl rfl ?_)))))))))))))
      refine TO.assign rfl dc rfl (TO.nil (TX.next (TC.ret ?_)))
      cases h
      exact TX.fin (rs := [.tmp 2]) () (.inl rfl) Try.results15 (.cons (.tmp rfl) .nil) rfl Splits.nil
    ·
     have h := condF hb4 h
     refine TO.skip rfl dc (TO.skip rfl dc (TO.skip rfl dc (TO.pick (b := false) rfl dc rfl rfl (TO.move rfl dc rfl (TO.skip rfl dc (TO.skip rfl dc (TO.skip rfl dc (TO.pick (b := false) rfl dc rfl rfl (TO.move rfl dc rfl (TO.skip rfl dc (TO.skip rfl dc (TO.skip rfl dc (TO.pick (b := false) rfl dc rfl rfl ?_)))))))))))))
     refine TO.move rfl dc rfl (TO.skip rfl dc (TO.skip rfl dc (TO.skip rfl dc (TO.pick (b := false) rfl dc rfl rfl (TO.assign rfl dc rfl (TO.nil (TX.next (TC.ret ?_))))))))
     cases h
     exact TX.fin (rs := [.tmp 2]) () (.inl rfl) Try.results15 (.cons (.tmp rfl) .nil) rfl Splits.nil
   ·
    have h := condF hb3 h
    refine TO.skip rfl dc (TO.skip rfl dc (TO.skip rfl dc (TO.pick (b := false) rfl dc rfl rfl (TO.move rfl dc rfl (TO.skip rfl dc (TO.skip rfl dc (TO.skip rfl dc (TO.pick (b := false) rfl dc rfl rfl (TO.move rfl dc rfl (TO.skip rfl dc (TO.skip rfl dc (TO.skip rfl dc (TO.pick (b := false) rfl dc rfl rfl ?_)))))))))))))
    refine TO.move rfl dc rfl (TO.skip rfl dc (TO.skip rfl dc (TO.skip rfl dc (TO.pick (b := false) rfl dc rfl rfl (TO.move rfl dc rfl (TO.skip rfl dc (TO.skip rfl dc (TO.skip rfl dc (TO.pick (b := false) rfl dc rfl rfl (TO.assign rfl dc rfl (TO.nil (TX.next (TC.ret ?_)))))))))))))
    cases h
    exact TX.fin (rs := [.tmp 2]) () (.inl rfl) Try.results15 (.cons (.tmp rfl) .nil) rfl Splits.nil
  ·
   have h := condF hb2 h
   refine TO.skip rfl dc (TO.skip rfl dc (TO.skip rfl dc (TO.pick (b := false) rfl dc rfl rfl (TO.move rfl dc rfl (TO.skip rfl dc (TO.skip rfl dc (TO.skip rfl dc (TO.pick (b := false) rfl dc rfl rfl (TO.move rfl dc rfl (TO.skip rfl dc (TO.skip rfl dc (TO.skip rfl dc (TO.pick (b := false) rfl dc rfl rfl ?_)))))))))))))
   refine TO.move rfl dc rfl (TO.skip rfl dc (TO.skip rfl dc (TO.skip rfl dc (TO.pick (b := false) rfl dc rfl rfl (TO.move rfl dc rfl (TO.skip rfl dc (TO.skip rfl dc (TO.skip rfl dc (TO.pick (b := false) rfl dc rfl rfl (TO.move rfl dc rfl (TO.skip rfl dc (TO.skip rfl dc (TO.skip rfl dc ?_)))))))))))))
   refine TO.pick (b := false) rfl dc rfl rfl (TO.assign rfl dc rfl (TO.nil (TX.next (TC.ret ?_))))
   cases h
   exact TX.fin (rs := [.tmp 2]) () (.inl rfl) Try.results15 (.cons (.tmp rfl) .nil) rfl Splits.nil
 ·
  have h := condF hb1 h
  refine TO.skip rfl dc (TO.skip rfl dc (TO.skip rfl dc (TO.pick (b := false) rfl dc rfl rfl (TO.move rfl dc rfl (TO.skip rfl dc (TO.skip rfl dc (TO.skip rfl dc (TO.pick (b := false) rfl dc rfl rfl (TO.move rfl dc rfl (TO.skip rfl dc (TO.skip rfl dc (TO.skip rfl dc (TO.pick (b := false) rfl dc rfl rfl ?_)))))))))))))
  refine TO.move rfl dc rfl (TO.skip rfl dc (TO.skip rfl dc (TO.skip rfl dc (TO.pick (b := false) rfl dc rfl rfl (TO.move rfl dc rfl (TO.skip rfl dc (TO.skip rfl dc (TO.skip rfl dc (TO.pick (b := false) rfl dc rfl rfl (TO.move rfl dc rfl (TO.skip rfl dc (TO.skip rfl dc (TO.skip rfl dc ?_)))))))))))))
  refine TO.pick (b := false) rfl dc rfl rfl (TO.move rfl dc rfl (TO.skip rfl dc (TO.skip rfl dc (TO.skip rfl dc (TO.pick (b := false) rfl dc rfl rfl (TO.assign rfl dc rfl (TO.nil (TX.next (TC.ret ?_)))))))))
  cases h
  exact TX.fin (rs := [.tmp 2]) () (.inl rfl) Try.results15 (.cons (.tmp rfl) .nil) rfl Splits.nil
def ref30_Space_v (s1 : ByteArray) (c1 : Gapi_Cell) : Option Bool := grd (I64 (c1.Span_To - c1.Span_From)) <| bcond (((c1.Span_To - c1.Span_From) : Int) == 1) ( andThen (getB s1 c1.Span_From) fun (c2 : Int) => some ((c2 : Int) == 32)
) ( some false
)
set_option maxRecDepth 100000 in
set_option maxHeartbeats 4000000 in
theorem ref30_Space_fn {s1 : ByteArray} {c1 : Gapi_Cell} {r : Bool} (h : ref30_Space_v s1 c1 = some r) : FnP Try.prog 27 [.string s1, .agg #[.int .i64 c1.Span_From, .int .i64 c1.Span_To, .int .i64 c1.Columns]] (.bool r) := by
 unfold ref30_Space_v at h
 refine FnP.intro Try.func27 rfl Try.ntmps27 (by simp) ?_
 intro w0 K
 refine TC.seq (TC.region ?_)
 refine TO.box rfl dc rfl (fun b1 => ?_)
 refine TO.assign rfl dc rfl (TO.nil (TX.next (TC.seq (TC.region (TO.fieldAddr fl_52_0 rfl dc rfl (show _ = 0 from rfl) (TO.fieldAddr fl_50_1 rfl dc rfl (show _ = 1 from rfl) (TO.load (k := 0) sc_3 rfl dc rfl rfl rfl (TO.fieldAddr fl_52_0 rfl dc rfl (show _ = 0 from rfl) (TO.fieldAddr fl_50_0 rfl dc rfl (show _ = 0 from rfl) (TO.load (k := 0) sc_3 rfl dc rfl rfl rfl ?_))))))))))
 obtain ⟨hg1, h⟩ := grdE h
 refine TO.bin rfl dc rfl rfl (bin_sub (r := c1.Span_To - c1.Span_From) (IntWalk.i64_in _ hg1)) (TO.bin rfl dc rfl rfl bin_eql (TO.move rfl dc rfl ?_))
 refine TO.split (s := 13) rfl (fun hb1 => ?_) (fun hb1 => ?_)
 ·
  have h := condT hb1 h
  refine TO.move rfl dc rfl (TO.fieldAddr fl_52_0 rfl dc rfl (show _ = 0 from rfl) (TO.fieldAddr fl_50_0 rfl dc rfl (show _ = 0 from rfl) (TO.load (k := 0) sc_3 rfl dc rfl rfl rfl ?_)))
  obtain ⟨c2, hq1, h⟩ := andE h
  refine TO.index rfl dc rfl rfl (index_stringI Try.underlying9 hq1) (TO.bin rfl dc rfl rfl bin_eql (TO.pick (b := true) rfl dc rfl rfl (TO.assign rfl dc rfl (TO.nil (TX.next (TC.ret ?_))))))
  cases h
  exact TX.fin (rs := [.tmp 4]) () (.inl rfl) Try.results27 (.cons (.tmp rfl) .nil) rfl Splits.nil
 ·
  have h := condF hb1 h
  refine TO.skip rfl dc (TO.skip rfl dc (TO.skip rfl dc (TO.skip rfl dc (TO.skip rfl dc (TO.skip rfl dc (TO.pick (b := false) rfl dc rfl rfl (TO.assign rfl dc rfl (TO.nil (TX.next (TC.ret ?_))))))))))
  cases h
  exact TX.fin (rs := [.tmp 4]) () (.inl rfl) Try.results27 (.cons (.tmp rfl) .nil) rfl Splits.nil
def ref30_Columns_s1 (s1 : ByteArray) (l1 : List Gapi_Cell) (j1 : Int → Option Int) (ag1 : Int → Option Int) (n4 : Int) : Option Int := bcond (decide ((0 : Int) < n4)) ( grd (I64 (n4 - 1)) <| andThen (getO l1 (n4 - 1)) fun (q1 : Gapi_Cell) => andThen (ref30_Space_v s1 q1) fun (r1 : Bool) => bcond (r1) ( grd (I64 (n4 - 1)) <| ag1 (n4 - 1)
) ( j1 n4
)
) ( j1 n4
)
def ref30_Columns_s2 (l1 : List Gapi_Cell) (n1 : Int) (j2 : Int → Option Int) (ag2 : Int → Int → Option Int) (sum4 : Int) (i3 : Int) : Option Int := bcond (decide ((i3 : Int) < n1)) ( andThen (getO l1 i3) fun (q2 : Gapi_Cell) => grd (I64 (sum4 + q2.Columns)) <| grd (I64 (i3 + 1)) <| ag2 (sum4 + q2.Columns) (i3 + 1)
) ( j2 sum4
)
def ref30_Columns_v (s1 : ByteArray) (l1 : List Gapi_Cell) : Option Int := joinK (fun (j1 : Int → Option Int) => loopG (fun _ => none) (ref30_Columns_s1 s1 l1 j1) fuel (l1.length : Int)
) (fun (n1 : Int) => joinK (fun (j2 : Int → Option Int) => loopG (fun _ _ => none) (ref30_Columns_s2 l1 n1 j2) fuel 0 0
) (fun (sum1 : Int) => some sum1
)
)
set_option maxRecDepth 100000 in
set_option maxHeartbeats 4000000 in
theorem ref30_Columns_fn {s1 : ByteArray} {vvl1 vl1 : Value} {Ll1 : List Gapi_Cell} {kl1 : Nat} {l1 : List Gapi_Cell} (hwl1 : Vw vvl1 Ll1 3 kl1 vl1 l1) {r : Int} (h : ref30_Columns_v s1 l1 = some r) : Fn Try.prog 28 [.string s1, vl1] [vec enc_Gapi_Cell 52 3 vvl1 Ll1] (fun _b : Unit => .int .i64 r) (fun _b => [vec enc_Gapi_Cell 52 3 vvl1 Ll1]) := by
 unfold ref30_Columns_v at h
 refine Fn.intro Try.func28 rfl Try.ntmps28 (by simp) ?_
 intro w0 K
 obtain ⟨j1, hj1, h⟩ := joinE h
 refine TC.cutN (β := Int) 2 rfl (fun b => j1 b = some r) (fun b => []) (fun b => [(1, vl1), (5, .int .i64 b)]) (fun b => [vec enc_Gapi_Cell 52 3 vvl1 Ll1]) (fun cut => ?_) ?_
 ·
  refine TC.seq (TC.region (TO.assign rfl dc rfl (TO.nil (TX.next (TC.seq (TC.region (TO.move rfl dc rfl (TO.lenVw hwl1 rfl dc rfl Try.underlying44 (TO.assign rfl dc rfl (TO.nil (TX.next (cut (TC.block ?_)))))))))))))
  refine TC.loopD (β := Nat × Int) (fun b => loopG (fun _ => none) (ref30_Columns_s1 s1 l1 j1) b.1 b.2 = some r) (fun b => []) (fun b => [(0, .string s1), (1, vl1), (5, .int .i64 b.2)]) (fun b => [vec enc_Gapi_Cell 52 3 vvl1 Ll1]) (fun b => b.1) (fuel, (l1.length : Int)) h rfl (Sbs.cons rfl (Sbs.cons rfl (Sbs.cons rfl (Sbs.nil)))) (Splits.of [0] kr rfl) ?_
  rintro ⟨n5, n4⟩ h
  cases n5 with
  | zero => exact noneE h
  | succ n5 =>
   obtain ⟨ag1, hag1⟩ : ∃ ag, ag = loopG (fun _ => none) (ref30_Columns_s1 s1 l1 j1) n5 := ⟨_, rfl⟩
   have h : ref30_Columns_s1 s1 l1 j1 ag1 n4 = some r := by rw [hag1]; exact h
   unfold ref30_Columns_s1 at h
   show TC _ _ _ _ _ ([]) _ _ [(0, .string s1), (1, vl1), (5, .int .i64 n4)] [vec enc_Gapi_Cell 52 3 vvl1 Ll1]
   refine TC.seq (TC.seq (TC.region (TO.move rfl dc rfl (TO.bin rfl dc rfl rfl bin_gtr (TO.move rfl dc rfl ?_)))))
   refine TO.split (s := 12) rfl (fun hb1 => ?_) (fun hb1 => ?_)
   ·
    have h := condT hb1 h
    refine TO.move rfl dc rfl (TO.move rfl dc rfl (TO.move rfl dc rfl ?_))
    obtain ⟨hg1, h⟩ := grdE h
    refine TO.bin rfl dc rfl rfl (bin_sub (r := n4 - 1) (IntWalk.i64_in _ hg1)) ?_
    obtain ⟨q1, hq1, h⟩ := andE h
    refine TO.indexVw hwl1 hq1 Try.underlying44 sz_52 rfl dc rfl rfl rfl (TO.loadsVec (i := kl1 + (n4 - 1 : Int).toNat) (j := 0) (k := 0) (q := q1) (cs := [.int .i64 q1.Span_From, .int .i64 q1.Span_To, .int .i64 q1.Columns]) rw_52 enc_Gapi_Cell_len rfl dc rfl rfl (Vw.get hwl1 hq1) rfl rfl rfl ?_)
    obtain ⟨r1, hq2, h⟩ := andE h
    refine TO.callP (v := .bool r1) (vs := [.string s1, .agg #[.int .i64 q1.Span_From, .int .i64 q1.Span_To, .int .i64 q1.Columns]]) rfl dc rfl rfl rfl en_27 (ref30_Space_fn (c1 := q1) hq2) (TO.pick (b := true) rfl dc rfl rfl (TO.nil (TX.next ?_)))
    refine TC.condB rfl (fun hb2 => ?_) (fun hb2 => ?_)
    ·
     have h := condT hb2 h
     refine TC.skip (TX.next (TC.block (TC.region (TO.move rfl dc rfl ?_))))
     obtain ⟨hg2, h⟩ := grdE h
     refine TO.bin rfl dc rfl rfl (bin_sub (r := n4 - 1) (IntWalk.i64_in _ hg2)) (TO.assign rfl dc rfl (TO.nil (TX.blockNormal ?_)))
     subst hag1
     exact TX.againD (n5, n4 - 1) h (Nat.lt_succ_self _) rfl (Sbs.cons rfl (Sbs.cons rfl (Sbs.cons rfl (Sbs.nil)))) (Splits.of [0] kr rfl)
    ·
     have h := condF hb2 h
     refine TC.exit (TX.thenExit (TX.thenExit (TX.blockHere ?_)))
     exact TX.meetD n4 h rfl (Sbs.cons rfl (Sbs.cons rfl (Sbs.nil))) (Splits.of [0] kr rfl)
   ·
    have h := condF hb1 h
    refine TO.skip rfl dc (TO.skip rfl dc (TO.skip rfl dc (TO.skip rfl dc (TO.skip rfl dc (TO.skip rfl dc (TO.skip rfl dc (TO.pick (b := false) rfl dc rfl rfl (TO.nil (TX.next (TC.condF rfl (TC.exit (TX.thenExit (TX.thenExit ?_)))))))))))))
    refine TX.blockHere ?_
    exact TX.meetD n4 h rfl (Sbs.cons rfl (Sbs.cons rfl (Sbs.nil))) (Splits.of [0] kr rfl)
 ·
  rintro n1 h
  rw [hj1] at h
  show TC _ _ _ _ _ ([]) _ _ [(1, vl1), (5, .int .i64 n1)] [vec enc_Gapi_Cell 52 3 vvl1 Ll1]
  obtain ⟨j2, hj2, h⟩ := joinE h
  refine TC.cutN (β := Int) 1 rfl (fun b => j2 b = some r) (fun b => []) (fun b => [(6, .int .i64 b)]) (fun b => [vec enc_Gapi_Cell 52 3 vvl1 Ll1]) (fun cut => ?_) ?_
  ·
   refine TC.seq (TC.region (TO.assign rfl dc rfl (TO.nil (TX.next (cut (TC.seq (TC.region (TO.assign rfl dc rfl (TO.nil (TX.next (TC.block ?_)))))))))))
   refine TC.loopD (β := Nat × Int × Int) (fun b => loopG (fun _ _ => none) (ref30_Columns_s2 l1 n1 j2) b.1 b.2.1 b.2.2 = some r) (fun b => []) (fun b => [(1, vl1), (5, .int .i64 n1), (6, .int .i64 b.2.1), (7, .int .i64 b.2.2)]) (fun b => [vec enc_Gapi_Cell 52 3 vvl1 Ll1]) (fun b => b.1) (fuel, 0, 0) h rfl (Sbs.cons rfl (Sbs.cons rfl (Sbs.cons rfl (Sbs.cons rfl (Sbs.nil))))) (Splits.of [0] kr rfl) ?_
   rintro ⟨n6, sum4, i3⟩ h
   cases n6 with
   | zero => exact noneE h
   | succ n6 =>
    obtain ⟨ag2, hag2⟩ : ∃ ag, ag = loopG (fun _ _ => none) (ref30_Columns_s2 l1 n1 j2) n6 := ⟨_, rfl⟩
    have h : ref30_Columns_s2 l1 n1 j2 ag2 sum4 i3 = some r := by rw [hag2]; exact h
    unfold ref30_Columns_s2 at h
    show TC _ _ _ _ _ ([]) _ _ [(1, vl1), (5, .int .i64 n1), (6, .int .i64 sum4), (7, .int .i64 i3)] [vec enc_Gapi_Cell 52 3 vvl1 Ll1]
    refine TC.seq (TC.seq (TC.region (TO.move rfl dc rfl (TO.move rfl dc rfl (TO.bin rfl dc rfl rfl bin_lss (TO.nil (TX.next ?_)))))))
    refine TC.condB rfl (fun hb3 => ?_) (fun hb3 => ?_)
    ·
     have h := condT hb3 h
     refine TC.skip (TX.next (TC.seq (TC.block (TC.region (TO.move rfl dc rfl (TO.move rfl dc rfl (TO.move rfl dc rfl ?_)))))))
     obtain ⟨q2, hq3, h⟩ := andE h
     refine TO.indexVw hwl1 hq3 Try.underlying44 sz_52 rfl dc rfl rfl rfl (TO.fieldAddr fl_52_1 rfl dc rfl (show _ = (kl1 + (i3 : Int).toNat) * 3 + 2 from rfl) (TO.loadVec (i := kl1 + (i3 : Int).toNat) (j := 2) (k := 0) (q := q2) sc_3 enc_Gapi_Cell_len rfl dc rfl rfl (Vw.get hwl1 hq3) rfl dc rfl ?_))
     obtain ⟨hg3, h⟩ := grdE h
     refine TO.bin rfl dc rfl rfl (bin_add (r := sum4 + q2.Columns) (IntWalk.i64_in _ hg3)) (TO.assign rfl dc rfl (TO.nil (TX.blockNormal (TX.next (TC.region (TO.move rfl dc rfl ?_))))))
     obtain ⟨hg4, h⟩ := grdE h
     refine TO.bin rfl dc rfl rfl (bin_add (r := i3 + 1) (IntWalk.i64_in _ hg4)) (TO.assign rfl dc rfl (TO.nil ?_))
     subst hag2
     exact TX.againD (n6, sum4 + q2.Columns, i3 + 1) h (Nat.lt_succ_self _) rfl (Sbs.cons rfl (Sbs.cons rfl (Sbs.cons rfl (Sbs.cons rfl (Sbs.nil))))) (Splits.of [0] kr rfl)
    ·
     have h := condF hb3 h
     refine TC.exit (TX.thenExit (TX.thenExit (TX.blockHere ?_)))
     exact TX.meetD sum4 h rfl (Sbs.cons rfl (Sbs.nil)) (Splits.of [0] kr rfl)
  ·
   rintro sum1 h
   rw [hj2] at h
   show TC _ _ _ _ _ ([]) _ _ [(6, .int .i64 sum1)] [vec enc_Gapi_Cell 52 3 vvl1 Ll1]
   refine TC.seq (TC.region (TO.move rfl dc rfl (TO.assign rfl dc rfl (TO.nil (TX.next (TC.ret ?_))))))
   cases h
   exact TX.fin (rs := [.tmp 4]) () (.inl rfl) Try.results28 (.cons (.tmp rfl) .nil) rfl (Splits.of [0] kr rfl)
def ref30_Room_v (l1 : Gapi_Layout) (indent1 : Int) (first1 : Bool) : Option Int := bcond (!first1) ( grd (I64 (l1.Width - l1.Turn)) <| some (l1.Width - l1.Turn)
) ( grd (I64 (l1.Width - indent1)) <| bcond (decide (((l1.Width - indent1) : Int) < 1)) ( some 1
) ( grd (I64 (l1.Width - indent1)) <| some (l1.Width - indent1)
)
)
set_option maxRecDepth 100000 in
set_option maxHeartbeats 4000000 in
theorem ref30_Room_fn {l1 : Gapi_Layout} {indent1 : Int} {first1 : Bool} {r : Int} (h : ref30_Room_v l1 indent1 first1 = some r) : FnP Try.prog 17 [.agg #[.int .i64 l1.Width, .int .i64 l1.Height, .int .i64 l1.Turn, .int .i64 l1.Every], .int .i64 indent1, .bool first1] (.int .i64 r) := by
 unfold ref30_Room_v at h
 refine FnP.intro Try.func17 rfl Try.ntmps17 (by simp) ?_
 intro w0 K
 refine TC.seq (TC.region ?_)
 refine TO.box rfl dc rfl (fun b1 => ?_)
 refine TO.assign rfl dc rfl (TO.nil (TX.next (TC.seq (TC.seq (TC.region (TO.move rfl dc rfl (TO.un rfl dc rfl un_not (TO.nil (TX.next ?_)))))))))
 refine TC.condB rfl (fun hb1 => ?_) (fun hb1 => ?_)
 ·
  have h := condT hb1 h
  refine TC.seq (TC.region (TO.fieldAddr fl_23_0 rfl dc rfl (show _ = 0 from rfl) (TO.load (k := 0) sc_3 rfl dc rfl rfl rfl (TO.fieldAddr fl_23_2 rfl dc rfl (show _ = 2 from rfl) (TO.load (k := 0) sc_3 rfl dc rfl rfl rfl ?_)))))
  obtain ⟨hg1, h⟩ := grdE h
  refine TO.bin rfl dc rfl rfl (bin_sub (r := l1.Width - l1.Turn) (IntWalk.i64_in _ hg1)) (TO.assign rfl dc rfl (TO.nil (TX.next (TC.ret (TX.thenRet ?_)))))
  cases h
  exact TX.fin (rs := [.tmp 6]) () (.inl rfl) Try.results17 (.cons (.tmp rfl) .nil) rfl Splits.nil
 ·
  have h := condF hb1 h
  refine TC.skip (TX.next (TC.seq (TC.seq (TC.region (TO.fieldAddr fl_23_0 rfl dc rfl (show _ = 0 from rfl) (TO.load (k := 0) sc_3 rfl dc rfl rfl rfl (TO.move rfl dc rfl ?_)))))))
  obtain ⟨hg2, h⟩ := grdE h
  refine TO.bin rfl dc rfl rfl (bin_sub (r := l1.Width - indent1) (IntWalk.i64_in _ hg2)) (TO.bin rfl dc rfl rfl bin_lss (TO.nil (TX.next ?_)))
  refine TC.condB rfl (fun hb2 => ?_) (fun hb2 => ?_)
  ·
   have h := condT hb2 h
   refine TC.seq (TC.region (TO.assign rfl dc rfl (TO.nil (TX.next (TC.ret (TX.thenRet ?_))))))
   cases h
   exact TX.fin (rs := [.tmp 6]) () (.inl rfl) Try.results17 (.cons (.tmp rfl) .nil) rfl Splits.nil
  ·
   have h := condF hb2 h
   refine TC.skip (TX.next (TC.seq (TC.region (TO.fieldAddr fl_23_0 rfl dc rfl (show _ = 0 from rfl) (TO.load (k := 0) sc_3 rfl dc rfl rfl rfl (TO.move rfl dc rfl ?_))))))
   obtain ⟨hg3, h⟩ := grdE h
   refine TO.bin rfl dc rfl rfl (bin_sub (r := l1.Width - indent1) (IntWalk.i64_in _ hg3)) (TO.assign rfl dc rfl (TO.nil (TX.next (TC.ret ?_))))
   cases h
   exact TX.fin (rs := [.tmp 6]) () (.inl rfl) Try.results17 (.cons (.tmp rfl) .nil) rfl Splits.nil
def ref30_Row_s1 (s1 : ByteArray) (l1 : List Gapi_Cell) (j2 : Option Bool) (ag1 : Int → Option Bool) (i3 : Int) : Option Bool := bcond (decide ((i3 : Int) < (l1.length : Int))) ( andThen (getO l1 i3) fun (q2 : Gapi_Cell) => andThen (ref30_Space_v s1 q2) fun (r3 : Bool) => bcond (!r3) ( some false
) ( grd (I64 (i3 + 1)) <| ag1 (i3 + 1)
)
) ( j2
)
def ref30_Row_v (s1 : ByteArray) (l1 : List Gapi_Cell) (room1 : Int) (first1 : Bool) : Option Bool := joinK (fun (j1 : Option Bool) => bcond (((l1.length : Int) : Int) == 0) ( some false
) ( bcond (!first1) ( andThen (getO l1 0) fun (q1 : Gapi_Cell) => andThen (ref30_Space_v s1 q1) fun (r1 : Bool) => bcond (r1) ( some false
) ( j1
)
) ( j1
)
)
) ( andThen (ref30_Columns_v s1 l1) fun (r2 : Int) => bcond (decide ((r2 : Int) ≤ room1)) ( some true
) ( joinK (fun (j2 : Option Bool) => loopG (fun _ => none) (ref30_Row_s1 s1 l1 j2) fuel 1
) ( some true
)
)
)
set_option maxRecDepth 100000 in
set_option maxHeartbeats 4000000 in
theorem ref30_Row_fn {s1 : ByteArray} {vvl1 vl1 : Value} {Ll1 : List Gapi_Cell} {kl1 : Nat} {l1 : List Gapi_Cell} (hwl1 : Vw vvl1 Ll1 3 kl1 vl1 l1) {room1 : Int} {first1 : Bool} {r : Bool} (h : ref30_Row_v s1 l1 room1 first1 = some r) : Fn Try.prog 18 [.string s1, vl1, .int .i64 room1, .bool first1] [vec enc_Gapi_Cell 52 3 vvl1 Ll1] (fun _b : Unit => .bool r) (fun _b => [vec enc_Gapi_Cell 52 3 vvl1 Ll1]) := by
 unfold ref30_Row_v at h
 refine Fn.intro Try.func18 rfl Try.ntmps18 (by simp) ?_
 intro w0 K
 obtain ⟨j1, hj1, h⟩ := joinE h
 refine TC.cutN (β := Unit) 1 rfl (fun b => j1 = some r) (fun b => []) (fun b => [(0, .string s1), (1, vl1), (2, .int .i64 room1)]) (fun b => [vec enc_Gapi_Cell 52 3 vvl1 Ll1]) (fun cut => ?_) ?_
 ·
  refine TC.seq (TC.region (TO.assign rfl dc rfl (TO.nil (TX.next (cut (TC.seq (TC.region (TO.move rfl dc rfl (TO.lenVw hwl1 rfl dc rfl Try.underlying44 (TO.bin rfl dc rfl rfl bin_eql (TO.move rfl dc rfl ?_)))))))))))
  refine TO.split (s := 13) rfl (fun hb1 => ?_) (fun hb1 => ?_)
  ·
   have h := condT hb1 h
   refine TO.skip rfl dc (TO.skip rfl dc (TO.skip rfl dc (TO.skip rfl dc (TO.skip rfl dc (TO.skip rfl dc (TO.skip rfl dc (TO.skip rfl dc (TO.skip rfl dc (TO.pick (b := true) rfl dc rfl rfl (TO.nil (TX.next (TC.condT rfl (TC.seq ?_)))))))))))))
   refine TC.region (TO.assign rfl dc rfl (TO.nil (TX.next (TC.ret (TX.thenRet ?_)))))
   cases h
   exact TX.fin (rs := [.tmp 8]) () (.inl rfl) Try.results18 (.cons (.tmp rfl) .nil) rfl (Splits.of [0] kr rfl)
  ·
   have h := condF hb1 h
   refine TO.move rfl dc rfl (TO.un rfl dc rfl un_not (TO.move rfl dc rfl ?_))
   refine TO.split (s := 16) rfl (fun hb2 => ?_) (fun hb2 => ?_)
   ·
    have h := condT hb2 h
    refine TO.move rfl dc rfl (TO.move rfl dc rfl ?_)
    obtain ⟨q1, hq1, h⟩ := andE h
    refine TO.indexVw hwl1 hq1 Try.underlying44 sz_52 rfl dc rfl rfl rfl (TO.loadsVec (i := kl1 + (0 : Int).toNat) (j := 0) (k := 0) (q := q1) (cs := [.int .i64 q1.Span_From, .int .i64 q1.Span_To, .int .i64 q1.Columns]) rw_52 enc_Gapi_Cell_len rfl dc rfl rfl (Vw.get hwl1 hq1) rfl rfl rfl ?_)
    obtain ⟨r1, hq2, h⟩ := andE h
    refine TO.callP (v := .bool r1) (vs := [.string s1, .agg #[.int .i64 q1.Span_From, .int .i64 q1.Span_To, .int .i64 q1.Columns]]) rfl dc rfl rfl rfl en_27 (ref30_Space_fn (c1 := q1) hq2) (TO.pick (b := true) rfl dc rfl rfl (TO.pick (b := false) rfl dc rfl rfl (TO.nil (TX.next ?_))))
    refine TC.condB rfl (fun hb3 => ?_) (fun hb3 => ?_)
    ·
     have h := condT hb3 h
     refine TC.seq (TC.region (TO.assign rfl dc rfl (TO.nil (TX.next (TC.ret (TX.thenRet ?_))))))
     cases h
     exact TX.fin (rs := [.tmp 8]) () (.inl rfl) Try.results18 (.cons (.tmp rfl) .nil) rfl (Splits.of [0] kr rfl)
    ·
     have h := condF hb3 h
     refine TC.skip ?_
     exact TX.meetD () h rfl (Sbs.cons rfl (Sbs.cons rfl (Sbs.cons rfl (Sbs.nil)))) (Splits.of [0] kr rfl)
   ·
    have h := condF hb2 h
    refine TO.skip rfl dc (TO.skip rfl dc (TO.skip rfl dc (TO.skip rfl dc (TO.skip rfl dc (TO.pick (b := false) rfl dc rfl rfl (TO.pick (b := false) rfl dc rfl rfl (TO.nil (TX.next (TC.condF rfl (TC.skip ?_))))))))))
    exact TX.meetD () h rfl (Sbs.cons rfl (Sbs.cons rfl (Sbs.cons rfl (Sbs.nil)))) (Splits.of [0] kr rfl)
 ·
  rintro _ h
  rw [hj1] at h
  show TC _ _ _ _ _ ([]) _ _ [(0, .string s1), (1, vl1), (2, .int .i64 room1)] [vec enc_Gapi_Cell 52 3 vvl1 Ll1]
  refine TC.seq (TC.seq (TC.region (TO.move rfl dc rfl (TO.move rfl dc rfl ?_))))
  obtain ⟨r2, hq3, h⟩ := andE h
  refine TO.callK (v := .int .i64 r2) (vs := [.string s1, vl1]) rfl dc rfl rfl rfl en_28 (ref30_Columns_fn hwl1 hq3) [0] kr rfl (TO.move rfl dc rfl (TO.bin rfl dc rfl rfl bin_leq (TO.nil (TX.next ?_))))
  refine TC.condB rfl (fun hb4 => ?_) (fun hb4 => ?_)
  ·
   have h := condT hb4 h
   refine TC.seq (TC.region (TO.assign rfl dc rfl (TO.nil (TX.next (TC.ret (TX.thenRet ?_))))))
   cases h
   exact TX.fin (rs := [.tmp 8]) () (.inl rfl) Try.results18 (.cons (.tmp rfl) .nil) rfl (Splits.of [0] kr rfl)
  ·
   have h := condF hb4 h
   refine TC.skip (TX.next ?_)
   obtain ⟨j2, hj2, h⟩ := joinE h
   refine TC.cutN (β := Unit) 0 rfl (fun b => j2 = some r) (fun b => []) (fun b => []) (fun b => [vec enc_Gapi_Cell 52 3 vvl1 Ll1]) (fun cut => ?_) ?_
   ·
    refine cut (TC.seq (TC.region (TO.assign rfl dc rfl (TO.nil (TX.next (TC.block ?_))))))
    refine TC.loopD (β := Nat × Int) (fun b => loopG (fun _ => none) (ref30_Row_s1 s1 l1 j2) b.1 b.2 = some r) (fun b => []) (fun b => [(0, .string s1), (1, vl1), (9, .int .i64 b.2)]) (fun b => [vec enc_Gapi_Cell 52 3 vvl1 Ll1]) (fun b => b.1) (fuel, 1) h rfl (Sbs.cons rfl (Sbs.cons rfl (Sbs.cons rfl (Sbs.nil)))) (Splits.of [0] kr rfl) ?_
    rintro ⟨n1, i3⟩ h
    cases n1 with
    | zero => exact noneE h
    | succ n1 =>
     obtain ⟨ag1, hag1⟩ : ∃ ag, ag = loopG (fun _ => none) (ref30_Row_s1 s1 l1 j2) n1 := ⟨_, rfl⟩
     have h : ref30_Row_s1 s1 l1 j2 ag1 i3 = some r := by rw [hag1]; exact h
     unfold ref30_Row_s1 at h
     show TC _ _ _ _ _ ([]) _ _ [(0, .string s1), (1, vl1), (9, .int .i64 i3)] [vec enc_Gapi_Cell 52 3 vvl1 Ll1]
     refine TC.seq (TC.seq (TC.region (TO.move rfl dc rfl (TO.move rfl dc rfl (TO.lenVw hwl1 rfl dc rfl Try.underlying44 (TO.bin rfl dc rfl rfl bin_lss (TO.nil (TX.next ?_))))))))
     refine TC.condB rfl (fun hb5 => ?_) (fun hb5 => ?_)
     ·
      have h := condT hb5 h
      refine TC.skip (TX.next (TC.seq (TC.block (TC.seq (TC.region (TO.move rfl dc rfl (TO.move rfl dc rfl (TO.move rfl dc rfl ?_))))))))
      obtain ⟨q2, hq4, h⟩ := andE h
      refine TO.indexVw hwl1 hq4 Try.underlying44 sz_52 rfl dc rfl rfl rfl (TO.loadsVec (i := kl1 + (i3 : Int).toNat) (j := 0) (k := 0) (q := q2) (cs := [.int .i64 q2.Span_From, .int .i64 q2.Span_To, .int .i64 q2.Columns]) rw_52 enc_Gapi_Cell_len rfl dc rfl rfl (Vw.get hwl1 hq4) rfl rfl rfl ?_)
      obtain ⟨r3, hq5, h⟩ := andE h
      refine TO.callP (v := .bool r3) (vs := [.string s1, .agg #[.int .i64 q2.Span_From, .int .i64 q2.Span_To, .int .i64 q2.Columns]]) rfl dc rfl rfl rfl en_27 (ref30_Space_fn (c1 := q2) hq5) (TO.un rfl dc rfl un_not (TO.nil (TX.next ?_)))
      refine TC.condB rfl (fun hb6 => ?_) (fun hb6 => ?_)
      ·
       have h := condT hb6 h
       refine TC.seq (TC.region (TO.assign rfl dc rfl (TO.nil (TX.next (TC.ret (TX.blockRet (TX.thenRet (TX.thenRet (TX.blockRet (TX.thenRet ?_))))))))))
       cases h
       exact TX.fin (rs := [.tmp 8]) () (.inl rfl) Try.results18 (.cons (.tmp rfl) .nil) rfl (Splits.of [0] kr rfl)
      ·
       have h := condF hb6 h
       refine TC.skip (TX.blockNormal (TX.next (TC.region (TO.move rfl dc rfl ?_))))
       obtain ⟨hg1, h⟩ := grdE h
       refine TO.bin rfl dc rfl rfl (bin_add (r := i3 + 1) (IntWalk.i64_in _ hg1)) (TO.assign rfl dc rfl (TO.nil ?_))
       subst hag1
       exact TX.againD (n1, i3 + 1) h (Nat.lt_succ_self _) rfl (Sbs.cons rfl (Sbs.cons rfl (Sbs.cons rfl (Sbs.nil)))) (Splits.of [0] kr rfl)
     ·
      have h := condF hb5 h
      refine TC.exit (TX.thenExit (TX.thenExit (TX.blockHere ?_)))
      exact TX.meetD () h rfl (Sbs.nil) (Splits.of [0] kr rfl)
   ·
    rintro _ h
    rw [hj2] at h
    show TC _ _ _ _ _ ([]) _ _ [] [vec enc_Gapi_Cell 52 3 vvl1 Ll1]
    refine TC.seq (TC.region (TO.assign rfl dc rfl (TO.nil (TX.next (TC.ret ?_)))))
    cases h
    exact TX.fin (rs := [.tmp 8]) () (.inl rfl) Try.results18 (.cons (.tmp rfl) .nil) rfl (Splits.of [0] kr rfl)
def ref30_RowCost_v (s1 : ByteArray) (l1 : List Gapi_Cell) (room1 : Int) : Option Int := joinK (fun (j1 : Int → Option Int) => andThen (ref30_Columns_v s1 l1) fun (r1 : Int) => grd (I64 (room1 - r1)) <| bcond (decide ((0 : Int) < (room1 - r1))) ( grd (I64 ((room1 - r1) * (room1 - r1))) <| j1 ((room1 - r1) * (room1 - r1))
) ( j1 0
)
) (fun (n1 : Int) => joinK (fun (j2 : Int → Option Int) => grd (I64 ((l1.length : Int) - 1)) <| andThen (getO l1 ((l1.length : Int) - 1)) fun (q1 : Gapi_Cell) => andThen (ref30_Space_v s1 q1) fun (r2 : Bool) => bcond (!r2) ( grd (I64 (n1 + 1000)) <| j2 (n1 + 1000)
) ( j2 n1
)
) (fun (n2 : Int) => some n2
)
)
set_option maxRecDepth 100000 in
set_option maxHeartbeats 4000000 in
theorem ref30_RowCost_fn {s1 : ByteArray} {vvl1 vl1 : Value} {Ll1 : List Gapi_Cell} {kl1 : Nat} {l1 : List Gapi_Cell} (hwl1 : Vw vvl1 Ll1 3 kl1 vl1 l1) {room1 : Int} {r : Int} (h : ref30_RowCost_v s1 l1 room1 = some r) : Fn Try.prog 19 [.string s1, vl1, .int .i64 room1] [vec enc_Gapi_Cell 52 3 vvl1 Ll1] (fun _b : Unit => .int .i64 r) (fun _b => [vec enc_Gapi_Cell 52 3 vvl1 Ll1]) := by
 unfold ref30_RowCost_v at h
 refine Fn.intro Try.func19 rfl Try.ntmps19 (by simp) ?_
 intro w0 K
 obtain ⟨j1, hj1, h⟩ := joinE h
 refine TC.cutN (β := Int) 3 rfl (fun b => j1 b = some r) (fun b => []) (fun b => [(0, .string s1), (1, vl1), (7, .int .i64 b)]) (fun b => [vec enc_Gapi_Cell 52 3 vvl1 Ll1]) (fun cut => ?_) ?_
 ·
  refine TC.seq (TC.region (TO.assign rfl dc rfl (TO.nil (TX.next (TC.seq (TC.region (TO.assign rfl dc rfl (TO.nil (TX.next (TC.seq (TC.region (TO.move rfl dc rfl (TO.move rfl dc rfl ?_)))))))))))))
  refine TO.move rfl dc rfl ?_
  obtain ⟨r1, hq1, h⟩ := andE h
  refine TO.callK (v := .int .i64 r1) (vs := [.string s1, vl1]) rfl dc rfl rfl rfl en_28 (ref30_Columns_fn hwl1 hq1) [0] kr rfl ?_
  obtain ⟨hg1, h⟩ := grdE h
  refine TO.bin rfl dc rfl rfl (bin_sub (r := room1 - r1) (IntWalk.i64_in _ hg1)) (TO.assign rfl dc rfl (TO.nil (TX.next (cut (TC.seq (TC.region (TO.move rfl dc rfl (TO.bin rfl dc rfl rfl bin_gtr (TO.nil (TX.next ?_))))))))))
  refine TC.condB rfl (fun hb1 => ?_) (fun hb1 => ?_)
  ·
   have h := condT hb1 h
   refine TC.region (TO.move rfl dc rfl (TO.move rfl dc rfl ?_))
   obtain ⟨hg2, h⟩ := grdE h
   refine TO.bin rfl dc rfl rfl (bin_mul (r := (room1 - r1) * (room1 - r1)) (IntWalk.i64_in _ hg2)) (TO.assign rfl dc rfl (TO.nil ?_))
   exact TX.meetD ((room1 - r1) * (room1 - r1)) h rfl (Sbs.cons rfl (Sbs.cons rfl (Sbs.cons rfl (Sbs.nil)))) (Splits.of [0] kr rfl)
  ·
   have h := condF hb1 h
   refine TC.skip ?_
   exact TX.meetD 0 h rfl (Sbs.cons rfl (Sbs.cons rfl (Sbs.cons rfl (Sbs.nil)))) (Splits.of [0] kr rfl)
 ·
  rintro n1 h
  rw [hj1] at h
  show TC _ _ _ _ _ ([]) _ _ [(0, .string s1), (1, vl1), (7, .int .i64 n1)] [vec enc_Gapi_Cell 52 3 vvl1 Ll1]
  obtain ⟨j2, hj2, h⟩ := joinE h
  refine TC.cutN (β := Int) 0 rfl (fun b => j2 b = some r) (fun b => []) (fun b => [(7, .int .i64 b)]) (fun b => [vec enc_Gapi_Cell 52 3 vvl1 Ll1]) (fun cut => ?_) ?_
  ·
   refine cut (TC.seq (TC.region (TO.move rfl dc rfl (TO.move rfl dc rfl (TO.move rfl dc rfl (TO.lenVw hwl1 rfl dc rfl Try.underlying44 ?_))))))
   obtain ⟨hg3, h⟩ := grdE h
   refine TO.bin rfl dc rfl rfl (bin_sub (r := (l1.length : Int) - 1) (IntWalk.i64_in _ hg3)) ?_
   obtain ⟨q1, hq2, h⟩ := andE h
   refine TO.indexVw hwl1 hq2 Try.underlying44 sz_52 rfl dc rfl rfl rfl (TO.loadsVec (i := kl1 + ((l1.length : Int) - 1 : Int).toNat) (j := 0) (k := 0) (q := q1) (cs := [.int .i64 q1.Span_From, .int .i64 q1.Span_To, .int .i64 q1.Columns]) rw_52 enc_Gapi_Cell_len rfl dc rfl rfl (Vw.get hwl1 hq2) rfl rfl rfl ?_)
   obtain ⟨r2, hq3, h⟩ := andE h
   refine TO.callP (v := .bool r2) (vs := [.string s1, .agg #[.int .i64 q1.Span_From, .int .i64 q1.Span_To, .int .i64 q1.Columns]]) rfl dc rfl rfl rfl en_27 (ref30_Space_fn (c1 := q1) hq3) (TO.un rfl dc rfl un_not (TO.nil (TX.next ?_)))
   refine TC.condB rfl (fun hb2 => ?_) (fun hb2 => ?_)
   ·
    have h := condT hb2 h
    refine TC.region (TO.move rfl dc rfl ?_)
    obtain ⟨hg4, h⟩ := grdE h
    refine TO.bin rfl dc rfl rfl (bin_add (r := n1 + 1000) (IntWalk.i64_in _ hg4)) (TO.assign rfl dc rfl (TO.nil ?_))
    exact TX.meetD (n1 + 1000) h rfl (Sbs.cons rfl (Sbs.nil)) (Splits.of [0] kr rfl)
   ·
    have h := condF hb2 h
    refine TC.skip ?_
    exact TX.meetD n1 h rfl (Sbs.cons rfl (Sbs.nil)) (Splits.of [0] kr rfl)
  ·
   rintro n2 h
   rw [hj2] at h
   show TC _ _ _ _ _ ([]) _ _ [(7, .int .i64 n2)] [vec enc_Gapi_Cell 52 3 vvl1 Ll1]
   refine TC.seq (TC.region (TO.move rfl dc rfl (TO.assign rfl dc rfl (TO.nil (TX.next (TC.ret ?_))))))
   cases h
   exact TX.fin (rs := [.tmp 6]) () (.inl rfl) Try.results19 (.cons (.tmp rfl) .nil) rfl (Splits.of [0] kr rfl)
def ref30_Turn_s2 (s1 : ByteArray) (r1 : (List Gapi_Cell)) (from3 : Int) (j2 : (List Int) → (List Int) → (List Int) → Option ((List ByteArray) × Int)) (r2 : Int) (ag2 : (List Int) → (List Int) → (List Int) → Int → Option ((List ByteArray) × Int)) (cost8 : List Int) (rows7 : List Int) (next8 : List Int) (to3 : Int) : Option ((List ByteArray) × Int) := bcond (decide ((from3 : Int) < to3)) ( joinK (fun (j3 : (List Int) → (List Int) → (List Int) → Option ((List ByteArray) × Int)) => grd (0 ≤ (from3 : Int) ∧ (from3 : Int) ≤ to3 ∧ (to3 : Int) ≤ (r1.length : Int)) <| andThen (ref30_Row_v s1 (cutL r1 from3 to3) r2 ((from3 : Int) == 0)) fun (r3 : Bool) => bcond (!r3) ( j3 cost8 rows7 next8
) ( andThen (getO rows7 to3) fun (q2 : Int) => bcond (decide ((q2 : Int) < 0)) ( j3 cost8 rows7 next8
) ( joinK (fun (j4 : Int → Option ((List ByteArray) × Int)) => andThen (getO cost8 to3) fun (q3 : Int) => bcond (decide ((to3 : Int) < (r1.length : Int))) ( grd (0 ≤ (from3 : Int) ∧ (from3 : Int) ≤ to3 ∧ (to3 : Int) ≤ (r1.length : Int)) <| andThen (ref30_RowCost_v s1 (cutL r1 from3 to3) r2) fun (r4 : Int) => grd (I64 (q3 + r4)) <| j4 (q3 + r4)
) ( j4 q3
)
) (fun (c1 : Int) => andThen (getO rows7 from3) fun (q4 : Int) => bcond (decide ((q4 : Int) < 0)) ( andThen (getO rows7 to3) fun (q5 : Int) => grd (I64 (q5 + 1)) <| andThen (getO cost8 from3) fun (q6 : Int) => andThen (getO rows7 from3) fun (q7 : Int) => andThen (getO next8 from3) fun (q8 : Int) => j3 (cost8.set (from3 : Int).toNat c1) (rows7.set (from3 : Int).toNat (q5 + 1)) (next8.set (from3 : Int).toNat to3)
) ( andThen (getO cost8 from3) fun (q9 : Int) => bcond (decide ((c1 : Int) < q9)) ( andThen (getO rows7 to3) fun (q10 : Int) => grd (I64 (q10 + 1)) <| andThen (getO cost8 from3) fun (q11 : Int) => andThen (getO rows7 from3) fun (q12 : Int) => andThen (getO next8 from3) fun (q13 : Int) => j3 (cost8.set (from3 : Int).toNat c1) (rows7.set (from3 : Int).toNat (q10 + 1)) (next8.set (from3 : Int).toNat to3)
) ( bcond ((c1 : Int) == q9) ( andThen (getO rows7 to3) fun (q14 : Int) => grd (I64 (q14 + 1)) <| bcond (decide (((q14 + 1) : Int) < q4)) ( andThen (getO rows7 to3) fun (q15 : Int) => grd (I64 (q15 + 1)) <| andThen (getO cost8 from3) fun (q16 : Int) => andThen (getO rows7 from3) fun (q17 : Int) => andThen (getO next8 from3) fun (q18 : Int) => j3 (cost8.set (from3 : Int).toNat c1) (rows7.set (from3 : Int).toNat (q15 + 1)) (next8.set (from3 : Int).toNat to3)
) ( j3 cost8 rows7 next8
)
) ( j3 cost8 rows7 next8
)
)
)
)
)
)
) (fun (cost9 : List Int) (rows8 : List Int) (next9 : List Int) => grd (I64 (to3 - 1)) <| ag2 cost9 rows8 next9 (to3 - 1)
)
) ( j2 cost8 rows7 next8
)
def ref30_Turn_s1 (s1 : ByteArray) (indent1 : Int) (l1 : Gapi_Layout) (j1 : (List Gapi_Cell) → Int → (List Int) → (List Int) → Option ((List ByteArray) × Int)) (r1 : (List Gapi_Cell)) (ag1 : (List Int) → (List Int) → (List Int) → Int → Option ((List ByteArray) × Int)) (cost4 : List Int) (rows3 : List Int) (next4 : List Int) (from3 : Int) : Option ((List ByteArray) × Int) := bcond (decide ((0 : Int) ≤ from3)) ( joinK (fun (j2 : (List Int) → (List Int) → (List Int) → Option ((List ByteArray) × Int)) => andThen (getO rows3 from3) fun (q1 : Int) => andThen (ref30_Room_v l1 indent1 ((from3 : Int) == 0)) fun (r2 : Int) => loopG (fun _ _ _ _ => none) (ref30_Turn_s2 s1 r1 from3 j2 r2) fuel cost4 (rows3.set (from3 : Int).toNat (-1)) next4 (r1.length : Int)
) (fun (cost5 : List Int) (rows4 : List Int) (next5 : List Int) => grd (I64 (from3 - 1)) <| ag1 cost5 rows4 next5 (from3 - 1)
)
) ( j1 r1 (r1.length : Int) cost4 next4
)
def ref30_Turn_s3 (s1 : ByteArray) (cells1 : List Gapi_Cell) (n1 : Int) (next1 : List Int) (j5 : (List ByteArray) → Option ((List ByteArray) × Int)) (ag3 : (List ByteArray) → Int → Option ((List ByteArray) × Int)) (out4 : List ByteArray) (from6 : Int) : Option ((List ByteArray) × Int) := bcond (decide ((from6 : Int) < n1)) ( andThen (getO next1 from6) fun (q19 : Int) => andThen (getO cells1 from6) fun (q20 : Gapi_Cell) => grd (I64 (q19 - 1)) <| andThen (getO cells1 (q19 - 1)) fun (q21 : Gapi_Cell) => grd (0 ≤ (q20.Span_From : Int) ∧ (q20.Span_From : Int) ≤ q21.Span_To ∧ (q21.Span_To : Int) ≤ (s1.size : Int)) <| grd (out4.length + 1 ≤ 2147483648) <| ag3 (out4 ++ [cutB s1 q20.Span_From q21.Span_To]) q19
) ( j5 out4
)
def ref30_Turn_v (s1 : ByteArray) (indent1 : Int) (l1 : Gapi_Layout) : Option ((List ByteArray) × Int) := joinK (fun (j1 : (List Gapi_Cell) → Int → (List Int) → (List Int) → Option ((List ByteArray) × Int)) => andThen (ref05_Cells_v s1) fun (r1 : (List Gapi_Cell)) => grd (I64 ((r1.length : Int) + 1)) <| grd (0 ≤ ((r1.length : Int) + 1) ∧ ((r1.length : Int) + 1) ≤ 2147483648) <| grd (I64 ((r1.length : Int) + 1)) <| grd (0 ≤ ((r1.length : Int) + 1) ∧ ((r1.length : Int) + 1) ≤ 2147483648) <| grd (I64 ((r1.length : Int) + 1)) <| grd (0 ≤ ((r1.length : Int) + 1) ∧ ((r1.length : Int) + 1) ≤ 2147483648) <| grd (I64 ((r1.length : Int) - 1)) <| loopG (fun _ _ _ _ => none) (ref30_Turn_s1 s1 indent1 l1 j1 r1) fuel (List.replicate ((r1.length : Int) + 1 : Int).toNat 0) (List.replicate ((r1.length : Int) + 1 : Int).toNat 0) (List.replicate ((r1.length : Int) + 1 : Int).toNat 0) ((r1.length : Int) - 1)
) (fun (cells1 : List Gapi_Cell) (n1 : Int) (cost1 : List Int) (next1 : List Int) => joinK (fun (j5 : (List ByteArray) → Option ((List ByteArray) × Int)) => loopG (fun _ _ => none) (ref30_Turn_s3 s1 cells1 n1 next1 j5) fuel ([] : List ByteArray) 0
) (fun (out1 : List ByteArray) => andThen (getO cost1 0) fun (q22 : Int) => some (out1, q22)
)
)
set_option maxRecDepth 100000 in
set_option maxHeartbeats 4000000 in
theorem ref30_Turn_fn {s1 : ByteArray} {indent1 : Int} {l1 : Gapi_Layout} {r : ((List ByteArray) × Int)} (h : ref30_Turn_v s1 indent1 l1 = some r) : Fn Try.prog 9 [.string s1, .int .i64 indent1, .agg #[.int .i64 l1.Width, .int .i64 l1.Height, .int .i64 l1.Turn, .int .i64 l1.Every]] [] (fun v0 : Value => .tuple #[v0, .int .i64 r.2]) (fun v0 => [vec encS 9 1 v0 r.1]) := by
 unfold ref30_Turn_v at h
 refine Fn.intro Try.func9 rfl Try.ntmps9 (by simp) ?_
 intro w0 K
 obtain ⟨j1, hj1, h⟩ := joinE h
 refine TC.cutN (β := (List Gapi_Cell) × Int × (List Int) × (List Int) × Value × Value × Value) 6 rfl (fun b => j1 b.1 b.2.1 b.2.2.1 b.2.2.2.1 = some r) (fun b => []) (fun b => [(0, .string s1), (8, b.2.2.2.2.1), (9, .int .i64 b.2.1), (10, b.2.2.2.2.2.1), (12, b.2.2.2.2.2.2)]) (fun b => [vec enc_Gapi_Cell 52 3 b.2.2.2.2.1 b.1, vec (encI (.i64)) 3 1 b.2.2.2.2.2.1 b.2.2.1, vec (encI (.i64)) 3 1 b.2.2.2.2.2.2 b.2.2.2.1]) (fun cut => ?_) ?_
 ·
  refine TC.seq (TC.region ?_)
  refine TO.box rfl dc rfl (fun b1 => ?_)
  refine TO.assign rfl dc rfl (TO.assign rfl dc rfl (TO.nil (TX.next (TC.seq (TC.region (TO.move rfl dc rfl ?_))))))
  obtain ⟨r1, hq1, h⟩ := andE h
  refine TO.call (vs := [.string s1]) rfl dc rfl rfl rfl en_16 (ref05_Cells_fn hq1) Splits.nil ?_
  rintro v4
  show TO _ _ _ _ _ _ _ _ _ _ [cells b1 [.int .i64 l1.Width, .int .i64 l1.Height, .int .i64 l1.Turn, .int .i64 l1.Every] 23, vec enc_Gapi_Cell 52 3 v4 r1]
  refine TO.assign rfl dc rfl (TO.nil (TX.next (TC.seq (TC.region (TO.move rfl dc rfl (TO.lenVec (k := 1) rfl dc rfl rfl Try.underlying44 (TO.assign rfl dc rfl (TO.nil (TX.next (TC.seq (TC.region (TO.move rfl dc rfl ?_))))))))))))
  obtain ⟨hg1, h⟩ := grdE h
  refine TO.bin rfl dc rfl rfl (bin_add (r := (r1.length : Int) + 1) (IntWalk.i64_in _ hg1)) ?_
  obtain ⟨hg2, h⟩ := grdE h
  refine TO.makeVec (z := 0) Try.underlying39 el_3 zr_3 encI_len rfl dc rfl hg2 (fun v5 => ?_)
  refine TO.assign rfl dc rfl (TO.nil (TX.next (TC.seq (TC.region (TO.move rfl dc rfl ?_)))))
  obtain ⟨hg3, h⟩ := grdE h
  refine TO.bin rfl dc rfl rfl (bin_add (r := (r1.length : Int) + 1) (IntWalk.i64_in _ hg3)) ?_
  obtain ⟨hg4, h⟩ := grdE h
  refine TO.makeVec (z := 0) Try.underlying39 el_3 zr_3 encI_len rfl dc rfl hg4 (fun v6 => ?_)
  show TO _ _ _ _ _ _ _ _ _ _ [cells b1 [.int .i64 l1.Width, .int .i64 l1.Height, .int .i64 l1.Turn, .int .i64 l1.Every] 23, vec enc_Gapi_Cell 52 3 v4 r1, vec (encI (.i64)) 3 1 v5 (List.replicate ((r1.length : Int) + 1 : Int).toNat 0), vec (encI (.i64)) 3 1 v6 (List.replicate ((r1.length : Int) + 1 : Int).toNat 0)]
  refine TO.assign rfl dc rfl (TO.nil (TX.next (TC.seq (TC.region (TO.move rfl dc rfl ?_)))))
  obtain ⟨hg5, h⟩ := grdE h
  refine TO.bin rfl dc rfl rfl (bin_add (r := (r1.length : Int) + 1) (IntWalk.i64_in _ hg5)) ?_
  obtain ⟨hg6, h⟩ := grdE h
  refine TO.makeVec (z := 0) Try.underlying39 el_3 zr_3 encI_len rfl dc rfl hg6 (fun v7 => ?_)
  refine TO.assign rfl dc rfl (TO.nil (TX.next (cut (TC.seq (TC.region (TO.move rfl dc rfl ?_))))))
  obtain ⟨hg7, h⟩ := grdE h
  refine TO.bin rfl dc rfl rfl (bin_sub (r := (r1.length : Int) - 1) (IntWalk.i64_in _ hg7)) (TO.assign rfl dc rfl (TO.nil (TX.next (TC.block ?_))))
  refine TC.loopD (β := Nat × (List Int) × (List Int) × (List Int) × Int) (fun b => loopG (fun _ _ _ _ => none) (ref30_Turn_s1 s1 indent1 l1 j1 r1) b.1 b.2.1 b.2.2.1 b.2.2.2.1 b.2.2.2.2 = some r) (fun b => []) (fun b => [(0, .string s1), (1, .int .i64 indent1), (5, .pointer (some ⟨b1, 0, none⟩)), (8, v4), (9, .int .i64 (r1.length : Int)), (10, v5), (11, v6), (12, v7), (13, .int .i64 b.2.2.2.2)]) (fun b => [cells b1 [.int .i64 l1.Width, .int .i64 l1.Height, .int .i64 l1.Turn, .int .i64 l1.Every] 23, vec enc_Gapi_Cell 52 3 v4 r1, vec (encI (.i64)) 3 1 v5 b.2.1, vec (encI (.i64)) 3 1 v6 b.2.2.1, vec (encI (.i64)) 3 1 v7 b.2.2.2.1]) (fun b => b.1) (fuel, List.replicate ((r1.length : Int) + 1 : Int).toNat 0, List.replicate ((r1.length : Int) + 1 : Int).toNat 0, List.replicate ((r1.length : Int) + 1 : Int).toNat 0, (r1.length : Int) - 1) h rfl (Sbs.cons rfl (Sbs.cons rfl (Sbs.cons rfl (Sbs.cons rfl (Sbs.cons rfl (Sbs.cons rfl (Sbs.cons rfl (Sbs.cons rfl (Sbs.cons rfl (Sbs.nil)))))))))) (Splits.of [0, 1, 2, 3, 4] kr rfl) ?_
  rintro ⟨n2, cost4, rows3, next4, from3⟩ h
  cases n2 with
  | zero => exact noneE h
  | succ n2 =>
   obtain ⟨ag1, hag1⟩ : ∃ ag, ag = loopG (fun _ _ _ _ => none) (ref30_Turn_s1 s1 indent1 l1 j1 r1) n2 := ⟨_, rfl⟩
   have h : ref30_Turn_s1 s1 indent1 l1 j1 r1 ag1 cost4 rows3 next4 from3 = some r := by rw [hag1]; exact h
   unfold ref30_Turn_s1 at h
   show TC _ _ _ _ _ ([]) _ _ [(0, .string s1), (1, .int .i64 indent1), (5, .pointer (some ⟨b1, 0, none⟩)), (8, v4), (9, .int .i64 (r1.length : Int)), (10, v5), (11, v6), (12, v7), (13, .int .i64 from3)] [cells b1 [.int .i64 l1.Width, .int .i64 l1.Height, .int .i64 l1.Turn, .int .i64 l1.Every] 23, vec enc_Gapi_Cell 52 3 v4 r1, vec (encI (.i64)) 3 1 v5 cost4, vec (encI (.i64)) 3 1 v6 rows3, vec (encI (.i64)) 3 1 v7 next4]
   refine TC.seq (TC.seq (TC.region (TO.move rfl dc rfl (TO.bin rfl dc rfl rfl bin_geq (TO.nil (TX.next ?_))))))
   refine TC.condB rfl (fun hb1 => ?_) (fun hb1 => ?_)
   ·
    have h := condT hb1 h
    refine TC.skip (TX.next ?_)
    obtain ⟨j2, hj2, h⟩ := joinE h
    refine TC.cutN (β := (List Int) × (List Int) × (List Int)) 0 rfl (fun b => j2 b.1 b.2.1 b.2.2 = some r) (fun b => []) (fun b => [(0, .string s1), (1, .int .i64 indent1), (5, .pointer (some ⟨b1, 0, none⟩)), (8, v4), (9, .int .i64 (r1.length : Int)), (10, v5), (11, v6), (12, v7), (13, .int .i64 from3)]) (fun b => [cells b1 [.int .i64 l1.Width, .int .i64 l1.Height, .int .i64 l1.Turn, .int .i64 l1.Every] 23, vec enc_Gapi_Cell 52 3 v4 r1, vec (encI (.i64)) 3 1 v5 b.1, vec (encI (.i64)) 3 1 v6 b.2.1, vec (encI (.i64)) 3 1 v7 b.2.2]) (fun cut => ?_) ?_
    ·
     refine cut (TC.block (TC.seq (TC.region (TO.move rfl dc rfl (TO.move rfl dc rfl ?_)))))
     obtain ⟨q1, hq2, h⟩ := andE h
     refine TO.indexVecI (k := 3) hq2 Try.underlying39 sz_3 rfl dc rfl rfl rfl rfl ?_
     refine TO.storeVec (i := (from3 : Int).toNat) (j := 0) (k := 3) (q := q1) (q' := (-1)) sz_3 encI_len rfl rfl rfl rfl (getO_get hq2) rfl dc rfl (fun _ _ => rfl) ?_
     refine TO.nil (TX.next (TC.seq (TC.region (TO.loads (k := 0) (cs := [.int .i64 l1.Width, .int .i64 l1.Height, .int .i64 l1.Turn, .int .i64 l1.Every]) rw_23 rfl dc rfl rfl rfl rfl (TO.move rfl dc rfl (TO.move rfl dc rfl (TO.bin rfl dc rfl rfl bin_eql ?_)))))))
     obtain ⟨r2, hq3, h⟩ := andE h
     refine TO.callP (v := .int .i64 r2) (vs := [.agg #[.int .i64 l1.Width, .int .i64 l1.Height, .int .i64 l1.Turn, .int .i64 l1.Every], .int .i64 indent1, .bool ((from3 : Int) == 0)]) rfl dc rfl rfl rfl en_17 (ref30_Room_fn (l1 := l1) hq3) (TO.assign rfl dc rfl (TO.nil (TX.next (TC.seq (TC.region (TO.move rfl dc rfl (TO.assign rfl dc rfl (TO.nil (TX.next (TC.block ?_))))))))))
     refine TC.loopD (β := Nat × (List Int) × (List Int) × (List Int) × Int) (fun b => loopG (fun _ _ _ _ => none) (ref30_Turn_s2 s1 r1 from3 j2 r2) b.1 b.2.1 b.2.2.1 b.2.2.2.1 b.2.2.2.2 = some r) (fun b => []) (fun b => [(0, .string s1), (1, .int .i64 indent1), (5, .pointer (some ⟨b1, 0, none⟩)), (8, v4), (9, .int .i64 (r1.length : Int)), (10, v5), (11, v6), (12, v7), (13, .int .i64 from3), (14, .int .i64 r2), (15, .int .i64 b.2.2.2.2)]) (fun b => [cells b1 [.int .i64 l1.Width, .int .i64 l1.Height, .int .i64 l1.Turn, .int .i64 l1.Every] 23, vec enc_Gapi_Cell 52 3 v4 r1, vec (encI (.i64)) 3 1 v5 b.2.1, vec (encI (.i64)) 3 1 v6 b.2.2.1, vec (encI (.i64)) 3 1 v7 b.2.2.2.1]) (fun b => b.1) (fuel, cost4, rows3.set (from3 : Int).toNat (-1), next4, (r1.length : Int)) h rfl (Sbs.cons rfl (Sbs.cons rfl (Sbs.cons rfl (Sbs.cons rfl (Sbs.cons rfl (Sbs.cons rfl (Sbs.cons rfl (Sbs.cons rfl (Sbs.cons rfl (Sbs.cons rfl (Sbs.cons rfl (Sbs.nil)))))))))))) (Splits.of [0, 1, 2, 3, 4] kr rfl) ?_
     rintro ⟨n3, cost8, rows7, next8, to3⟩ h
     cases n3 with
     | zero => exact noneE h
     | succ n3 =>
      obtain ⟨ag2, hag2⟩ : ∃ ag, ag = loopG (fun _ _ _ _ => none) (ref30_Turn_s2 s1 r1 from3 j2 r2) n3 := ⟨_, rfl⟩
      have h : ref30_Turn_s2 s1 r1 from3 j2 r2 ag2 cost8 rows7 next8 to3 = some r := by rw [hag2]; exact h
      unfold ref30_Turn_s2 at h
      show TC _ _ _ _ _ ([]) _ _ [(0, .string s1), (1, .int .i64 indent1), (5, .pointer (some ⟨b1, 0, none⟩)), (8, v4), (9, .int .i64 (r1.length : Int)), (10, v5), (11, v6), (12, v7), (13, .int .i64 from3), (14, .int .i64 r2), (15, .int .i64 to3)] [cells b1 [.int .i64 l1.Width, .int .i64 l1.Height, .int .i64 l1.Turn, .int .i64 l1.Every] 23, vec enc_Gapi_Cell 52 3 v4 r1, vec (encI (.i64)) 3 1 v5 cost8, vec (encI (.i64)) 3 1 v6 rows7, vec (encI (.i64)) 3 1 v7 next8]
      refine TC.seq (TC.seq (TC.region (TO.move rfl dc rfl (TO.move rfl dc rfl (TO.bin rfl dc rfl rfl bin_gtr (TO.nil (TX.next ?_)))))))
      refine TC.condB rfl (fun hb2 => ?_) (fun hb2 => ?_)
      ·
       have h := condT hb2 h
       refine TC.skip (TX.next ?_)
       obtain ⟨j3, hj3, h⟩ := joinE h
       refine TC.cutN (β := (List Int) × (List Int) × (List Int)) 0 rfl (fun b => j3 b.1 b.2.1 b.2.2 = some r) (fun b => []) (fun b => [(0, .string s1), (1, .int .i64 indent1), (5, .pointer (some ⟨b1, 0, none⟩)), (8, v4), (9, .int .i64 (r1.length : Int)), (10, v5), (11, v6), (12, v7), (13, .int .i64 from3), (14, .int .i64 r2), (15, .int .i64 to3)]) (fun b => [cells b1 [.int .i64 l1.Width, .int .i64 l1.Height, .int .i64 l1.Turn, .int .i64 l1.Every] 23, vec enc_Gapi_Cell 52 3 v4 r1, vec (encI (.i64)) 3 1 v5 b.1, vec (encI (.i64)) 3 1 v6 b.2.1, vec (encI (.i64)) 3 1 v7 b.2.2]) (fun cut => ?_) ?_
       ·
        refine cut (TC.block (TC.seq (TC.region (TO.move rfl dc rfl (TO.move rfl dc rfl (TO.move rfl dc rfl (TO.move rfl dc rfl ?_)))))))
        refine TO.vecVw (k := 1) rfl (fun hw1 => ?_)
        obtain ⟨hg8, h⟩ := grdE h
        obtain ⟨v8, hv1, hs1⟩ := slice_Vw (lo := some (.int .i64 from3)) (hi := some (.int .i64 to3)) hw1 Try.underlying44 sz_52 (.inr rfl) (.inr rfl) hg8
        refine TO.slice rfl dc rfl rfl rfl hs1 (TO.move rfl dc rfl (TO.move rfl dc rfl (TO.bin rfl dc rfl rfl bin_eql ?_)))
        obtain ⟨r3, hq4, h⟩ := andE h
        refine TO.callK (v := .bool r3) (vs := [.string s1, v8, .int .i64 r2, .bool ((from3 : Int) == 0)]) rfl dc rfl rfl rfl en_18 (ref30_Row_fn hv1 hq4) [1] kr rfl (TO.assign rfl dc rfl (TO.nil (TX.next (TC.seq (TC.seq (TC.region (TO.move rfl dc rfl (TO.un rfl dc rfl un_not (TO.move rfl dc rfl ?_)))))))))
        refine TO.split (s := 65) rfl (fun hb3 => ?_) (fun hb3 => ?_)
        ·
         have h := condT hb3 h
         refine TO.skip rfl dc (TO.skip rfl dc (TO.skip rfl dc (TO.skip rfl dc (TO.skip rfl dc (TO.pick (b := true) rfl dc rfl rfl (TO.nil (TX.next (TC.condT rfl (TC.exit (TX.thenExit (TX.blockHere ?_)))))))))))
         exact TX.meetD (cost8, rows7, next8) h rfl (Sbs.cons rfl (Sbs.cons rfl (Sbs.cons rfl (Sbs.cons rfl (Sbs.cons rfl (Sbs.cons rfl (Sbs.cons rfl (Sbs.cons rfl (Sbs.cons rfl (Sbs.cons rfl (Sbs.cons rfl (Sbs.nil)))))))))))) (Splits.of [0, 1, 2, 3, 4] kr rfl)
        ·
         have h := condF hb3 h
         refine TO.move rfl dc rfl (TO.move rfl dc rfl ?_)
         obtain ⟨q2, hq5, h⟩ := andE h
         refine TO.indexVecI (k := 3) hq5 Try.underlying39 sz_3 rfl dc rfl rfl rfl rfl (TO.loadVec (i := (to3 : Int).toNat) (j := 0) (k := 3) (q := q2) sc_3 encI_len rfl dc rfl rfl (getO_get hq5) rfl dc rfl (TO.bin rfl dc rfl rfl bin_lss (TO.pick (b := false) rfl dc rfl rfl (TO.nil (TX.next ?_)))))
         refine TC.condB rfl (fun hb4 => ?_) (fun hb4 => ?_)
         ·
          have h := condT hb4 h
          refine TC.exit (TX.thenExit (TX.blockHere ?_))
          exact TX.meetD (cost8, rows7, next8) h rfl (Sbs.cons rfl (Sbs.cons rfl (Sbs.cons rfl (Sbs.cons rfl (Sbs.cons rfl (Sbs.cons rfl (Sbs.cons rfl (Sbs.cons rfl (Sbs.cons rfl (Sbs.cons rfl (Sbs.cons rfl (Sbs.nil)))))))))))) (Splits.of [0, 1, 2, 3, 4] kr rfl)
         ·
          have h := condF hb4 h
          refine TC.skip (TX.next ?_)
          obtain ⟨j4, hj4, h⟩ := joinE h
          refine TC.cutN (β := Int) 1 rfl (fun b => j4 b = some r) (fun b => []) (fun b => [(0, .string s1), (1, .int .i64 indent1), (5, .pointer (some ⟨b1, 0, none⟩)), (8, v4), (9, .int .i64 (r1.length : Int)), (10, v5), (11, v6), (12, v7), (13, .int .i64 from3), (14, .int .i64 r2), (15, .int .i64 to3), (17, .int .i64 b), (66, v6), (67, .int .i64 to3), (68, .pointer (some ⟨vblk v6, (to3 : Int).toNat * 1, none⟩)), (69, .int .i64 q2), (70, .bool (decide ((q2 : Int) < 0)))]) (fun b => [cells b1 [.int .i64 l1.Width, .int .i64 l1.Height, .int .i64 l1.Turn, .int .i64 l1.Every] 23, vec enc_Gapi_Cell 52 3 v4 r1, vec (encI (.i64)) 3 1 v5 cost8, vec (encI (.i64)) 3 1 v6 rows7, vec (encI (.i64)) 3 1 v7 next8]) (fun cut => ?_) ?_
          ·
           refine TC.seq (TC.region (TO.move rfl dc rfl (TO.move rfl dc rfl ?_)))
           obtain ⟨q3, hq6, h⟩ := andE h
           refine TO.indexVecI (k := 2) hq6 Try.underlying39 sz_3 rfl dc rfl rfl rfl rfl (TO.loadVec (i := (to3 : Int).toNat) (j := 0) (k := 2) (q := q3) sc_3 encI_len rfl dc rfl rfl (getO_get hq6) rfl dc rfl (TO.assign rfl dc rfl (TO.nil (TX.next (cut (TC.seq (TC.region (TO.move rfl dc rfl (TO.move rfl dc rfl (TO.bin rfl dc rfl rfl bin_lss (TO.nil (TX.next ?_))))))))))))
           refine TC.condB rfl (fun hb5 => ?_) (fun hb5 => ?_)
           ·
            have h := condT hb5 h
            refine TC.region (TO.move rfl dc rfl (TO.move rfl dc rfl (TO.move rfl dc rfl (TO.move rfl dc rfl (TO.move rfl dc rfl ?_)))))
            refine TO.vecVw (k := 1) rfl (fun hw2 => ?_)
            obtain ⟨hg9, h⟩ := grdE h
            obtain ⟨v9, hv2, hs2⟩ := slice_Vw (lo := some (.int .i64 from3)) (hi := some (.int .i64 to3)) hw2 Try.underlying44 sz_52 (.inr rfl) (.inr rfl) hg9
            refine TO.slice rfl dc rfl rfl rfl hs2 (TO.move rfl dc rfl ?_)
            obtain ⟨r4, hq7, h⟩ := andE h
            refine TO.callK (v := .int .i64 r4) (vs := [.string s1, v9, .int .i64 r2]) rfl dc rfl rfl rfl en_19 (ref30_RowCost_fn hv2 hq7) [1] kr rfl ?_
            obtain ⟨hg10, h⟩ := grdE h
            refine TO.bin rfl dc rfl rfl (bin_add (r := q3 + r4) (IntWalk.i64_in _ hg10)) (TO.assign rfl dc rfl (TO.nil ?_))
            exact TX.meetD (q3 + r4) h rfl (Sbs.cons rfl (Sbs.cons rfl (Sbs.cons rfl (Sbs.cons rfl (Sbs.cons rfl (Sbs.cons rfl (Sbs.cons rfl (Sbs.cons rfl (Sbs.cons rfl (Sbs.cons rfl (Sbs.cons rfl (Sbs.cons rfl (Sbs.cons rfl (Sbs.cons rfl (Sbs.cons rfl (Sbs.cons rfl (Sbs.cons rfl (Sbs.nil)))))))))))))))))) (Splits.of [0, 1, 2, 3, 4] kr rfl)
           ·
            have h := condF hb5 h
            refine TC.skip ?_
            exact TX.meetD q3 h rfl (Sbs.cons rfl (Sbs.cons rfl (Sbs.cons rfl (Sbs.cons rfl (Sbs.cons rfl (Sbs.cons rfl (Sbs.cons rfl (Sbs.cons rfl (Sbs.cons rfl (Sbs.cons rfl (Sbs.cons rfl (Sbs.cons rfl (Sbs.cons rfl (Sbs.cons rfl (Sbs.cons rfl (Sbs.cons rfl (Sbs.cons rfl (Sbs.nil)))))))))))))))))) (Splits.of [0, 1, 2, 3, 4] kr rfl)
          ·
           rintro c1 h
           rw [hj4] at h
           show TC _ _ _ _ _ ([]) _ _ [(0, .string s1), (1, .int .i64 indent1), (5, .pointer (some ⟨b1, 0, none⟩)), (8, v4), (9, .int .i64 (r1.length : Int)), (10, v5), (11, v6), (12, v7), (13, .int .i64 from3), (14, .int .i64 r2), (15, .int .i64 to3), (17, .int .i64 c1), (66, v6), (67, .int .i64 to3), (68, .pointer (some ⟨vblk v6, (to3 : Int).toNat * 1, none⟩)), (69, .int .i64 q2), (70, .bool (decide ((q2 : Int) < 0)))] [cells b1 [.int .i64 l1.Width, .int .i64 l1.Height, .int .i64 l1.Turn, .int .i64 l1.Every] 23, vec enc_Gapi_Cell 52 3 v4 r1, vec (encI (.i64)) 3 1 v5 cost8, vec (encI (.i64)) 3 1 v6 rows7, vec (encI (.i64)) 3 1 v7 next8]
           refine TC.seq ?_
           obtain ⟨q4, hq8, h⟩ := andE h
           refine TC.bySplit (b := decide ((q4 : Int) < 0)) (fun hb6 => ?_) (fun hb6 => ?_)
           ·
            have h := condT hb6 h
            refine TC.drawN 30 [(0, 88, v6), (1, 89, .int .i64 from3), (2, 90, .pointer (some ⟨vblk v6, (from3 : Int).toNat * 1, none⟩)), (3, 91, .int .i64 q4), (4, 92, .bool true), (5, 93, .bool true), (6, 94, undef), (7, 95, undef), (8, 96, undef), (9, 97, undef), (10, 98, undef), (11, 99, undef), (12, 100, .bool true), (13, 101, .bool true), (14, 102, undef), (15, 103, undef), (16, 104, undef), (17, 105, undef), (18, 106, undef), (19, 107, undef), (20, 108, undef), (21, 109, undef), (22, 110, undef), (23, 111, undef), (24, 112, undef), (25, 113, undef), (26, 114, undef), (27, 115, undef), (28, 116, undef), (29, 117, undef)] mixed kr kr dc (by rfl) kr kr (DrawPre.cons ?_ (DrawPre.cons ?_ (DrawPre.cons ?_ (DrawPre.cons ?_ (DrawPre.cons ?_ (DrawPre.cons ?_ (DrawPre.cons ?_ (DrawPre.cons ?_ (DrawPre.cons ?_ (DrawPre.cons ?_ (DrawPre.cons ?_ (DrawPre.cons ?_ (DrawPre.cons ?_ (DrawPre.cons ?_ (DrawPre.cons ?_ (DrawPre.cons ?_ (DrawPre.cons ?_ (DrawPre.cons ?_ (DrawPre.cons ?_ (DrawPre.cons ?_ (DrawPre.cons ?_ (DrawPre.cons ?_ (DrawPre.cons ?_ (DrawPre.cons ?_ (DrawPre.cons ?_ (DrawPre.cons ?_ (DrawPre.cons ?_ (DrawPre.cons ?_ (DrawPre.cons ?_ (DrawPre.cons ?_ DrawPre.nil)))))))))))))))))))))))))))))) ?_
            ·
             intro D hn hd hcl hu hi
             refine TO.move rfl dc (dl_old (by rfl) rfl) ?_
             exact TX.quiet 0 hu hi rfl
            ·
             intro D hn hd hcl hu hi
             refine TO.move rfl dc (dl_old (by rfl) rfl) ?_
             exact TX.quiet 1 hu hi rfl
            ·
             intro D hn hd hcl hu hi
             refine TO.indexVecI (k := 3) hq8 Try.underlying39 sz_3 rfl dc (dl_lookup (m := 0) hu rfl (hd 0 dc)) (dl_lookup (m := 1) hu rfl (hd 1 dc)) rfl rfl ?_
             exact TX.quiet 2 hu hi rfl
            ·
             intro D hn hd hcl hu hi
             refine TO.loadVec (i := (from3 : Int).toNat) (j := 0) (k := 3) (q := q4) sc_3 encI_len rfl dc (dl_lookup (m := 2) hu rfl (hd 2 dc)) rfl (getO_get hq8) rfl dc rfl ?_
             exact TX.quiet 3 hu hi rfl
            ·
             intro D hn hd hcl hu hi
             refine TO.bin rfl dc (dl_lookup (m := 3) hu rfl (hd 3 dc)) rfl bin_lss (TO.rewH (show Value.bool (decide ((q4 : Int) < 0)) = Value.bool true from congrArg Value.bool hb6) ?_)
             exact TX.quiet 4 hu hi rfl
            ·
             intro D hn hd hcl hu hi
             refine TO.move rfl dc (dl_lookup (m := 4) hu rfl (hd 4 dc)) ?_
             exact TX.quiet 5 hu hi rfl
            ·
             intro D hn hd hcl hu hi
             refine TO.skip (gd_F rfl (dl_lookup (m := 5) hu rfl (hd 5 dc))) dc ?_
             exact TX.quiet 6 hu hi rfl
            ·
             intro D hn hd hcl hu hi
             refine TO.skip (gd_F rfl (dl_lookup (m := 5) hu rfl (hd 5 dc))) dc ?_
             exact TX.quiet 7 hu hi rfl
            ·
             intro D hn hd hcl hu hi
             refine TO.skip (gd_F rfl (dl_lookup (m := 5) hu rfl (hd 5 dc))) dc ?_
             exact TX.quiet 8 hu hi rfl
            ·
             intro D hn hd hcl hu hi
             refine TO.skip (gd_F rfl (dl_lookup (m := 5) hu rfl (hd 5 dc))) dc ?_
             exact TX.quiet 9 hu hi rfl
            ·
             intro D hn hd hcl hu hi
             refine TO.skip (gd_F rfl (dl_lookup (m := 5) hu rfl (hd 5 dc))) dc ?_
             exact TX.quiet 10 hu hi rfl
            ·
             intro D hn hd hcl hu hi
             refine TO.skip (gd_F rfl (dl_lookup (m := 5) hu rfl (hd 5 dc))) dc ?_
             exact TX.quiet 11 hu hi rfl
            ·
             intro D hn hd hcl hu hi
             refine TO.pick (b := true) rfl dc (dl_lookup (m := 5) hu rfl (hd 5 dc)) rfl ?_
             exact TX.quiet 12 hu hi rfl
            ·
             intro D hn hd hcl hu hi
             refine TO.move rfl dc (dl_lookup (m := 12) hu rfl (hd 12 dc)) ?_
             exact TX.quiet 13 hu hi rfl
            ·
             intro D hn hd hcl hu hi
             refine TO.skip (gd_F rfl (dl_lookup (m := 13) hu rfl (hd 13 dc))) dc ?_
             exact TX.quiet 14 hu hi rfl
            ·
             intro D hn hd hcl hu hi
             refine TO.skip (gd_F rfl (dl_lookup (m := 13) hu rfl (hd 13 dc))) dc ?_
             exact TX.quiet 15 hu hi rfl
            ·
             intro D hn hd hcl hu hi
             refine TO.skip (gd_F rfl (dl_lookup (m := 13) hu rfl (hd 13 dc))) dc ?_
             exact TX.quiet 16 hu hi rfl
            ·
             intro D hn hd hcl hu hi
             refine TO.skip (gd_F rfl (dl_lookup (m := 13) hu rfl (hd 13 dc))) dc ?_
             exact TX.quiet 17 hu hi rfl
            ·
             intro D hn hd hcl hu hi
             refine TO.skip (gd_F rfl (dl_lookup (m := 13) hu rfl (hd 13 dc))) dc ?_
             exact TX.quiet 18 hu hi rfl
            ·
             intro D hn hd hcl hu hi
             refine TO.skip (gd_F rfl (dl_lookup (m := 13) hu rfl (hd 13 dc))) dc ?_
             exact TX.quiet 19 hu hi rfl
            ·
             intro D hn hd hcl hu hi
             refine TO.skip (gd_F rfl (dl_lookup (m := 13) hu rfl (hd 13 dc))) dc ?_
             exact TX.quiet 20 hu hi rfl
            ·
             intro D hn hd hcl hu hi
             refine TO.skip (gd_U rfl (dl_lookup (m := 20) hu rfl (hd 20 dc))) dc ?_
             exact TX.quiet 21 hu hi rfl
            ·
             intro D hn hd hcl hu hi
             refine TO.skip (gd_U rfl (dl_lookup (m := 20) hu rfl (hd 20 dc))) dc ?_
             exact TX.quiet 22 hu hi rfl
            ·
             intro D hn hd hcl hu hi
             refine TO.skip (gd_U rfl (dl_lookup (m := 20) hu rfl (hd 20 dc))) dc ?_
             exact TX.quiet 23 hu hi rfl
            ·
             intro D hn hd hcl hu hi
             refine TO.skip (gd_U rfl (dl_lookup (m := 20) hu rfl (hd 20 dc))) dc ?_
             exact TX.quiet 24 hu hi rfl
            ·
             intro D hn hd hcl hu hi
             refine TO.skip (gd_U rfl (dl_lookup (m := 20) hu rfl (hd 20 dc))) dc ?_
             exact TX.quiet 25 hu hi rfl
            ·
             intro D hn hd hcl hu hi
             refine TO.skip (gd_U rfl (dl_lookup (m := 20) hu rfl (hd 20 dc))) dc ?_
             exact TX.quiet 26 hu hi rfl
            ·
             intro D hn hd hcl hu hi
             refine TO.skip (gd_U rfl (dl_lookup (m := 20) hu rfl (hd 20 dc))) dc ?_
             exact TX.quiet 27 hu hi rfl
            ·
             intro D hn hd hcl hu hi
             refine TO.skip (gd_U rfl (dl_lookup (m := 20) hu rfl (hd 20 dc))) dc ?_
             exact TX.quiet 28 hu hi rfl
            ·
             intro D hn hd hcl hu hi
             refine TO.skip (gd_U rfl (dl_lookup (m := 20) hu rfl (hd 20 dc))) dc ?_
             exact TX.quiet 29 hu hi rfl
            refine TO.skip rfl dc (TO.skip rfl dc (TO.pick (b := true) rfl dc rfl rfl (TO.nil (TX.next (TC.condT rfl (TC.region (TO.move rfl dc rfl (TO.move rfl dc rfl (TO.move rfl dc rfl (TO.move rfl dc rfl (TO.move rfl dc rfl (TO.move rfl dc rfl (TO.move rfl dc rfl ?_)))))))))))))
            refine TO.move rfl dc rfl (TO.move rfl dc rfl ?_)
            obtain ⟨q5, hq9, h⟩ := andE h
            refine TO.indexVecI (k := 3) hq9 Try.underlying39 sz_3 rfl dc rfl rfl rfl rfl (TO.loadVec (i := (to3 : Int).toNat) (j := 0) (k := 3) (q := q5) sc_3 encI_len rfl dc rfl rfl (getO_get hq9) rfl dc rfl ?_)
            obtain ⟨hg11, h⟩ := grdE h
            refine TO.bin rfl dc rfl rfl (bin_add (r := q5 + 1) (IntWalk.i64_in _ hg11)) (TO.move rfl dc rfl ?_)
            obtain ⟨q6, hq10, h⟩ := andE h
            refine TO.indexVecI (k := 2) hq10 Try.underlying39 sz_3 rfl dc rfl rfl rfl rfl ?_
            refine TO.storeVec (i := (from3 : Int).toNat) (j := 0) (k := 2) (q := q6) (q' := c1) sz_3 encI_len rfl rfl rfl rfl (getO_get hq10) rfl dc rfl (fun _ _ => rfl) ?_
            obtain ⟨q7, hq11, h⟩ := andE h
            refine TO.indexVecI (k := 3) hq11 Try.underlying39 sz_3 rfl dc rfl rfl rfl rfl ?_
            refine TO.storeVec (i := (from3 : Int).toNat) (j := 0) (k := 3) (q := q7) (q' := q5 + 1) sz_3 encI_len rfl rfl rfl rfl (getO_get hq11) rfl dc rfl (fun _ _ => rfl) ?_
            show TO _ _ _ _ _ _ _ _ _ _ [cells b1 [.int .i64 l1.Width, .int .i64 l1.Height, .int .i64 l1.Turn, .int .i64 l1.Every] 23, vec enc_Gapi_Cell 52 3 v4 r1, vec (encI (.i64)) 3 1 v5 (cost8.set (from3 : Int).toNat c1), vec (encI (.i64)) 3 1 v6 (rows7.set (from3 : Int).toNat (q5 + 1)), vec (encI (.i64)) 3 1 v7 next8]
            obtain ⟨q8, hq12, h⟩ := andE h
            refine TO.indexVecI (k := 4) hq12 Try.underlying39 sz_3 rfl dc rfl rfl rfl rfl ?_
            refine TO.storeVec (i := (from3 : Int).toNat) (j := 0) (k := 4) (q := q8) (q' := to3) sz_3 encI_len rfl rfl rfl rfl (getO_get hq12) rfl dc rfl (fun _ _ => rfl) ?_
            refine TO.nil (TX.blockNormal ?_)
            exact TX.meetD (cost8.set (from3 : Int).toNat c1, rows7.set (from3 : Int).toNat (q5 + 1), next8.set (from3 : Int).toNat to3) h rfl (Sbs.cons rfl (Sbs.cons rfl (Sbs.cons rfl (Sbs.cons rfl (Sbs.cons rfl (Sbs.cons rfl (Sbs.cons rfl (Sbs.cons rfl (Sbs.cons rfl (Sbs.cons rfl (Sbs.cons rfl (Sbs.nil)))))))))))) (Splits.of [0, 1, 2, 3, 4] kr rfl)
           ·
            have h := condF hb6 h
            obtain ⟨q9, hq13, h⟩ := andE h
            refine TC.bySplit (b := decide ((c1 : Int) < q9)) (fun hb7 => ?_) (fun hb7 => ?_)
            ·
             have h := condT hb7 h
             refine TC.drawN 30 [(0, 88, v6), (1, 89, .int .i64 from3), (2, 90, .pointer (some ⟨vblk v6, (from3 : Int).toNat * 1, none⟩)), (3, 91, .int .i64 q4), (4, 92, .bool false), (5, 93, .bool false), (6, 94, .int .i64 c1), (7, 95, v5), (8, 96, .int .i64 from3), (9, 97, .pointer (some ⟨vblk v5, (from3 : Int).toNat * 1, none⟩)), (10, 98, .int .i64 q9), (11, 99, .bool true), (12, 100, .bool true), (13, 101, .bool true), (14, 102, undef), (15, 103, undef), (16, 104, undef), (17, 105, undef), (18, 106, undef), (19, 107, undef), (20, 108, undef), (21, 109, undef), (22, 110, undef), (23, 111, undef), (24, 112, undef), (25, 113, undef), (26, 114, undef), (27, 115, undef), (28, 116, undef), (29, 117, undef)] mixed kr kr dc (by rfl) kr kr (DrawPre.cons ?_ (DrawPre.cons ?_ (DrawPre.cons ?_ (DrawPre.cons ?_ (DrawPre.cons ?_ (DrawPre.cons ?_ (DrawPre.cons ?_ (DrawPre.cons ?_ (DrawPre.cons ?_ (DrawPre.cons ?_ (DrawPre.cons ?_ (DrawPre.cons ?_ (DrawPre.cons ?_ (DrawPre.cons ?_ (DrawPre.cons ?_ (DrawPre.cons ?_ (DrawPre.cons ?_ (DrawPre.cons ?_ (DrawPre.cons ?_ (DrawPre.cons ?_ (DrawPre.cons ?_ (DrawPre.cons ?_ (DrawPre.cons ?_ (DrawPre.cons ?_ (DrawPre.cons ?_ (DrawPre.cons ?_ (DrawPre.cons ?_ (DrawPre.cons ?_ (DrawPre.cons ?_ (DrawPre.cons ?_ DrawPre.nil)))))))))))))))))))))))))))))) ?_
             ·
              intro D hn hd hcl hu hi
              refine TO.move rfl dc (dl_old (by rfl) rfl) ?_
              exact TX.quiet 0 hu hi rfl
             ·
              intro D hn hd hcl hu hi
              refine TO.move rfl dc (dl_old (by rfl) rfl) ?_
              exact TX.quiet 1 hu hi rfl
             ·
              intro D hn hd hcl hu hi
              refine TO.indexVecI (k := 3) hq8 Try.underlying39 sz_3 rfl dc (dl_lookup (m := 0) hu rfl (hd 0 dc)) (dl_lookup (m := 1) hu rfl (hd 1 dc)) rfl rfl ?_
              exact TX.quiet 2 hu hi rfl
             ·
              intro D hn hd hcl hu hi
              refine TO.loadVec (i := (from3 : Int).toNat) (j := 0) (k := 3) (q := q4) sc_3 encI_len rfl dc (dl_lookup (m := 2) hu rfl (hd 2 dc)) rfl (getO_get hq8) rfl dc rfl ?_
              exact TX.quiet 3 hu hi rfl
             ·
              intro D hn hd hcl hu hi
              refine TO.bin rfl dc (dl_lookup (m := 3) hu rfl (hd 3 dc)) rfl bin_lss (TO.rewH (show Value.bool (decide ((q4 : Int) < 0)) = Value.bool false from congrArg Value.bool hb6) ?_)
              exact TX.quiet 4 hu hi rfl
             ·
              intro D hn hd hcl hu hi
              refine TO.move rfl dc (dl_lookup (m := 4) hu rfl (hd 4 dc)) ?_
              exact TX.quiet 5 hu hi rfl
             ·
              intro D hn hd hcl hu hi
              refine TO.move (gd_T rfl (dl_lookup (m := 5) hu rfl (hd 5 dc))) dc (dl_old (by rfl) rfl) ?_
              exact TX.quiet 6 hu hi rfl
             ·
              intro D hn hd hcl hu hi
              refine TO.move (gd_T rfl (dl_lookup (m := 5) hu rfl (hd 5 dc))) dc (dl_old (by rfl) rfl) ?_
              exact TX.quiet 7 hu hi rfl
             ·
              intro D hn hd hcl hu hi
              refine TO.move (gd_T rfl (dl_lookup (m := 5) hu rfl (hd 5 dc))) dc (dl_old (by rfl) rfl) ?_
              exact TX.quiet 8 hu hi rfl
             ·
              intro D hn hd hcl hu hi
              refine TO.indexVecI (k := 2) hq13 Try.underlying39 sz_3 (gd_T rfl (dl_lookup (m := 5) hu rfl (hd 5 dc))) dc (dl_lookup (m := 7) hu rfl (hd 7 dc)) (dl_lookup (m := 8) hu rfl (hd 8 dc)) rfl rfl ?_
              exact TX.quiet 9 hu hi rfl
             ·
              intro D hn hd hcl hu hi
              refine TO.loadVec (i := (from3 : Int).toNat) (j := 0) (k := 2) (q := q9) sc_3 encI_len (gd_T rfl (dl_lookup (m := 5) hu rfl (hd 5 dc))) dc (dl_lookup (m := 9) hu rfl (hd 9 dc)) rfl (getO_get hq13) rfl dc rfl ?_
              exact TX.quiet 10 hu hi rfl
             ·
              intro D hn hd hcl hu hi
              refine TO.bin (gd_T rfl (dl_lookup (m := 5) hu rfl (hd 5 dc))) dc (dl_lookup (m := 6) hu rfl (hd 6 dc)) (dl_lookup (m := 10) hu rfl (hd 10 dc)) bin_lss (TO.rewH (show Value.bool (decide ((c1 : Int) < q9)) = Value.bool true from congrArg Value.bool hb7) ?_)
              exact TX.quiet 11 hu hi rfl
             ·
              intro D hn hd hcl hu hi
              refine TO.pick (b := false) rfl dc (dl_lookup (m := 5) hu rfl (hd 5 dc)) (dl_lookup (m := 11) hu rfl (hd 11 dc)) ?_
              exact TX.quiet 12 hu hi rfl
             ·
              intro D hn hd hcl hu hi
              refine TO.move rfl dc (dl_lookup (m := 12) hu rfl (hd 12 dc)) ?_
              exact TX.quiet 13 hu hi rfl
             ·
              intro D hn hd hcl hu hi
              refine TO.skip (gd_F rfl (dl_lookup (m := 13) hu rfl (hd 13 dc))) dc ?_
              exact TX.quiet 14 hu hi rfl
             ·
              intro D hn hd hcl hu hi
              refine TO.skip (gd_F rfl (dl_lookup (m := 13) hu rfl (hd 13 dc))) dc ?_
              exact TX.quiet 15 hu hi rfl
             ·
              intro D hn hd hcl hu hi
              refine TO.skip (gd_F rfl (dl_lookup (m := 13) hu rfl (hd 13 dc))) dc ?_
              exact TX.quiet 16 hu hi rfl
             ·
              intro D hn hd hcl hu hi
              refine TO.skip (gd_F rfl (dl_lookup (m := 13) hu rfl (hd 13 dc))) dc ?_
              exact TX.quiet 17 hu hi rfl
             ·
              intro D hn hd hcl hu hi
              refine TO.skip (gd_F rfl (dl_lookup (m := 13) hu rfl (hd 13 dc))) dc ?_
              exact TX.quiet 18 hu hi rfl
             ·
              intro D hn hd hcl hu hi
              refine TO.skip (gd_F rfl (dl_lookup (m := 13) hu rfl (hd 13 dc))) dc ?_
              exact TX.quiet 19 hu hi rfl
             ·
              intro D hn hd hcl hu hi
              refine TO.skip (gd_F rfl (dl_lookup (m := 13) hu rfl (hd 13 dc))) dc ?_
              exact TX.quiet 20 hu hi rfl
             ·
              intro D hn hd hcl hu hi
              refine TO.skip (gd_U rfl (dl_lookup (m := 20) hu rfl (hd 20 dc))) dc ?_
              exact TX.quiet 21 hu hi rfl
             ·
              intro D hn hd hcl hu hi
              refine TO.skip (gd_U rfl (dl_lookup (m := 20) hu rfl (hd 20 dc))) dc ?_
              exact TX.quiet 22 hu hi rfl
             ·
              intro D hn hd hcl hu hi
              refine TO.skip (gd_U rfl (dl_lookup (m := 20) hu rfl (hd 20 dc))) dc ?_
              exact TX.quiet 23 hu hi rfl
             ·
              intro D hn hd hcl hu hi
              refine TO.skip (gd_U rfl (dl_lookup (m := 20) hu rfl (hd 20 dc))) dc ?_
              exact TX.quiet 24 hu hi rfl
             ·
              intro D hn hd hcl hu hi
              refine TO.skip (gd_U rfl (dl_lookup (m := 20) hu rfl (hd 20 dc))) dc ?_
              exact TX.quiet 25 hu hi rfl
             ·
              intro D hn hd hcl hu hi
              refine TO.skip (gd_U rfl (dl_lookup (m := 20) hu rfl (hd 20 dc))) dc ?_
              exact TX.quiet 26 hu hi rfl
             ·
              intro D hn hd hcl hu hi
              refine TO.skip (gd_U rfl (dl_lookup (m := 20) hu rfl (hd 20 dc))) dc ?_
              exact TX.quiet 27 hu hi rfl
             ·
              intro D hn hd hcl hu hi
              refine TO.skip (gd_U rfl (dl_lookup (m := 20) hu rfl (hd 20 dc))) dc ?_
              exact TX.quiet 28 hu hi rfl
             ·
              intro D hn hd hcl hu hi
              refine TO.skip (gd_U rfl (dl_lookup (m := 20) hu rfl (hd 20 dc))) dc ?_
              exact TX.quiet 29 hu hi rfl
             refine TO.skip rfl dc (TO.skip rfl dc (TO.pick (b := true) rfl dc rfl rfl (TO.nil (TX.next (TC.condT rfl (TC.region (TO.move rfl dc rfl (TO.move rfl dc rfl (TO.move rfl dc rfl (TO.move rfl dc rfl (TO.move rfl dc rfl (TO.move rfl dc rfl (TO.move rfl dc rfl ?_)))))))))))))
             refine TO.move rfl dc rfl (TO.move rfl dc rfl ?_)
             obtain ⟨q10, hq14, h⟩ := andE h
             refine TO.indexVecI (k := 3) hq14 Try.underlying39 sz_3 rfl dc rfl rfl rfl rfl (TO.loadVec (i := (to3 : Int).toNat) (j := 0) (k := 3) (q := q10) sc_3 encI_len rfl dc rfl rfl (getO_get hq14) rfl dc rfl ?_)
             obtain ⟨hg12, h⟩ := grdE h
             refine TO.bin rfl dc rfl rfl (bin_add (r := q10 + 1) (IntWalk.i64_in _ hg12)) (TO.move rfl dc rfl ?_)
             obtain ⟨q11, hq15, h⟩ := andE h
             refine TO.indexVecI (k := 2) hq15 Try.underlying39 sz_3 rfl dc rfl rfl rfl rfl ?_
             refine TO.storeVec (i := (from3 : Int).toNat) (j := 0) (k := 2) (q := q11) (q' := c1) sz_3 encI_len rfl rfl rfl rfl (getO_get hq15) rfl dc rfl (fun _ _ => rfl) ?_
             obtain ⟨q12, hq16, h⟩ := andE h
             refine TO.indexVecI (k := 3) hq16 Try.underlying39 sz_3 rfl dc rfl rfl rfl rfl ?_
             refine TO.storeVec (i := (from3 : Int).toNat) (j := 0) (k := 3) (q := q12) (q' := q10 + 1) sz_3 encI_len rfl rfl rfl rfl (getO_get hq16) rfl dc rfl (fun _ _ => rfl) ?_
             show TO _ _ _ _ _ _ _ _ _ _ [cells b1 [.int .i64 l1.Width, .int .i64 l1.Height, .int .i64 l1.Turn, .int .i64 l1.Every] 23, vec enc_Gapi_Cell 52 3 v4 r1, vec (encI (.i64)) 3 1 v5 (cost8.set (from3 : Int).toNat c1), vec (encI (.i64)) 3 1 v6 (rows7.set (from3 : Int).toNat (q10 + 1)), vec (encI (.i64)) 3 1 v7 next8]
             obtain ⟨q13, hq17, h⟩ := andE h
             refine TO.indexVecI (k := 4) hq17 Try.underlying39 sz_3 rfl dc rfl rfl rfl rfl ?_
             refine TO.storeVec (i := (from3 : Int).toNat) (j := 0) (k := 4) (q := q13) (q' := to3) sz_3 encI_len rfl rfl rfl rfl (getO_get hq17) rfl dc rfl (fun _ _ => rfl) ?_
             refine TO.nil (TX.blockNormal ?_)
             exact TX.meetD (cost8.set (from3 : Int).toNat c1, rows7.set (from3 : Int).toNat (q10 + 1), next8.set (from3 : Int).toNat to3) h rfl (Sbs.cons rfl (Sbs.cons rfl (Sbs.cons rfl (Sbs.cons rfl (Sbs.cons rfl (Sbs.cons rfl (Sbs.cons rfl (Sbs.cons rfl (Sbs.cons rfl (Sbs.cons rfl (Sbs.cons rfl (Sbs.nil)))))))))))) (Splits.of [0, 1, 2, 3, 4] kr rfl)
            ·
             have h := condF hb7 h
             refine TC.bySplit (b := (c1 : Int) == q9) (fun hb8 => ?_) (fun hb8 => ?_)
             ·
              have h := condT hb8 h
              obtain ⟨q14, hq18, h⟩ := andE h
              obtain ⟨hg13, h⟩ := grdE h
              refine TC.drawN 30 [(0, 88, v6), (1, 89, .int .i64 from3), (2, 90, .pointer (some ⟨vblk v6, (from3 : Int).toNat * 1, none⟩)), (3, 91, .int .i64 q4), (4, 92, .bool false), (5, 93, .bool false), (6, 94, .int .i64 c1), (7, 95, v5), (8, 96, .int .i64 from3), (9, 97, .pointer (some ⟨vblk v5, (from3 : Int).toNat * 1, none⟩)), (10, 98, .int .i64 q9), (11, 99, .bool false), (12, 100, .bool false), (13, 101, .bool false), (14, 102, .int .i64 c1), (15, 103, v5), (16, 104, .int .i64 from3), (17, 105, .pointer (some ⟨vblk v5, (from3 : Int).toNat * 1, none⟩)), (18, 106, .int .i64 q9), (19, 107, .bool true), (20, 108, .bool true), (21, 109, v6), (22, 110, .int .i64 to3), (23, 111, .pointer (some ⟨vblk v6, (to3 : Int).toNat * 1, none⟩)), (24, 112, .int .i64 q14), (25, 113, .int .i64 (q14 + 1)), (26, 114, v6), (27, 115, .int .i64 from3), (28, 116, .pointer (some ⟨vblk v6, (from3 : Int).toNat * 1, none⟩)), (29, 117, .int .i64 q4)] mixed kr kr dc (by rfl) kr kr (DrawPre.cons ?_ (DrawPre.cons ?_ (DrawPre.cons ?_ (DrawPre.cons ?_ (DrawPre.cons ?_ (DrawPre.cons ?_ (DrawPre.cons ?_ (DrawPre.cons ?_ (DrawPre.cons ?_ (DrawPre.cons ?_ (DrawPre.cons ?_ (DrawPre.cons ?_ (DrawPre.cons ?_ (DrawPre.cons ?_ (DrawPre.cons ?_ (DrawPre.cons ?_ (DrawPre.cons ?_ (DrawPre.cons ?_ (DrawPre.cons ?_ (DrawPre.cons ?_ (DrawPre.cons ?_ (DrawPre.cons ?_ (DrawPre.cons ?_ (DrawPre.cons ?_ (DrawPre.cons ?_ (DrawPre.cons ?_ (DrawPre.cons ?_ (DrawPre.cons ?_ (DrawPre.cons ?_ (DrawPre.cons ?_ DrawPre.nil)))))))))))))))))))))))))))))) ?_
              ·
               intro D hn hd hcl hu hi
               refine TO.move rfl dc (dl_old (by rfl) rfl) ?_
               exact TX.quiet 0 hu hi rfl
              ·
               intro D hn hd hcl hu hi
               refine TO.move rfl dc (dl_old (by rfl) rfl) ?_
               exact TX.quiet 1 hu hi rfl
              ·
               intro D hn hd hcl hu hi
               refine TO.indexVecI (k := 3) hq8 Try.underlying39 sz_3 rfl dc (dl_lookup (m := 0) hu rfl (hd 0 dc)) (dl_lookup (m := 1) hu rfl (hd 1 dc)) rfl rfl ?_
               exact TX.quiet 2 hu hi rfl
              ·
               intro D hn hd hcl hu hi
               refine TO.loadVec (i := (from3 : Int).toNat) (j := 0) (k := 3) (q := q4) sc_3 encI_len rfl dc (dl_lookup (m := 2) hu rfl (hd 2 dc)) rfl (getO_get hq8) rfl dc rfl ?_
               exact TX.quiet 3 hu hi rfl
              ·
               intro D hn hd hcl hu hi
               refine TO.bin rfl dc (dl_lookup (m := 3) hu rfl (hd 3 dc)) rfl bin_lss (TO.rewH (show Value.bool (decide ((q4 : Int) < 0)) = Value.bool false from congrArg Value.bool hb6) ?_)
               exact TX.quiet 4 hu hi rfl
              ·
               intro D hn hd hcl hu hi
               refine TO.move rfl dc (dl_lookup (m := 4) hu rfl (hd 4 dc)) ?_
               exact TX.quiet 5 hu hi rfl
              ·
               intro D hn hd hcl hu hi
               refine TO.move (gd_T rfl (dl_lookup (m := 5) hu rfl (hd 5 dc))) dc (dl_old (by rfl) rfl) ?_
               exact TX.quiet 6 hu hi rfl
              ·
               intro D hn hd hcl hu hi
               refine TO.move (gd_T rfl (dl_lookup (m := 5) hu rfl (hd 5 dc))) dc (dl_old (by rfl) rfl) ?_
               exact TX.quiet 7 hu hi rfl
              ·
               intro D hn hd hcl hu hi
               refine TO.move (gd_T rfl (dl_lookup (m := 5) hu rfl (hd 5 dc))) dc (dl_old (by rfl) rfl) ?_
               exact TX.quiet 8 hu hi rfl
              ·
               intro D hn hd hcl hu hi
               refine TO.indexVecI (k := 2) hq13 Try.underlying39 sz_3 (gd_T rfl (dl_lookup (m := 5) hu rfl (hd 5 dc))) dc (dl_lookup (m := 7) hu rfl (hd 7 dc)) (dl_lookup (m := 8) hu rfl (hd 8 dc)) rfl rfl ?_
               exact TX.quiet 9 hu hi rfl
              ·
               intro D hn hd hcl hu hi
               refine TO.loadVec (i := (from3 : Int).toNat) (j := 0) (k := 2) (q := q9) sc_3 encI_len (gd_T rfl (dl_lookup (m := 5) hu rfl (hd 5 dc))) dc (dl_lookup (m := 9) hu rfl (hd 9 dc)) rfl (getO_get hq13) rfl dc rfl ?_
               exact TX.quiet 10 hu hi rfl
              ·
               intro D hn hd hcl hu hi
               refine TO.bin (gd_T rfl (dl_lookup (m := 5) hu rfl (hd 5 dc))) dc (dl_lookup (m := 6) hu rfl (hd 6 dc)) (dl_lookup (m := 10) hu rfl (hd 10 dc)) bin_lss (TO.rewH (show Value.bool (decide ((c1 : Int) < q9)) = Value.bool false from congrArg Value.bool hb7) ?_)
               exact TX.quiet 11 hu hi rfl
              ·
               intro D hn hd hcl hu hi
               refine TO.pick (b := false) rfl dc (dl_lookup (m := 5) hu rfl (hd 5 dc)) (dl_lookup (m := 11) hu rfl (hd 11 dc)) ?_
               exact TX.quiet 12 hu hi rfl
              ·
               intro D hn hd hcl hu hi
               refine TO.move rfl dc (dl_lookup (m := 12) hu rfl (hd 12 dc)) ?_
               exact TX.quiet 13 hu hi rfl
              ·
               intro D hn hd hcl hu hi
               refine TO.move (gd_T rfl (dl_lookup (m := 13) hu rfl (hd 13 dc))) dc (dl_old (by rfl) rfl) ?_
               exact TX.quiet 14 hu hi rfl
              ·
               intro D hn hd hcl hu hi
               refine TO.move (gd_T rfl (dl_lookup (m := 13) hu rfl (hd 13 dc))) dc (dl_old (by rfl) rfl) ?_
               exact TX.quiet 15 hu hi rfl
              ·
               intro D hn hd hcl hu hi
               refine TO.move (gd_T rfl (dl_lookup (m := 13) hu rfl (hd 13 dc))) dc (dl_old (by rfl) rfl) ?_
               exact TX.quiet 16 hu hi rfl
              ·
               intro D hn hd hcl hu hi
               refine TO.indexVecI (k := 2) hq13 Try.underlying39 sz_3 (gd_T rfl (dl_lookup (m := 13) hu rfl (hd 13 dc))) dc (dl_lookup (m := 15) hu rfl (hd 15 dc)) (dl_lookup (m := 16) hu rfl (hd 16 dc)) rfl rfl ?_
               exact TX.quiet 17 hu hi rfl
              ·
               intro D hn hd hcl hu hi
               refine TO.loadVec (i := (from3 : Int).toNat) (j := 0) (k := 2) (q := q9) sc_3 encI_len (gd_T rfl (dl_lookup (m := 13) hu rfl (hd 13 dc))) dc (dl_lookup (m := 17) hu rfl (hd 17 dc)) rfl (getO_get hq13) rfl dc rfl ?_
               exact TX.quiet 18 hu hi rfl
              ·
               intro D hn hd hcl hu hi
               refine TO.bin (gd_T rfl (dl_lookup (m := 13) hu rfl (hd 13 dc))) dc (dl_lookup (m := 14) hu rfl (hd 14 dc)) (dl_lookup (m := 18) hu rfl (hd 18 dc)) bin_eql (TO.rewH (show Value.bool ((c1 : Int) == q9) = Value.bool true from congrArg Value.bool hb8) ?_)
               exact TX.quiet 19 hu hi rfl
              ·
               intro D hn hd hcl hu hi
               refine TO.move (gd_T rfl (dl_lookup (m := 13) hu rfl (hd 13 dc))) dc (dl_lookup (m := 19) hu rfl (hd 19 dc)) ?_
               exact TX.quiet 20 hu hi rfl
              ·
               intro D hn hd hcl hu hi
               refine TO.move (gd_T rfl (dl_lookup (m := 20) hu rfl (hd 20 dc))) dc (dl_old (by rfl) rfl) ?_
               exact TX.quiet 21 hu hi rfl
              ·
               intro D hn hd hcl hu hi
               refine TO.move (gd_T rfl (dl_lookup (m := 20) hu rfl (hd 20 dc))) dc (dl_old (by rfl) rfl) ?_
               exact TX.quiet 22 hu hi rfl
              ·
               intro D hn hd hcl hu hi
               refine TO.indexVecI (k := 3) hq18 Try.underlying39 sz_3 (gd_T rfl (dl_lookup (m := 20) hu rfl (hd 20 dc))) dc (dl_lookup (m := 21) hu rfl (hd 21 dc)) (dl_lookup (m := 22) hu rfl (hd 22 dc)) rfl rfl ?_
               exact TX.quiet 23 hu hi rfl
              ·
               intro D hn hd hcl hu hi
               refine TO.loadVec (i := (to3 : Int).toNat) (j := 0) (k := 3) (q := q14) sc_3 encI_len (gd_T rfl (dl_lookup (m := 20) hu rfl (hd 20 dc))) dc (dl_lookup (m := 23) hu rfl (hd 23 dc)) rfl (getO_get hq18) rfl dc rfl ?_
               exact TX.quiet 24 hu hi rfl
              ·
               intro D hn hd hcl hu hi
               refine TO.bin (gd_T rfl (dl_lookup (m := 20) hu rfl (hd 20 dc))) dc (dl_lookup (m := 24) hu rfl (hd 24 dc)) rfl (bin_add (r := q14 + 1) (IntWalk.i64_in _ hg13)) ?_
               exact TX.quiet 25 hu hi rfl
              ·
               intro D hn hd hcl hu hi
               refine TO.move (gd_T rfl (dl_lookup (m := 20) hu rfl (hd 20 dc))) dc (dl_old (by rfl) rfl) ?_
               exact TX.quiet 26 hu hi rfl
              ·
               intro D hn hd hcl hu hi
               refine TO.move (gd_T rfl (dl_lookup (m := 20) hu rfl (hd 20 dc))) dc (dl_old (by rfl) rfl) ?_
               exact TX.quiet 27 hu hi rfl
              ·
               intro D hn hd hcl hu hi
               refine TO.indexVecI (k := 3) hq8 Try.underlying39 sz_3 (gd_T rfl (dl_lookup (m := 20) hu rfl (hd 20 dc))) dc (dl_lookup (m := 26) hu rfl (hd 26 dc)) (dl_lookup (m := 27) hu rfl (hd 27 dc)) rfl rfl ?_
               exact TX.quiet 28 hu hi rfl
              ·
               intro D hn hd hcl hu hi
               refine TO.loadVec (i := (from3 : Int).toNat) (j := 0) (k := 3) (q := q4) sc_3 encI_len (gd_T rfl (dl_lookup (m := 20) hu rfl (hd 20 dc))) dc (dl_lookup (m := 28) hu rfl (hd 28 dc)) rfl (getO_get hq8) rfl dc rfl ?_
               exact TX.quiet 29 hu hi rfl
              refine TO.bin rfl dc rfl rfl bin_lss (TO.pick (b := true) rfl dc rfl rfl (TO.pick (b := false) rfl dc rfl rfl (TO.nil (TX.next ?_))))
              refine TC.condB rfl (fun hb9 => ?_) (fun hb9 => ?_)
              ·
               have h := condT hb9 h
               refine TC.region (TO.move rfl dc rfl (TO.move rfl dc rfl (TO.move rfl dc rfl (TO.move rfl dc rfl (TO.move rfl dc rfl (TO.move rfl dc rfl (TO.move rfl dc rfl (TO.move rfl dc rfl (TO.move rfl dc rfl ?_)))))))))
               obtain ⟨q15, hq19, h⟩ := andE h
               refine TO.indexVecI (k := 3) hq19 Try.underlying39 sz_3 rfl dc rfl rfl rfl rfl (TO.loadVec (i := (to3 : Int).toNat) (j := 0) (k := 3) (q := q15) sc_3 encI_len rfl dc rfl rfl (getO_get hq19) rfl dc rfl ?_)
               obtain ⟨hg14, h⟩ := grdE h
               refine TO.bin rfl dc rfl rfl (bin_add (r := q15 + 1) (IntWalk.i64_in _ hg14)) (TO.move rfl dc rfl ?_)
               obtain ⟨q16, hq20, h⟩ := andE h
               refine TO.indexVecI (k := 2) hq20 Try.underlying39 sz_3 rfl dc rfl rfl rfl rfl ?_
               refine TO.storeVec (i := (from3 : Int).toNat) (j := 0) (k := 2) (q := q16) (q' := c1) sz_3 encI_len rfl rfl rfl rfl (getO_get hq20) rfl dc rfl (fun _ _ => rfl) ?_
               obtain ⟨q17, hq21, h⟩ := andE h
               refine TO.indexVecI (k := 3) hq21 Try.underlying39 sz_3 rfl dc rfl rfl rfl rfl ?_
               refine TO.storeVec (i := (from3 : Int).toNat) (j := 0) (k := 3) (q := q17) (q' := q15 + 1) sz_3 encI_len rfl rfl rfl rfl (getO_get hq21) rfl dc rfl (fun _ _ => rfl) ?_
               show TO _ _ _ _ _ _ _ _ _ _ [cells b1 [.int .i64 l1.Width, .int .i64 l1.Height, .int .i64 l1.Turn, .int .i64 l1.Every] 23, vec enc_Gapi_Cell 52 3 v4 r1, vec (encI (.i64)) 3 1 v5 (cost8.set (from3 : Int).toNat c1), vec (encI (.i64)) 3 1 v6 (rows7.set (from3 : Int).toNat (q15 + 1)), vec (encI (.i64)) 3 1 v7 next8]
               obtain ⟨q18, hq22, h⟩ := andE h
               refine TO.indexVecI (k := 4) hq22 Try.underlying39 sz_3 rfl dc rfl rfl rfl rfl ?_
               refine TO.storeVec (i := (from3 : Int).toNat) (j := 0) (k := 4) (q := q18) (q' := to3) sz_3 encI_len rfl rfl rfl rfl (getO_get hq22) rfl dc rfl (fun _ _ => rfl) ?_
               refine TO.nil (TX.blockNormal ?_)
               exact TX.meetD (cost8.set (from3 : Int).toNat c1, rows7.set (from3 : Int).toNat (q15 + 1), next8.set (from3 : Int).toNat to3) h rfl (Sbs.cons rfl (Sbs.cons rfl (Sbs.cons rfl (Sbs.cons rfl (Sbs.cons rfl (Sbs.cons rfl (Sbs.cons rfl (Sbs.cons rfl (Sbs.cons rfl (Sbs.cons rfl (Sbs.cons rfl (Sbs.nil)))))))))))) (Splits.of [0, 1, 2, 3, 4] kr rfl)
              ·
               have h := condF hb9 h
               refine TC.skip (TX.blockNormal ?_)
               exact TX.meetD (cost8, rows7, next8) h rfl (Sbs.cons rfl (Sbs.cons rfl (Sbs.cons rfl (Sbs.cons rfl (Sbs.cons rfl (Sbs.cons rfl (Sbs.cons rfl (Sbs.cons rfl (Sbs.cons rfl (Sbs.cons rfl (Sbs.cons rfl (Sbs.nil)))))))))))) (Splits.of [0, 1, 2, 3, 4] kr rfl)
             ·
              have h := condF hb8 h
              refine TC.drawN 30 [(0, 88, v6), (1, 89, .int .i64 from3), (2, 90, .pointer (some ⟨vblk v6, (from3 : Int).toNat * 1, none⟩)), (3, 91, .int .i64 q4), (4, 92, .bool false), (5, 93, .bool false), (6, 94, .int .i64 c1), (7, 95, v5), (8, 96, .int .i64 from3), (9, 97, .pointer (some ⟨vblk v5, (from3 : Int).toNat * 1, none⟩)), (10, 98, .int .i64 q9), (11, 99, .bool false), (12, 100, .bool false), (13, 101, .bool false), (14, 102, .int .i64 c1), (15, 103, v5), (16, 104, .int .i64 from3), (17, 105, .pointer (some ⟨vblk v5, (from3 : Int).toNat * 1, none⟩)), (18, 106, .int .i64 q9), (19, 107, .bool false), (20, 108, .bool false), (21, 109, undef), (22, 110, undef), (23, 111, undef), (24, 112, undef), (25, 113, undef), (26, 114, undef), (27, 115, undef), (28, 116, undef), (29, 117, undef)] mixed kr kr dc (by rfl) kr kr (DrawPre.cons ?_ (DrawPre.cons ?_ (DrawPre.cons ?_ (DrawPre.cons ?_ (DrawPre.cons ?_ (DrawPre.cons ?_ (DrawPre.cons ?_ (DrawPre.cons ?_ (DrawPre.cons ?_ (DrawPre.cons ?_ (DrawPre.cons ?_ (DrawPre.cons ?_ (DrawPre.cons ?_ (DrawPre.cons ?_ (DrawPre.cons ?_ (DrawPre.cons ?_ (DrawPre.cons ?_ (DrawPre.cons ?_ (DrawPre.cons ?_ (DrawPre.cons ?_ (DrawPre.cons ?_ (DrawPre.cons ?_ (DrawPre.cons ?_ (DrawPre.cons ?_ (DrawPre.cons ?_ (DrawPre.cons ?_ (DrawPre.cons ?_ (DrawPre.cons ?_ (DrawPre.cons ?_ (DrawPre.cons ?_ DrawPre.nil)))))))))))))))))))))))))))))) ?_
              ·
               intro D hn hd hcl hu hi
               refine TO.move rfl dc (dl_old (by rfl) rfl) ?_
               exact TX.quiet 0 hu hi rfl
              ·
               intro D hn hd hcl hu hi
               refine TO.move rfl dc (dl_old (by rfl) rfl) ?_
               exact TX.quiet 1 hu hi rfl
              ·
               intro D hn hd hcl hu hi
               refine TO.indexVecI (k := 3) hq8 Try.underlying39 sz_3 rfl dc (dl_lookup (m := 0) hu rfl (hd 0 dc)) (dl_lookup (m := 1) hu rfl (hd 1 dc)) rfl rfl ?_
               exact TX.quiet 2 hu hi rfl
              ·
               intro D hn hd hcl hu hi
               refine TO.loadVec (i := (from3 : Int).toNat) (j := 0) (k := 3) (q := q4) sc_3 encI_len rfl dc (dl_lookup (m := 2) hu rfl (hd 2 dc)) rfl (getO_get hq8) rfl dc rfl ?_
               exact TX.quiet 3 hu hi rfl
              ·
               intro D hn hd hcl hu hi
               refine TO.bin rfl dc (dl_lookup (m := 3) hu rfl (hd 3 dc)) rfl bin_lss (TO.rewH (show Value.bool (decide ((q4 : Int) < 0)) = Value.bool false from congrArg Value.bool hb6) ?_)
               exact TX.quiet 4 hu hi rfl
              ·
               intro D hn hd hcl hu hi
               refine TO.move rfl dc (dl_lookup (m := 4) hu rfl (hd 4 dc)) ?_
               exact TX.quiet 5 hu hi rfl
              ·
               intro D hn hd hcl hu hi
               refine TO.move (gd_T rfl (dl_lookup (m := 5) hu rfl (hd 5 dc))) dc (dl_old (by rfl) rfl) ?_
               exact TX.quiet 6 hu hi rfl
              ·
               intro D hn hd hcl hu hi
               refine TO.move (gd_T rfl (dl_lookup (m := 5) hu rfl (hd 5 dc))) dc (dl_old (by rfl) rfl) ?_
               exact TX.quiet 7 hu hi rfl
              ·
               intro D hn hd hcl hu hi
               refine TO.move (gd_T rfl (dl_lookup (m := 5) hu rfl (hd 5 dc))) dc (dl_old (by rfl) rfl) ?_
               exact TX.quiet 8 hu hi rfl
              ·
               intro D hn hd hcl hu hi
               refine TO.indexVecI (k := 2) hq13 Try.underlying39 sz_3 (gd_T rfl (dl_lookup (m := 5) hu rfl (hd 5 dc))) dc (dl_lookup (m := 7) hu rfl (hd 7 dc)) (dl_lookup (m := 8) hu rfl (hd 8 dc)) rfl rfl ?_
               exact TX.quiet 9 hu hi rfl
              ·
               intro D hn hd hcl hu hi
               refine TO.loadVec (i := (from3 : Int).toNat) (j := 0) (k := 2) (q := q9) sc_3 encI_len (gd_T rfl (dl_lookup (m := 5) hu rfl (hd 5 dc))) dc (dl_lookup (m := 9) hu rfl (hd 9 dc)) rfl (getO_get hq13) rfl dc rfl ?_
               exact TX.quiet 10 hu hi rfl
              ·
               intro D hn hd hcl hu hi
               refine TO.bin (gd_T rfl (dl_lookup (m := 5) hu rfl (hd 5 dc))) dc (dl_lookup (m := 6) hu rfl (hd 6 dc)) (dl_lookup (m := 10) hu rfl (hd 10 dc)) bin_lss (TO.rewH (show Value.bool (decide ((c1 : Int) < q9)) = Value.bool false from congrArg Value.bool hb7) ?_)
               exact TX.quiet 11 hu hi rfl
              ·
               intro D hn hd hcl hu hi
               refine TO.pick (b := false) rfl dc (dl_lookup (m := 5) hu rfl (hd 5 dc)) (dl_lookup (m := 11) hu rfl (hd 11 dc)) ?_
               exact TX.quiet 12 hu hi rfl
              ·
               intro D hn hd hcl hu hi
               refine TO.move rfl dc (dl_lookup (m := 12) hu rfl (hd 12 dc)) ?_
               exact TX.quiet 13 hu hi rfl
              ·
               intro D hn hd hcl hu hi
               refine TO.move (gd_T rfl (dl_lookup (m := 13) hu rfl (hd 13 dc))) dc (dl_old (by rfl) rfl) ?_
               exact TX.quiet 14 hu hi rfl
              ·
               intro D hn hd hcl hu hi
               refine TO.move (gd_T rfl (dl_lookup (m := 13) hu rfl (hd 13 dc))) dc (dl_old (by rfl) rfl) ?_
               exact TX.quiet 15 hu hi rfl
              ·
               intro D hn hd hcl hu hi
               refine TO.move (gd_T rfl (dl_lookup (m := 13) hu rfl (hd 13 dc))) dc (dl_old (by rfl) rfl) ?_
               exact TX.quiet 16 hu hi rfl
              ·
               intro D hn hd hcl hu hi
               refine TO.indexVecI (k := 2) hq13 Try.underlying39 sz_3 (gd_T rfl (dl_lookup (m := 13) hu rfl (hd 13 dc))) dc (dl_lookup (m := 15) hu rfl (hd 15 dc)) (dl_lookup (m := 16) hu rfl (hd 16 dc)) rfl rfl ?_
               exact TX.quiet 17 hu hi rfl
              ·
               intro D hn hd hcl hu hi
               refine TO.loadVec (i := (from3 : Int).toNat) (j := 0) (k := 2) (q := q9) sc_3 encI_len (gd_T rfl (dl_lookup (m := 13) hu rfl (hd 13 dc))) dc (dl_lookup (m := 17) hu rfl (hd 17 dc)) rfl (getO_get hq13) rfl dc rfl ?_
               exact TX.quiet 18 hu hi rfl
              ·
               intro D hn hd hcl hu hi
               refine TO.bin (gd_T rfl (dl_lookup (m := 13) hu rfl (hd 13 dc))) dc (dl_lookup (m := 14) hu rfl (hd 14 dc)) (dl_lookup (m := 18) hu rfl (hd 18 dc)) bin_eql (TO.rewH (show Value.bool ((c1 : Int) == q9) = Value.bool false from congrArg Value.bool hb8) ?_)
               exact TX.quiet 19 hu hi rfl
              ·
               intro D hn hd hcl hu hi
               refine TO.move (gd_T rfl (dl_lookup (m := 13) hu rfl (hd 13 dc))) dc (dl_lookup (m := 19) hu rfl (hd 19 dc)) ?_
               exact TX.quiet 20 hu hi rfl
              ·
               intro D hn hd hcl hu hi
               refine TO.skip (gd_F rfl (dl_lookup (m := 20) hu rfl (hd 20 dc))) dc ?_
               exact TX.quiet 21 hu hi rfl
              ·
               intro D hn hd hcl hu hi
               refine TO.skip (gd_F rfl (dl_lookup (m := 20) hu rfl (hd 20 dc))) dc ?_
               exact TX.quiet 22 hu hi rfl
              ·
               intro D hn hd hcl hu hi
               refine TO.skip (gd_F rfl (dl_lookup (m := 20) hu rfl (hd 20 dc))) dc ?_
               exact TX.quiet 23 hu hi rfl
              ·
               intro D hn hd hcl hu hi
               refine TO.skip (gd_F rfl (dl_lookup (m := 20) hu rfl (hd 20 dc))) dc ?_
               exact TX.quiet 24 hu hi rfl
              ·
               intro D hn hd hcl hu hi
               refine TO.skip (gd_F rfl (dl_lookup (m := 20) hu rfl (hd 20 dc))) dc ?_
               exact TX.quiet 25 hu hi rfl
              ·
               intro D hn hd hcl hu hi
               refine TO.skip (gd_F rfl (dl_lookup (m := 20) hu rfl (hd 20 dc))) dc ?_
               exact TX.quiet 26 hu hi rfl
              ·
               intro D hn hd hcl hu hi
               refine TO.skip (gd_F rfl (dl_lookup (m := 20) hu rfl (hd 20 dc))) dc ?_
               exact TX.quiet 27 hu hi rfl
              ·
               intro D hn hd hcl hu hi
               refine TO.skip (gd_F rfl (dl_lookup (m := 20) hu rfl (hd 20 dc))) dc ?_
               exact TX.quiet 28 hu hi rfl
              ·
               intro D hn hd hcl hu hi
               refine TO.skip (gd_F rfl (dl_lookup (m := 20) hu rfl (hd 20 dc))) dc ?_
               exact TX.quiet 29 hu hi rfl
              refine TO.skip rfl dc (TO.pick (b := false) rfl dc rfl rfl (TO.pick (b := false) rfl dc rfl rfl (TO.nil (TX.next (TC.condF rfl (TC.skip (TX.blockNormal ?_)))))))
              exact TX.meetD (cost8, rows7, next8) h rfl (Sbs.cons rfl (Sbs.cons rfl (Sbs.cons rfl (Sbs.cons rfl (Sbs.cons rfl (Sbs.cons rfl (Sbs.cons rfl (Sbs.cons rfl (Sbs.cons rfl (Sbs.cons rfl (Sbs.cons rfl (Sbs.nil)))))))))))) (Splits.of [0, 1, 2, 3, 4] kr rfl)
       ·
        rintro ⟨cost9, rows8, next9⟩ h
        rw [hj3] at h
        show TC _ _ _ _ _ ([]) _ _ [(0, .string s1), (1, .int .i64 indent1), (5, .pointer (some ⟨b1, 0, none⟩)), (8, v4), (9, .int .i64 (r1.length : Int)), (10, v5), (11, v6), (12, v7), (13, .int .i64 from3), (14, .int .i64 r2), (15, .int .i64 to3)] [cells b1 [.int .i64 l1.Width, .int .i64 l1.Height, .int .i64 l1.Turn, .int .i64 l1.Every] 23, vec enc_Gapi_Cell 52 3 v4 r1, vec (encI (.i64)) 3 1 v5 cost9, vec (encI (.i64)) 3 1 v6 rows8, vec (encI (.i64)) 3 1 v7 next9]
        refine TC.region (TO.move rfl dc rfl ?_)
        obtain ⟨hg15, h⟩ := grdE h
        refine TO.bin rfl dc rfl rfl (bin_sub (r := to3 - 1) (IntWalk.i64_in _ hg15)) (TO.assign rfl dc rfl (TO.nil ?_))
        subst hag2
        exact TX.againD (n3, cost9, rows8, next9, to3 - 1) h (Nat.lt_succ_self _) rfl (Sbs.cons rfl (Sbs.cons rfl (Sbs.cons rfl (Sbs.cons rfl (Sbs.cons rfl (Sbs.cons rfl (Sbs.cons rfl (Sbs.cons rfl (Sbs.cons rfl (Sbs.cons rfl (Sbs.cons rfl (Sbs.nil)))))))))))) (Splits.of [0, 1, 2, 3, 4] kr rfl)
      ·
       have h := condF hb2 h
       refine TC.exit (TX.thenExit (TX.thenExit (TX.blockHere (TX.blockNormal ?_))))
       exact TX.meetD (cost8, rows7, next8) h rfl (Sbs.cons rfl (Sbs.cons rfl (Sbs.cons rfl (Sbs.cons rfl (Sbs.cons rfl (Sbs.cons rfl (Sbs.cons rfl (Sbs.cons rfl (Sbs.cons rfl (Sbs.nil)))))))))) (Splits.of [0, 1, 2, 3, 4] kr rfl)
    ·
     rintro ⟨cost5, rows4, next5⟩ h
     rw [hj2] at h
     show TC _ _ _ _ _ ([]) _ _ [(0, .string s1), (1, .int .i64 indent1), (5, .pointer (some ⟨b1, 0, none⟩)), (8, v4), (9, .int .i64 (r1.length : Int)), (10, v5), (11, v6), (12, v7), (13, .int .i64 from3)] [cells b1 [.int .i64 l1.Width, .int .i64 l1.Height, .int .i64 l1.Turn, .int .i64 l1.Every] 23, vec enc_Gapi_Cell 52 3 v4 r1, vec (encI (.i64)) 3 1 v5 cost5, vec (encI (.i64)) 3 1 v6 rows4, vec (encI (.i64)) 3 1 v7 next5]
     refine TC.region (TO.move rfl dc rfl ?_)
     obtain ⟨hg16, h⟩ := grdE h
     refine TO.bin rfl dc rfl rfl (bin_sub (r := from3 - 1) (IntWalk.i64_in _ hg16)) (TO.assign rfl dc rfl (TO.nil ?_))
     subst hag1
     exact TX.againD (n2, cost5, rows4, next5, from3 - 1) h (Nat.lt_succ_self _) rfl (Sbs.cons rfl (Sbs.cons rfl (Sbs.cons rfl (Sbs.cons rfl (Sbs.cons rfl (Sbs.cons rfl (Sbs.cons rfl (Sbs.cons rfl (Sbs.cons rfl (Sbs.nil)))))))))) (Splits.of [0, 1, 2, 3, 4] kr rfl)
   ·
    have h := condF hb1 h
    refine TC.exit (TX.thenExit (TX.thenExit (TX.blockHere ?_)))
    exact TX.meetD (r1, (r1.length : Int), cost4, next4, v4, v5, v7) h rfl (Sbs.cons rfl (Sbs.cons rfl (Sbs.cons rfl (Sbs.cons rfl (Sbs.cons rfl (Sbs.nil)))))) (Splits.of [1, 2, 4] kr rfl)
 ·
  rintro ⟨cells1, n1, cost1, next1, v1, v2, v3⟩ h
  rw [hj1] at h
  show TC _ _ _ _ _ ([]) _ _ [(0, .string s1), (8, v1), (9, .int .i64 n1), (10, v2), (12, v3)] [vec enc_Gapi_Cell 52 3 v1 cells1, vec (encI (.i64)) 3 1 v2 cost1, vec (encI (.i64)) 3 1 v3 next1]
  obtain ⟨j5, hj5, h⟩ := joinE h
  refine TC.cutN (β := (List ByteArray) × Value) 2 rfl (fun b => j5 b.1 = some r) (fun b => []) (fun b => [(10, v2), (18, b.2)]) (fun b => [vec (encI (.i64)) 3 1 v2 cost1, vec encS 9 1 b.2 b.1]) (fun cut => ?_) ?_
  ·
   refine TC.seq (TC.region (TO.assign rfl dc rfl (TO.nil (TX.next (TC.seq (TC.region (TO.assign rfl dc rfl (TO.nil (TX.next (cut (TC.block (TC.newVec (enc := encS) (e := 9) (size := 1) ?_))))))))))))
   show TC _ _ _ _ _ _ _ _ _ [vec enc_Gapi_Cell 52 3 v1 cells1, vec (encI (.i64)) 3 1 v2 cost1, vec (encI (.i64)) 3 1 v3 next1, vec encS 9 1 (.slice none 0 0) ([] : List ByteArray)]
   refine TC.loopD (β := Nat × (List ByteArray) × Int × Value) (fun b => loopG (fun _ _ => none) (ref30_Turn_s3 s1 cells1 n1 next1 j5) b.1 b.2.1 b.2.2.1 = some r) (fun b => []) (fun b => [(0, .string s1), (8, v1), (9, .int .i64 n1), (10, v2), (12, v3), (18, b.2.2.2), (19, .int .i64 b.2.2.1)]) (fun b => [vec enc_Gapi_Cell 52 3 v1 cells1, vec (encI (.i64)) 3 1 v2 cost1, vec (encI (.i64)) 3 1 v3 next1, vec encS 9 1 b.2.2.2 b.2.1]) (fun b => b.1) (fuel, ([] : List ByteArray), 0, (.slice none 0 0)) h rfl (Sbs.cons rfl (Sbs.cons rfl (Sbs.cons rfl (Sbs.cons rfl (Sbs.cons rfl (Sbs.cons rfl (Sbs.cons rfl (Sbs.nil)))))))) (Splits.of [0, 1, 2, 3] kr rfl) ?_
   rintro ⟨n4, out4, from6, v13⟩ h
   cases n4 with
   | zero => exact noneE h
   | succ n4 =>
    obtain ⟨ag3, hag3⟩ : ∃ ag, ag = loopG (fun _ _ => none) (ref30_Turn_s3 s1 cells1 n1 next1 j5) n4 := ⟨_, rfl⟩
    have h : ref30_Turn_s3 s1 cells1 n1 next1 j5 ag3 out4 from6 = some r := by rw [hag3]; exact h
    unfold ref30_Turn_s3 at h
    show TC _ _ _ _ _ ([]) _ _ [(0, .string s1), (8, v1), (9, .int .i64 n1), (10, v2), (12, v3), (18, v13), (19, .int .i64 from6)] [vec enc_Gapi_Cell 52 3 v1 cells1, vec (encI (.i64)) 3 1 v2 cost1, vec (encI (.i64)) 3 1 v3 next1, vec encS 9 1 v13 out4]
    refine TC.seq (TC.seq (TC.region (TO.move rfl dc rfl (TO.move rfl dc rfl (TO.bin rfl dc rfl rfl bin_lss (TO.nil (TX.next ?_)))))))
    refine TC.condB rfl (fun hb10 => ?_) (fun hb10 => ?_)
    ·
     have h := condT hb10 h
     refine TC.skip (TX.next (TC.block (TC.seq (TC.region (TO.move rfl dc rfl (TO.move rfl dc rfl ?_))))))
     obtain ⟨q19, hq23, h⟩ := andE h
     refine TO.indexVecI (k := 2) hq23 Try.underlying39 sz_3 rfl dc rfl rfl rfl rfl (TO.loadVec (i := (from6 : Int).toNat) (j := 0) (k := 2) (q := q19) sc_3 encI_len rfl dc rfl rfl (getO_get hq23) rfl dc rfl (TO.assign rfl dc rfl (TO.nil (TX.next (TC.seq ?_)))))
     obtain ⟨q20, hq24, h⟩ := andE h
     obtain ⟨hg17, h⟩ := grdE h
     obtain ⟨q21, hq25, h⟩ := andE h
     obtain ⟨hg18, h⟩ := grdE h
     obtain ⟨hg19, h⟩ := grdE h
     refine TC.drawB (β := Nat) 17 16 _ [(0, 144, v13), (1, 145, .string s1), (2, 146, v1), (3, 147, .int .i64 from6), (4, 148, .pointer (some ⟨vblk v1, (from6 : Int).toNat * 3, none⟩)), (5, 149, .pointer (some ⟨vblk v1, ((from6 : Int).toNat) * 3, none⟩)), (6, 150, .pointer (some ⟨vblk v1, ((from6 : Int).toNat) * 3, none⟩)), (7, 151, .int .i64 q20.Span_From), (8, 152, v1), (9, 153, .int .i64 q19), (10, 154, .int .i64 (q19 - 1)), (11, 155, .pointer (some ⟨vblk v1, (q19 - 1 : Int).toNat * 3, none⟩)), (12, 156, .pointer (some ⟨vblk v1, ((q19 - 1 : Int).toNat) * 3, none⟩)), (13, 157, .pointer (some ⟨vblk v1, ((q19 - 1 : Int).toNat) * 3 + 1, none⟩)), (14, 158, .int .i64 q21.Span_To), (15, 159, .string (cutB s1 q20.Span_From q21.Span_To))] (fun b2 => [(160, .slice (some ⟨b2, 0, none⟩) 1 1)]) (fun b2 => [vec enc_Gapi_Cell 52 3 v1 cells1, vec (encI (.i64)) 3 1 v2 cost1, vec (encI (.i64)) 3 1 v3 next1, vec encS 9 1 v13 out4, cells b2 [.string (cutB s1 q20.Span_From q21.Span_To)] 9]) mixed kr kr rfl dc dc (by rfl) kr kr (DrawPreX.cons ?_ (DrawPreX.cons ?_ (DrawPreX.cons ?_ (DrawPreX.cons ?_ (DrawPreX.cons ?_ (DrawPreX.cons ?_ (DrawPreX.cons ?_ (DrawPreX.cons ?_ (DrawPreX.cons ?_ (DrawPreX.cons ?_ (DrawPreX.cons ?_ (DrawPreX.cons ?_ (DrawPreX.cons ?_ (DrawPreX.cons ?_ (DrawPreX.cons ?_ (DrawPreX.cons ?_ (DrawPreX.here DrawPreX.nil))))))))))))))))) (fun b2 => (DrawPreX.cons ?_ (DrawPreX.cons ?_ (DrawPreX.cons ?_ (DrawPreX.cons ?_ (DrawPreX.cons ?_ (DrawPreX.cons ?_ (DrawPreX.cons ?_ (DrawPreX.cons ?_ (DrawPreX.cons ?_ (DrawPreX.cons ?_ (DrawPreX.cons ?_ (DrawPreX.cons ?_ (DrawPreX.cons ?_ (DrawPreX.cons ?_ (DrawPreX.cons ?_ (DrawPreX.cons ?_ (DrawPreX.here DrawPreX.nil)))))))))))))))))) ?_ ?_
     ·
      intro D hn hd hcl hu hi
      refine TO.move rfl dc (dl_old (by rfl) rfl) ?_
      exact TX.quiet 0 hu hi rfl
     ·
      intro D hn hd hcl hu hi
      refine TO.move rfl dc (dl_old (by rfl) rfl) ?_
      exact TX.quiet 1 hu hi rfl
     ·
      intro D hn hd hcl hu hi
      refine TO.move rfl dc (dl_old (by rfl) rfl) ?_
      exact TX.quiet 2 hu hi rfl
     ·
      intro D hn hd hcl hu hi
      refine TO.move rfl dc (dl_old (by rfl) rfl) ?_
      exact TX.quiet 3 hu hi rfl
     ·
      intro D hn hd hcl hu hi
      refine TO.indexVecI (k := 0) hq24 Try.underlying44 sz_52 rfl dc (dl_lookup (m := 2) hu rfl (hd 2 dc)) (dl_lookup (m := 3) hu rfl (hd 3 dc)) rfl rfl ?_
      exact TX.quiet 4 hu hi rfl
     ·
      intro D hn hd hcl hu hi
      refine TO.fieldAddr fl_52_0 rfl dc (dl_lookup (m := 4) hu rfl (hd 4 dc)) (show _ = ((from6 : Int).toNat) * 3 from rfl) ?_
      exact TX.quiet 5 hu hi rfl
     ·
      intro D hn hd hcl hu hi
      refine TO.fieldAddr fl_50_0 rfl dc (dl_lookup (m := 5) hu rfl (hd 5 dc)) (show _ = ((from6 : Int).toNat) * 3 from rfl) ?_
      exact TX.quiet 6 hu hi rfl
     ·
      intro D hn hd hcl hu hi
      refine TO.loadVec (i := (from6 : Int).toNat) (j := 0) (k := 0) (q := q20) sc_3 enc_Gapi_Cell_len rfl dc (dl_lookup (m := 6) hu rfl (hd 6 dc)) rfl (getO_get hq24) rfl dc rfl ?_
      exact TX.quiet 7 hu hi rfl
     ·
      intro D hn hd hcl hu hi
      refine TO.move rfl dc (dl_old (by rfl) rfl) ?_
      exact TX.quiet 8 hu hi rfl
     ·
      intro D hn hd hcl hu hi
      refine TO.move rfl dc (dl_old (by rfl) rfl) ?_
      exact TX.quiet 9 hu hi rfl
     ·
      intro D hn hd hcl hu hi
      refine TO.bin rfl dc (dl_lookup (m := 9) hu rfl (hd 9 dc)) rfl (bin_sub (r := q19 - 1) (IntWalk.i64_in _ hg17)) ?_
      exact TX.quiet 10 hu hi rfl
     ·
      intro D hn hd hcl hu hi
      refine TO.indexVecI (k := 0) hq25 Try.underlying44 sz_52 rfl dc (dl_lookup (m := 8) hu rfl (hd 8 dc)) (dl_lookup (m := 10) hu rfl (hd 10 dc)) rfl rfl ?_
      exact TX.quiet 11 hu hi rfl
     ·
      intro D hn hd hcl hu hi
      refine TO.fieldAddr fl_52_0 rfl dc (dl_lookup (m := 11) hu rfl (hd 11 dc)) (show _ = ((q19 - 1 : Int).toNat) * 3 from rfl) ?_
      exact TX.quiet 12 hu hi rfl
     ·
      intro D hn hd hcl hu hi
      refine TO.fieldAddr fl_50_1 rfl dc (dl_lookup (m := 12) hu rfl (hd 12 dc)) (show _ = ((q19 - 1 : Int).toNat) * 3 + 1 from rfl) ?_
      exact TX.quiet 13 hu hi rfl
     ·
      intro D hn hd hcl hu hi
      refine TO.loadVec (i := (q19 - 1 : Int).toNat) (j := 1) (k := 0) (q := q21) sc_3 enc_Gapi_Cell_len rfl dc (dl_lookup (m := 13) hu rfl (hd 13 dc)) rfl (getO_get hq25) rfl dc rfl ?_
      exact TX.quiet 14 hu hi rfl
     ·
      intro D hn hd hcl hu hi
      refine TO.slice rfl dc (dl_lookup (m := 1) hu rfl (hd 1 dc)) (evO.some (dl_lookup (m := 7) hu rfl (hd 7 dc))) (evO.some (dl_lookup (m := 14) hu rfl (hd 14 dc))) (slice_stringI (i := q20.Span_From) (j := q21.Span_To) Try.underlying9 (.inr rfl) (.inr rfl) hg18) ?_
      exact TX.quiet 15 hu hi rfl
     ·
      intro D hn hd hcl hu hi
      refine TO.move rfl dc (dl_old (by rfl) rfl) ?_
      exact TX.quiet 0 hu hi rfl
     ·
      intro D hn hd hcl hu hi
      refine TO.move rfl dc (dl_old (by rfl) rfl) ?_
      exact TX.quiet 1 hu hi rfl
     ·
      intro D hn hd hcl hu hi
      refine TO.move rfl dc (dl_old (by rfl) rfl) ?_
      exact TX.quiet 2 hu hi rfl
     ·
      intro D hn hd hcl hu hi
      refine TO.move rfl dc (dl_old (by rfl) rfl) ?_
      exact TX.quiet 3 hu hi rfl
     ·
      intro D hn hd hcl hu hi
      refine TO.indexVecI (k := 0) hq24 Try.underlying44 sz_52 rfl dc (dl_lookup (m := 2) hu rfl (hd 2 dc)) (dl_lookup (m := 3) hu rfl (hd 3 dc)) rfl rfl ?_
      exact TX.quiet 4 hu hi rfl
     ·
      intro D hn hd hcl hu hi
      refine TO.fieldAddr fl_52_0 rfl dc (dl_lookup (m := 4) hu rfl (hd 4 dc)) (show _ = ((from6 : Int).toNat) * 3 from rfl) ?_
      exact TX.quiet 5 hu hi rfl
     ·
      intro D hn hd hcl hu hi
      refine TO.fieldAddr fl_50_0 rfl dc (dl_lookup (m := 5) hu rfl (hd 5 dc)) (show _ = ((from6 : Int).toNat) * 3 from rfl) ?_
      exact TX.quiet 6 hu hi rfl
     ·
      intro D hn hd hcl hu hi
      refine TO.loadVec (i := (from6 : Int).toNat) (j := 0) (k := 0) (q := q20) sc_3 enc_Gapi_Cell_len rfl dc (dl_lookup (m := 6) hu rfl (hd 6 dc)) rfl (getO_get hq24) rfl dc rfl ?_
      exact TX.quiet 7 hu hi rfl
     ·
      intro D hn hd hcl hu hi
      refine TO.move rfl dc (dl_old (by rfl) rfl) ?_
      exact TX.quiet 8 hu hi rfl
     ·
      intro D hn hd hcl hu hi
      refine TO.move rfl dc (dl_old (by rfl) rfl) ?_
      exact TX.quiet 9 hu hi rfl
     ·
      intro D hn hd hcl hu hi
      refine TO.bin rfl dc (dl_lookup (m := 9) hu rfl (hd 9 dc)) rfl (bin_sub (r := q19 - 1) (IntWalk.i64_in _ hg17)) ?_
      exact TX.quiet 10 hu hi rfl
     ·
      intro D hn hd hcl hu hi
      refine TO.indexVecI (k := 0) hq25 Try.underlying44 sz_52 rfl dc (dl_lookup (m := 8) hu rfl (hd 8 dc)) (dl_lookup (m := 10) hu rfl (hd 10 dc)) rfl rfl ?_
      exact TX.quiet 11 hu hi rfl
     ·
      intro D hn hd hcl hu hi
      refine TO.fieldAddr fl_52_0 rfl dc (dl_lookup (m := 11) hu rfl (hd 11 dc)) (show _ = ((q19 - 1 : Int).toNat) * 3 from rfl) ?_
      exact TX.quiet 12 hu hi rfl
     ·
      intro D hn hd hcl hu hi
      refine TO.fieldAddr fl_50_1 rfl dc (dl_lookup (m := 12) hu rfl (hd 12 dc)) (show _ = ((q19 - 1 : Int).toNat) * 3 + 1 from rfl) ?_
      exact TX.quiet 13 hu hi rfl
     ·
      intro D hn hd hcl hu hi
      refine TO.loadVec (i := (q19 - 1 : Int).toNat) (j := 1) (k := 0) (q := q21) sc_3 enc_Gapi_Cell_len rfl dc (dl_lookup (m := 13) hu rfl (hd 13 dc)) rfl (getO_get hq25) rfl dc rfl ?_
      exact TX.quiet 14 hu hi rfl
     ·
      intro D hn hd hcl hu hi
      refine TO.slice rfl dc (dl_lookup (m := 1) hu rfl (hd 1 dc)) (evO.some (dl_lookup (m := 7) hu rfl (hd 7 dc))) (evO.some (dl_lookup (m := 14) hu rfl (hd 14 dc))) (slice_stringI (i := q20.Span_From) (j := q21.Span_To) Try.underlying9 (.inr rfl) (.inr rfl) hg18) ?_
      exact TX.quiet 15 hu hi rfl
     ·
      intro D hn hd hcl
      refine TO.buildSlice (cs := [.string (cutB s1 q20.Span_From q21.Span_To)]) (te := 9) (ps := [(0, .tmp 159)]) rfl dc (evP.cons (dl_lookup (m := 15) kr rfl (hd 15 dc)) evP.nil) (fun _ => by kernel_rfl) (fun b2 => ?_)
      exact fun a w ha hw => ⟨b2, Sbs.mid (by rfl) _ _ _ ha, hw⟩
     intro b2
     show TO _ _ _ _ _ _ _ _ _ _ [vec enc_Gapi_Cell 52 3 v1 cells1, vec (encI (.i64)) 3 1 v2 cost1, vec (encI (.i64)) 3 1 v3 next1, vec encS 9 1 v13 out4, cells b2 [.string (cutB s1 q20.Span_From q21.Span_To)] 9]
     refine TO.appendVec (k := 3) (k2 := 4) (ys := [cutB s1 q20.Span_From q21.Span_To]) Try.underlying25 el_9 encS_len encS_one rfl dc rfl rfl rfl rfl rfl rfl hg19 (fun v14 => ?_)
     refine TO.assign rfl dc rfl (TO.nil (TX.next (TC.region (TO.move rfl dc rfl (TO.assign rfl dc rfl (TO.nil (TX.blockNormal ?_)))))))
     subst hag3
     exact TX.againD (n4, out4 ++ [cutB s1 q20.Span_From q21.Span_To], q19, v14) h (Nat.lt_succ_self _) rfl (Sbs.cons rfl (Sbs.cons rfl (Sbs.cons rfl (Sbs.cons rfl (Sbs.cons rfl (Sbs.cons rfl (Sbs.cons rfl (Sbs.nil)))))))) (Splits.of [0, 1, 2, 3] kr rfl)
    ·
     have h := condF hb10 h
     refine TC.exit (TX.thenExit (TX.thenExit (TX.blockHere ?_)))
     exact TX.meetD (out4, v13) h rfl (Sbs.cons rfl (Sbs.cons rfl (Sbs.nil))) (Splits.of [1, 3] kr rfl)
  ·
   rintro ⟨out1, v10⟩ h
   rw [hj5] at h
   show TC _ _ _ _ _ ([]) _ _ [(10, v2), (18, v10)] [vec (encI (.i64)) 3 1 v2 cost1, vec encS 9 1 v10 out1]
   refine TC.seq ?_
   obtain ⟨q22, hq26, h⟩ := andE h
   refine TC.drawN 5 [(0, 163, v10), (1, 164, v2), (2, 165, .pointer (some ⟨vblk v2, (0 : Int).toNat * 1, none⟩)), (3, 166, .int .i64 q22), (4, 6, v10)] mixed kr kr dc (by rfl) kr kr (DrawPre.cons ?_ (DrawPre.cons ?_ (DrawPre.cons ?_ (DrawPre.cons ?_ (DrawPre.cons ?_ DrawPre.nil))))) ?_
   ·
    intro D hn hd hcl hu hi
    refine TO.move rfl dc (dl_old (by rfl) rfl) ?_
    exact TX.quiet 0 hu hi rfl
   ·
    intro D hn hd hcl hu hi
    refine TO.move rfl dc (dl_old (by rfl) rfl) ?_
    exact TX.quiet 1 hu hi rfl
   ·
    intro D hn hd hcl hu hi
    refine TO.indexVecI (k := 0) hq26 Try.underlying39 sz_3 rfl dc (dl_lookup (m := 1) hu rfl (hd 1 dc)) rfl rfl rfl ?_
    exact TX.quiet 2 hu hi rfl
   ·
    intro D hn hd hcl hu hi
    refine TO.loadVec (i := (0 : Int).toNat) (j := 0) (k := 0) (q := q22) sc_3 encI_len rfl dc (dl_lookup (m := 2) hu rfl (hd 2 dc)) rfl (getO_get hq26) rfl dc rfl ?_
    exact TX.quiet 3 hu hi rfl
   ·
    intro D hn hd hcl hu hi
    refine TO.assign rfl dc (dl_lookup (m := 0) hu rfl (hd 0 dc)) ?_
    exact TX.quiet 4 hu hi rfl
   refine TO.assign rfl dc rfl (TO.nil (TX.next (TC.ret ?_)))
   cases h
   exact TX.fin (rs := [.tmp 6, .tmp 7]) v10 (.inl rfl) Try.results9 (.cons (.tmp rfl) (.cons (.tmp rfl) .nil)) rfl (Splits.of [1] kr rfl)
end Go.Proofs.Ytnhdnpdbmgeheaa
namespace Go.Proofs.Ytnhdnpdbmgeheaa
open Go.RowKit Go.Lib
set_option linter.unusedVariables false
set_option linter.unusedSimpArgs false
def law30_same_s1 (a1 : List ByteArray) (b1 : List ByteArray) (j1 : Option Bool) (ag1 : Int → Option Bool) (i3 : Int) : Option Bool := bcond (decide ((i3 : Int) < (a1.length : Int))) ( andThen (getO a1 i3) fun (q1 : ByteArray) => andThen (getO b1 i3) fun (q2 : ByteArray) => bcond (!decide (q1 = q2)) ( some false
) ( grd (I64 (i3 + 1)) <| ag1 (i3 + 1)
)
) ( j1
)
def law30_same_v (a1 : List ByteArray) (b1 : List ByteArray) : Option Bool := bcond (((a1.length : Int) : Int) != (b1.length : Int)) ( some false
) ( joinK (fun (j1 : Option Bool) => loopG (fun _ => none) (law30_same_s1 a1 b1 j1) fuel 0
) ( some true
)
)
set_option maxRecDepth 100000 in
set_option maxHeartbeats 4000000 in
theorem law30_same_fn {vva1 va1 : Value} {La1 : List ByteArray} {ka1 : Nat} {a1 : List ByteArray} (hwa1 : Vw vva1 La1 1 ka1 va1 a1) {vvb1 vb1 : Value} {Lb1 : List ByteArray} {kb1 : Nat} {b1 : List ByteArray} (hwb1 : Vw vvb1 Lb1 1 kb1 vb1 b1) {r : Bool} (h : law30_same_v a1 b1 = some r) : Fn Try.prog 10 [va1, vb1] [vec encS 9 1 vva1 La1, vec encS 9 1 vvb1 Lb1] (fun _b : Unit => .bool r) (fun _b => [vec encS 9 1 vva1 La1, vec encS 9 1 vvb1 Lb1]) := by
 unfold law30_same_v at h
 refine Fn.intro Try.func10 rfl Try.ntmps10 (by simp) ?_
 intro w0 K
 refine TC.seq (TC.region (TO.assign rfl dc rfl (TO.nil (TX.next (TC.seq (TC.seq (TC.region (TO.move rfl dc rfl (TO.lenVw hwa1 rfl dc rfl Try.underlying25 (TO.move rfl dc rfl (TO.lenVw hwb1 rfl dc rfl Try.underlying25 (TO.bin rfl dc rfl rfl bin_neq (TO.nil ?_)))))))))))))
 refine TX.next ?_
 refine TC.condB rfl (fun hb1 => ?_) (fun hb1 => ?_)
 ·
  have h := condT hb1 h
  refine TC.seq (TC.region (TO.assign rfl dc rfl (TO.nil (TX.next (TC.ret (TX.thenRet ?_))))))
  cases h
  exact TX.fin (rs := [.tmp 4]) () (.inl rfl) Try.results10 (.cons (.tmp rfl) .nil) rfl (Splits.of [0, 1] kr rfl)
 ·
  have h := condF hb1 h
  refine TC.skip (TX.next ?_)
  obtain ⟨j1, hj1, h⟩ := joinE h
  refine TC.cutN (β := Unit) 0 rfl (fun b => j1 = some r) (fun b => []) (fun b => []) (fun b => [vec encS 9 1 vvb1 Lb1, vec encS 9 1 vva1 La1]) (fun cut => ?_) ?_
  ·
   refine cut (TC.seq (TC.region (TO.assign rfl dc rfl (TO.nil (TX.next (TC.block ?_))))))
   refine TC.loopD (β := Nat × Int) (fun b => loopG (fun _ => none) (law30_same_s1 a1 b1 j1) b.1 b.2 = some r) (fun b => []) (fun b => [(0, va1), (1, vb1), (5, .int .i64 b.2)]) (fun b => [vec encS 9 1 vvb1 Lb1, vec encS 9 1 vva1 La1]) (fun b => b.1) (fuel, 0) h rfl (Sbs.cons rfl (Sbs.cons rfl (Sbs.cons rfl (Sbs.nil)))) (Splits.of [1, 0] kr rfl) ?_
   rintro ⟨n1, i3⟩ h
   cases n1 with
   | zero => exact noneE h
   | succ n1 =>
    obtain ⟨ag1, hag1⟩ : ∃ ag, ag = loopG (fun _ => none) (law30_same_s1 a1 b1 j1) n1 := ⟨_, rfl⟩
    have h : law30_same_s1 a1 b1 j1 ag1 i3 = some r := by rw [hag1]; exact h
    unfold law30_same_s1 at h
    show TC _ _ _ _ _ ([]) _ _ [(0, va1), (1, vb1), (5, .int .i64 i3)] [vec encS 9 1 vvb1 Lb1, vec encS 9 1 vva1 La1]
    refine TC.seq (TC.seq (TC.region (TO.move rfl dc rfl (TO.move rfl dc rfl (TO.lenVw hwa1 rfl dc rfl Try.underlying25 (TO.bin rfl dc rfl rfl bin_lss (TO.nil (TX.next ?_))))))))
    refine TC.condB rfl (fun hb2 => ?_) (fun hb2 => ?_)
    ·
     have h := condT hb2 h
     refine TC.skip (TX.next (TC.seq (TC.block (TC.seq ?_))))
     obtain ⟨q1, hq1, h⟩ := andE h
     obtain ⟨q2, hq2, h⟩ := andE h
     refine TC.drawN 8 [(0, 17, va1), (1, 18, .int .i64 i3), (2, 19, .pointer (some ⟨vblk vva1, (ka1 + (i3 : Int).toNat) * 1, none⟩)), (3, 20, .string q1), (4, 21, vb1), (5, 22, .int .i64 i3), (6, 23, .pointer (some ⟨vblk vvb1, (kb1 + (i3 : Int).toNat) * 1, none⟩)), (7, 24, .string q2)] mixed kr kr dc (by rfl) kr kr (DrawPre.cons ?_ (DrawPre.cons ?_ (DrawPre.cons ?_ (DrawPre.cons ?_ (DrawPre.cons ?_ (DrawPre.cons ?_ (DrawPre.cons ?_ (DrawPre.cons ?_ DrawPre.nil)))))))) ?_
     ·
      intro D hn hd hcl hu hi
      refine TO.move rfl dc (dl_old (by rfl) rfl) ?_
      exact TX.quiet 0 hu hi rfl
     ·
      intro D hn hd hcl hu hi
      refine TO.move rfl dc (dl_old (by rfl) rfl) ?_
      exact TX.quiet 1 hu hi rfl
     ·
      intro D hn hd hcl hu hi
      refine TO.indexVw hwa1 hq1 Try.underlying25 sz_9 rfl dc (dl_lookup (m := 0) hu rfl (hd 0 dc)) (dl_lookup (m := 1) hu rfl (hd 1 dc)) rfl ?_
      exact TX.quiet 2 hu hi rfl
     ·
      intro D hn hd hcl hu hi
      refine TO.loadVec (i := ka1 + (i3 : Int).toNat) (j := 0) (k := 1) (q := q1) sc_9 encS_len rfl dc (dl_lookup (m := 2) hu rfl (hd 2 dc)) rfl (Vw.get hwa1 hq1) rfl dc rfl ?_
      exact TX.quiet 3 hu hi rfl
     ·
      intro D hn hd hcl hu hi
      refine TO.move rfl dc (dl_old (by rfl) rfl) ?_
      exact TX.quiet 4 hu hi rfl
     ·
      intro D hn hd hcl hu hi
      refine TO.move rfl dc (dl_old (by rfl) rfl) ?_
      exact TX.quiet 5 hu hi rfl
     ·
      intro D hn hd hcl hu hi
      refine TO.indexVw hwb1 hq2 Try.underlying25 sz_9 rfl dc (dl_lookup (m := 4) hu rfl (hd 4 dc)) (dl_lookup (m := 5) hu rfl (hd 5 dc)) rfl ?_
      exact TX.quiet 6 hu hi rfl
     ·
      intro D hn hd hcl hu hi
      refine TO.loadVec (i := kb1 + (i3 : Int).toNat) (j := 0) (k := 0) (q := q2) sc_9 encS_len rfl dc (dl_lookup (m := 6) hu rfl (hd 6 dc)) rfl (Vw.get hwb1 hq2) rfl dc rfl ?_
      exact TX.quiet 7 hu hi rfl
     refine TO.bin rfl dc rfl rfl bin_sneq (TO.nil (TX.next ?_))
     refine TC.condB rfl (fun hb3 => ?_) (fun hb3 => ?_)
     ·
      have h := condT hb3 h
      refine TC.seq (TC.region (TO.assign rfl dc rfl (TO.nil (TX.next (TC.ret (TX.blockRet (TX.thenRet (TX.thenRet (TX.blockRet (TX.thenRet ?_))))))))))
      cases h
      exact TX.fin (rs := [.tmp 4]) () (.inl rfl) Try.results10 (.cons (.tmp rfl) .nil) rfl (Splits.of [1, 0] kr rfl)
     ·
      have h := condF hb3 h
      refine TC.skip (TX.blockNormal (TX.next (TC.region (TO.move rfl dc rfl ?_))))
      obtain ⟨hg1, h⟩ := grdE h
      refine TO.bin rfl dc rfl rfl (bin_add (r := i3 + 1) (IntWalk.i64_in _ hg1)) (TO.assign rfl dc rfl (TO.nil ?_))
      subst hag1
      exact TX.againD (n1, i3 + 1) h (Nat.lt_succ_self _) rfl (Sbs.cons rfl (Sbs.cons rfl (Sbs.cons rfl (Sbs.nil)))) (Splits.of [0, 1] kr rfl)
    ·
     have h := condF hb2 h
     refine TC.exit (TX.thenExit (TX.thenExit (TX.blockHere ?_)))
     exact TX.meetD () h rfl (Sbs.nil) (Splits.of [0, 1] kr rfl)
  ·
   rintro _ h
   rw [hj1] at h
   show TC _ _ _ _ _ ([]) _ _ [] [vec encS 9 1 vvb1 Lb1, vec encS 9 1 vva1 La1]
   refine TC.seq (TC.region (TO.assign rfl dc rfl (TO.nil (TX.next (TC.ret ?_)))))
   cases h
   exact TX.fin (rs := [.tmp 4]) () (.inl rfl) Try.results10 (.cons (.tmp rfl) .nil) rfl (Splits.of [1, 0] kr rfl)
def law30_live_v  : Option Bool := andThen (page_Turn_v (⟨#[111, 110, 101, 32, 116, 119, 111, 32, 116, 104, 114, 101, 101]⟩ : ByteArray) 0 (⟨8, 4, 2, 0⟩ : Gapi_Layout)) fun (r1 : ((List ByteArray) × Int × Int)) => bcond (((r1.1.length : Int) : Int) == 2) ( andThen (getO r1.1 0) fun (q1 : ByteArray) => bcond (decide (q1 = (⟨#[111, 110, 101, 32, 116, 119, 111, 32]⟩ : ByteArray))) ( bcond ((r1.2.1 : Int) == 1) ( some ((r1.2.2 : Int) == 0)
) ( some false
)
) ( some false
)
) ( some false
)
set_option maxRecDepth 100000 in
set_option maxHeartbeats 4000000 in
theorem law30_live_fn  {r : Bool} (h : law30_live_v = some r) : FnP Try.prog 6 [] (.bool r) := by
 unfold law30_live_v at h
 refine FnP.intro Try.func6 rfl Try.ntmps6 (by simp) ?_
 intro w0 K
 refine TC.seq (TC.region (TO.assign rfl dc rfl (TO.nil (TX.next (TC.seq (TC.region ?_))))))
 refine TO.build (v := .agg #[.int .i64 8, .int .i64 4, .int .i64 2, .int .i64 0]) (ps := [(0, .const (.int .i64 8)), (1, .const (.int .i64 4)), (2, .const (.int .i64 2))]) rfl dc rfl (fun _ => by kernel_rfl) ?_
 obtain ⟨r1, hq1, h⟩ := andE h
 refine TO.call (vs := [.string (⟨#[111, 110, 101, 32, 116, 119, 111, 32, 116, 104, 114, 101, 101]⟩ : ByteArray), .int .i64 0, .agg #[.int .i64 8, .int .i64 4, .int .i64 2, .int .i64 0]]) rfl dc rfl rfl rfl en_7 (page_Turn_fn (l1 := (⟨8, 4, 2, 0⟩ : Gapi_Layout)) hq1) Splits.nil ?_
 rintro v1
 show TO _ _ _ _ _ _ _ _ _ _ [vec encS 9 1 v1 r1.1]
 refine TO.move rfl dc rfl (TO.extract rfl dc rfl rfl (TO.extract rfl dc rfl rfl (TO.extract rfl dc rfl rfl (TO.assign rfl dc rfl (TO.assign rfl dc rfl (TO.assign rfl dc rfl (TO.nil (TX.next (TC.seq (TC.region (TO.move rfl dc rfl (TO.lenVec (k := 0) rfl dc rfl rfl Try.underlying25 (TO.bin rfl dc rfl rfl bin_eql ?_)))))))))))))
 refine TO.move rfl dc rfl ?_
 refine TO.split (s := 13) rfl (fun hb1 => ?_) (fun hb1 => ?_)
 ·
  have h := condT hb1 h
  refine TO.move rfl dc rfl ?_
  obtain ⟨q1, hq2, h⟩ := andE h
  refine TO.indexVecI (k := 0) hq2 Try.underlying25 sz_9 rfl dc rfl rfl rfl rfl (TO.loadVec (i := (0 : Int).toNat) (j := 0) (k := 0) (q := q1) sc_9 encS_len rfl dc rfl rfl (getO_get hq2) rfl dc rfl (TO.bin rfl dc rfl rfl bin_seql (TO.pick (b := true) rfl dc rfl rfl (TO.move rfl dc rfl ?_))))
  refine TO.split (s := 19) rfl (fun hb2 => ?_) (fun hb2 => ?_)
  ·
   have h := condT hb2 h
   refine TO.move rfl dc rfl (TO.bin rfl dc rfl rfl bin_eql (TO.pick (b := true) rfl dc rfl rfl (TO.move rfl dc rfl ?_)))
   refine TO.split (s := 23) rfl (fun hb3 => ?_) (fun hb3 => ?_)
   ·
    have h := condT hb3 h
    refine TO.move rfl dc rfl (TO.bin rfl dc rfl rfl bin_eql (TO.pick (b := true) rfl dc rfl rfl (TO.assign rfl dc rfl (TO.nil (TX.next (TC.ret ?_))))))
    cases h
    exact TX.fin (rs := [.tmp 0]) () (.inl rfl) Try.results6 (.cons (.tmp rfl) .nil) rfl Splits.nil
   ·
    have h := condF hb3 h
    refine TO.skip rfl dc (TO.skip rfl dc (TO.pick (b := false) rfl dc rfl rfl (TO.assign rfl dc rfl (TO.nil (TX.next (TC.ret ?_))))))
    cases h
    exact TX.fin (rs := [.tmp 0]) () (.inl rfl) Try.results6 (.cons (.tmp rfl) .nil) rfl Splits.nil
  ·
   have h := condF hb2 h
   refine TO.skip rfl dc (TO.skip rfl dc (TO.pick (b := false) rfl dc rfl rfl (TO.move rfl dc rfl (TO.skip rfl dc (TO.skip rfl dc (TO.pick (b := false) rfl dc rfl rfl (TO.assign rfl dc rfl (TO.nil (TX.next (TC.ret ?_))))))))))
   cases h
   exact TX.fin (rs := [.tmp 0]) () (.inl rfl) Try.results6 (.cons (.tmp rfl) .nil) rfl Splits.nil
 ·
  have h := condF hb1 h
  refine TO.skip rfl dc (TO.skip rfl dc (TO.skip rfl dc (TO.skip rfl dc (TO.pick (b := false) rfl dc rfl rfl (TO.move rfl dc rfl (TO.skip rfl dc (TO.skip rfl dc (TO.pick (b := false) rfl dc rfl rfl (TO.move rfl dc rfl (TO.skip rfl dc (TO.skip rfl dc (TO.pick (b := false) rfl dc rfl rfl (TO.assign rfl dc rfl ?_)))))))))))))
  refine TO.nil (TX.next (TC.ret ?_))
  cases h
  exact TX.fin (rs := [.tmp 0]) () (.inl rfl) Try.results6 (.cons (.tmp rfl) .nil) rfl Splits.nil
def law30_fine_v (n1 : Int) (indent1 : Int) (l1 : Gapi_Layout) : Option Bool := andThen (ref30_May_v l1) fun (r1 : Bool) => bcond (r1) ( bcond (decide ((0 : Int) ≤ indent1)) ( bcond (decide ((indent1 : Int) ≤ 1024)) ( some (decide ((n1 : Int) ≤ 1024))
) ( some false
)
) ( some false
)
) ( some false
)
set_option maxRecDepth 100000 in
set_option maxHeartbeats 4000000 in
theorem law30_fine_fn {n1 : Int} {indent1 : Int} {l1 : Gapi_Layout} {r : Bool} (h : law30_fine_v n1 indent1 l1 = some r) : FnP Try.prog 8 [.int .i64 n1, .int .i64 indent1, .agg #[.int .i64 l1.Width, .int .i64 l1.Height, .int .i64 l1.Turn, .int .i64 l1.Every]] (.bool r) := by
 unfold law30_fine_v at h
 refine FnP.intro Try.func8 rfl Try.ntmps8 (by simp) ?_
 intro w0 K
 refine TC.seq (TC.region ?_)
 refine TO.box rfl dc rfl (fun b1 => ?_)
 refine TO.assign rfl dc rfl (TO.nil (TX.next (TC.seq (TC.region (TO.loads (k := 0) (cs := [.int .i64 l1.Width, .int .i64 l1.Height, .int .i64 l1.Turn, .int .i64 l1.Every]) rw_23 rfl dc rfl rfl rfl rfl ?_)))))
 obtain ⟨r1, hq1, h⟩ := andE h
 refine TO.callP (v := .bool r1) (vs := [.agg #[.int .i64 l1.Width, .int .i64 l1.Height, .int .i64 l1.Turn, .int .i64 l1.Every]]) rfl dc rfl rfl rfl en_15 (ref30_May_fn (l1 := l1) hq1) (TO.move rfl dc rfl ?_)
 refine TO.split (s := 9) rfl (fun hb1 => ?_) (fun hb1 => ?_)
 ·
  have h := condT hb1 h
  refine TO.move rfl dc rfl (TO.bin rfl dc rfl rfl bin_geq (TO.pick (b := true) rfl dc rfl rfl (TO.move rfl dc rfl ?_)))
  refine TO.split (s := 13) rfl (fun hb2 => ?_) (fun hb2 => ?_)
  ·
   have h := condT hb2 h
   refine TO.move rfl dc rfl (TO.bin rfl dc rfl rfl bin_leq (TO.pick (b := true) rfl dc rfl rfl (TO.move rfl dc rfl ?_)))
   refine TO.split (s := 17) rfl (fun hb3 => ?_) (fun hb3 => ?_)
   ·
    have h := condT hb3 h
    refine TO.move rfl dc rfl (TO.bin rfl dc rfl rfl bin_leq (TO.pick (b := true) rfl dc rfl rfl (TO.assign rfl dc rfl (TO.nil (TX.next (TC.ret ?_))))))
    cases h
    exact TX.fin (rs := [.tmp 6]) () (.inl rfl) Try.results8 (.cons (.tmp rfl) .nil) rfl Splits.nil
   ·
    have h := condF hb3 h
    refine TO.skip rfl dc (TO.skip rfl dc (TO.pick (b := false) rfl dc rfl rfl (TO.assign rfl dc rfl (TO.nil (TX.next (TC.ret ?_))))))
    cases h
    exact TX.fin (rs := [.tmp 6]) () (.inl rfl) Try.results8 (.cons (.tmp rfl) .nil) rfl Splits.nil
  ·
   have h := condF hb2 h
   refine TO.skip rfl dc (TO.skip rfl dc (TO.pick (b := false) rfl dc rfl rfl (TO.move rfl dc rfl (TO.skip rfl dc (TO.skip rfl dc (TO.pick (b := false) rfl dc rfl rfl (TO.assign rfl dc rfl (TO.nil (TX.next (TC.ret ?_))))))))))
   cases h
   exact TX.fin (rs := [.tmp 6]) () (.inl rfl) Try.results8 (.cons (.tmp rfl) .nil) rfl Splits.nil
 ·
  have h := condF hb1 h
  refine TO.skip rfl dc (TO.skip rfl dc (TO.pick (b := false) rfl dc rfl rfl (TO.move rfl dc rfl (TO.skip rfl dc (TO.skip rfl dc (TO.pick (b := false) rfl dc rfl rfl (TO.move rfl dc rfl (TO.skip rfl dc (TO.skip rfl dc (TO.pick (b := false) rfl dc rfl rfl (TO.assign rfl dc rfl (TO.nil (TX.next ?_)))))))))))))
  refine TC.ret ?_
  cases h
  exact TX.fin (rs := [.tmp 6]) () (.inl rfl) Try.results8 (.cons (.tmp rfl) .nil) rfl Splits.nil
end Go.Proofs.Ytnhdnpdbmgeheaa
namespace Go.Proofs.Ytnhdnpdbmgeheaa
open Go.RowKit Go.Lib
set_option linter.unusedVariables false
set_option linter.unusedSimpArgs false
def mayB (l : Gapi_Layout) : Bool := decide ((8 : Int) ≤ l.Width) && (decide ((l.Width : Int) ≤ 256) && (decide ((4 : Int) ≤ l.Height) && (decide ((l.Height : Int) ≤ 200) && (decide ((0 : Int) ≤ l.Turn) && (decide ((l.Turn : Int) ≤ 7) && (decide ((0 : Int) ≤ l.Every) && decide ((l.Every : Int) ≤ 512)))))))
theorem bcand (c d : Bool) (r : Option Bool) (h : r = some d) : bcond c r (some false) = some (c && d) := by
  cases c
  · rfl
  · exact h
theorem may_v (l : Gapi_Layout) : page_may_v l = some (mayB l) := by
  unfold page_may_v mayB
  exact bcand _ _ _ (bcand _ _ _ (bcand _ _ _ (bcand _ _ _ (bcand _ _ _ (bcand _ _ _ (bcand _ _ _ rfl))))))
theorem rmay_v (l : Gapi_Layout) : ref30_May_v l = some (mayB l) := by
  unfold ref30_May_v mayB
  exact bcand _ _ _ (bcand _ _ _ (bcand _ _ _ (bcand _ _ _ (bcand _ _ _ (bcand _ _ _ (bcand _ _ _ rfl))))))
theorem fine_v (n i : Int) (l : Gapi_Layout) : law30_fine_v n i l = some (mayB l && (decide ((0 : Int) ≤ i) && (decide ((i : Int) ≤ 1024) && decide ((n : Int) ≤ 1024)))) := by
  unfold law30_fine_v
  exact thenI (rmay_v l) (bcand _ _ _ (bcand _ _ _ (bcand _ _ _ rfl)))
theorem mayB_rng {l : Gapi_Layout} (h : mayB l = true) : (8 ≤ l.Width ∧ l.Width ≤ 256) ∧ 0 ≤ l.Turn ∧ l.Turn ≤ 7 := by
  unfold mayB at h
  simp only [Bool.and_eq_true, decide_eq_true_eq] at h
  omega
/-! ### The rows of a line -/
abbrev fstW (i : Int) (l : Gapi_Layout) : Int := max 1 (l.Width - i)
abbrev nxtW (l : Gapi_Layout) : Int := l.Width - l.Turn
theorem w_rng {i : Int} {l : Gapi_Layout} (hm : mayB l = true) (hi : 0 ≤ i ∧ i ≤ 1024) : I64 (l.Width - i) ∧ (0 ≤ fstW i l ∧ fstW i l ≤ 1000000) ∧ (0 ≤ nxtW l ∧ nxtW l ≤ 1000000) := by
  have := mayB_rng hm
  refine ⟨⟨by omega, by omega⟩, ?_, ?_⟩
  · show 0 ≤ max 1 (l.Width - i) ∧ max 1 (l.Width - i) ≤ 1000000
    omega
  · show 0 ≤ l.Width - l.Turn ∧ l.Width - l.Turn ≤ 1000000
    omega
abbrev rowsS (s : ByteArray) (i : Int) (l : Gapi_Layout) : List ByteArray := textsF s 0 (endsS s (fstW i l) (nxtW l))
theorem Turn_v (s : ByteArray) (i : Int) (l : Gapi_Layout) : page_Turn_v s i l = some (if mayB l = true ∧ 0 ≤ i ∧ i ≤ 1024 ∧ s.size ≤ 1024 then (rowsS s i l, (TT s (fstW i l) (nxtW l) 0).cost, 0) else ([], 0, 2)) := by
  unfold page_Turn_v
  refine thenI (may_v l) ?_
  cases hm : mayB l with
  | false => exact condTI rfl (by rw [if_neg (fun h => by cases h.1)])
  | true =>
    refine condFI rfl ?_
    by_cases h1 : i < 0
    · exact condTI (decide_eq_true h1) (by rw [if_neg (fun h => by omega)])
    refine condFI (decide_eq_false h1) ?_
    by_cases h2 : 1024 < i
    · exact condTI (decide_eq_true h2) (by rw [if_neg (fun h => by omega)])
    refine condFI (decide_eq_false h2) ?_
    by_cases h3 : (1024 : Int) < (s.size : Int)
    · exact condTI (decide_eq_true h3) (by rw [if_neg (fun h => by omega)])
    refine condFI (decide_eq_false h3) ?_
    obtain ⟨g1, g2, g3⟩ := w_rng hm (i := i) ⟨by omega, by omega⟩
    refine thenI (turn_v s (by omega) i l g1 g2 g3) ?_
    rw [if_pos ⟨rfl, by omega, by omega, by omega⟩]
/-! ### page.Cost -/
theorem sizL_app : ∀ A B : List ByteArray, sizL (A ++ B) = sizL A + sizL B
  | [], B => by show sizL B = 0 + sizL B; omega
  | x :: A, B => by show x.size + sizL (A ++ B) = x.size + sizL A + sizL B; rw [sizL_app A B]; omega
theorem cost_sz (L : List ByteArray) (hl : L.length ≤ 2147483648) (hb : ∀ x ∈ L, x.size ≤ 140737488355328) (j : Option (Int × Int)) : ∀ (ts pre : List ByteArray) (m : Nat), L = pre ++ ts → ts.length < m → sizL pre ≤ 1024 →
    loopG (fun _ _ => none) (page_Cost_s1 L j) m (sizL pre : Int) (pre.length : Int) = if sizL L ≤ 1024 then j else some (0, 2)
  | [], pre, m, h, hm, hp => by
    obtain ⟨m, rfl⟩ : ∃ q, m = q + 1 := ⟨m - 1, by simp at hm; omega⟩
    rw [List.append_nil] at h; subst h
    rw [loopI]
    generalize loopG (fun _ _ => none) (page_Cost_s1 L j) m = ag
    unfold page_Cost_s1
    rw [if_pos hp]
    exact condFI lp_ge rfl
  | t :: ts, pre, m, h, hm, hp => by
    obtain ⟨m, rfl⟩ : ∃ q, m = q + 1 := ⟨m - 1, by simp at hm; omega⟩
    have h1 : sizL (pre ++ [t]) = sizL pre + t.size := by rw [sizL_app]; show sizL pre + (t.size + 0) = _; omega
    have h2 : sizL L = sizL pre + (t.size + sizL ts) := by rw [h, sizL_app]; rfl
    have ih := fun q => cost_sz L hl hb j ts (pre ++ [t]) m (by rw [h]; simp) (by simp at hm; omega) q
    rw [loopI]
    generalize loopG (fun _ _ => none) (page_Cost_s1 L j) m = ag at ih ⊢
    have hg : L[pre.length]? = some t := by rw [h]; simp
    have hpl := lp_lt' hg
    have hbt := hb t (List.mem_of_getElem? hg)
    rw [h1, show (((pre ++ [t]).length : Nat) : Int) = (pre.length : Int) + 1 by simp] at ih
    unfold page_Cost_s1
    refine condTI (lp_lt hg) (thenI (lp_get hg) (grdI ⟨by omega, by omega⟩ ?_))
    by_cases hc : (1024 : Int) < (sizL pre : Int) + (t.size : Int)
    · refine condTI (decide_eq_true hc) ?_
      rw [if_neg (by omega)]
    · refine condFI (decide_eq_false hc) (grdI ⟨by omega, by omega⟩ ?_)
      rw [show (sizL pre : Int) + (t.size : Int) = ((sizL pre + t.size : Nat) : Int) by omega]
      exact ih (by omega)
def cOut : Option Int → Int × Int
  | none => (0, 2)
  | some c => (c, 0)
theorem Cost_v (L : List ByteArray) (hl : L.length ≤ 100000) (hb : ∀ x ∈ L, x.size ≤ 140737488355328) (i : Int) (l : Gapi_Layout) : page_Cost_v L i l = some (if mayB l = true ∧ 0 ≤ i ∧ i ≤ 1024 ∧ sizL L ≤ 1024 then cOut (costF (catL L) (fstW i l) (nxtW l) 0 L) else (0, 2)) := by
  unfold page_Cost_v
  have hz := fun j => cost_sz L (by omega) hb j L [] fuel rfl (by have := big_fuel (n := L.length) (by omega); omega) (Nat.zero_le _)
  refine joinI ((hz _).trans ?_)
  by_cases hs : sizL L ≤ 1024
  · rw [if_pos hs]
    refine thenI (may_v l) ?_
    cases hm : mayB l with
    | false => exact condTI rfl (by rw [if_neg (fun h => by cases h.1)])
    | true =>
      refine condFI rfl ?_
      by_cases h1 : i < 0
      · exact condTI (decide_eq_true h1) (by rw [if_neg (fun h => by omega)])
      refine condFI (decide_eq_false h1) ?_
      by_cases h2 : 1024 < i
      · exact condTI (decide_eq_true h2) (by rw [if_neg (fun h => by omega)])
      refine condFI (decide_eq_false h2) (joinI (thenI (join_v L (by omega) (by omega)) ?_))
      obtain ⟨g1, g2, g3⟩ := w_rng hm (i := i) ⟨by omega, by omega⟩
      have hcs := catL_size L
      have hmr := mayB_rng hm
      refine thenI (newTurner_v (catL L) (by omega) i l g1 ⟨by omega, by omega⟩) ?_
      have := cost_go (s := catL L) (a := fstW i l) (b := nxtW l) (by omega) g2 g3 L hl (fun (cost1 : Int) => some (cost1, 0)) L [] 0 fuel 0 rfl (Nat.zero_le _) (by have := big_fuel (n := L.length) (by omega); omega) ⟨Int.le_refl _, by simp⟩
      rw [if_pos ⟨rfl, by omega, by omega, hs⟩]
      refine this.trans ?_
      cases costF (catL L) (fstW i l) (nxtW l) 0 L with
      | none => rfl
      | some x => show some ((0 : Int) + x, (0 : Int)) = some (x, 0); rw [Int.zero_add]
  · rw [if_neg hs, if_neg (fun h => hs h.2.2.2)]
theorem live_v : law30_live_v = some true := by decide +kernel
end Go.Proofs.Ytnhdnpdbmgeheaa
namespace Go.Proofs.Ytnhdnpdbmgeheaa
open Go.RowKit Go.Lib
set_option linter.unusedVariables false
set_option linter.unusedSimpArgs false
/-! ### Pieces, reference 02 -/
def p2 (p : Pc) : Gref02_Piece := ⟨p.i, p.w, p.r⟩
def p2z (p : Pc) : Gref02_Piece := ⟨p.i, 0, p.r⟩
theorem pcs_next (l : List UInt8) (P : List Pc) (x : Pc) (B : List Pc) (h : pcs l = P ++ x :: B) : (B = [] → x.i + x.w = l.length) ∧ ∀ y B', B = y :: B' → y.i = x.i + x.w := by
  obtain ⟨h1, h2, h3, h4⟩ := pcs_split l P x B h
  constructor
  · intro e
    rw [e] at h4
    by_cases hl : l.drop (x.i + x.w) = []
    · have := congrArg List.length hl
      rw [List.length_drop] at this
      simp at this; omega
    · rw [pcsFrom_cons _ _ hl] at h4; cases h4
  · intro y B' e
    rw [e] at h4
    by_cases hl : l.drop (x.i + x.w) = []
    · rw [hl, pcsFrom_nil] at h4; cases h4
    · rw [pcsFrom_cons _ _ hl] at h4
      have := (List.cons.inj h4).1
      rw [this]
theorem set_last {α : Type} (A : List α) (x y : α) : (A ++ [x]).set (((A ++ [x]).length : Int) - 1 : Int).toNat y = A ++ [y] := by
  rw [show (((A ++ [x]).length : Int) - 1 : Int).toNat = A.length by rw [List.length_append]; simp, List.set_append_right _ _ (Nat.le_refl _), Nat.sub_self]; rfl
theorem get_last {α : Type} (A : List α) (x : α) : getO (A ++ [x]) (((A ++ [x]).length : Int) - 1) = some x :=
  getO_of (n := A.length) (by rw [List.length_append]; simp) (by simp)
theorem r2_go (s : ByteArray) (hs : s.size ≤ 2147483647) (j : List Gref02_Piece → Option (List Gref02_Piece)) (hj : ∀ Q q, pcs s.data.toList = Q ++ [q] → j (Q.map p2 ++ [p2z q]) = some ((pcs s.data.toList).map p2)) :
    ∀ (ts Q : List Pc) (q : Pc) (m : Nat), pcs s.data.toList = Q ++ q :: ts → ts.length < m → loopG (fun _ _ => none) (ref02_Pieces_s1 s j) m (Q.map p2 ++ [p2z q]) (Q.length + 1) = some ((pcs s.data.toList).map p2)
  | [], Q, q, m, h, hm => by
    obtain ⟨m, rfl⟩ : ∃ k, m = k + 1 := ⟨m - 1, by simp at hm; omega⟩
    rw [loopI]
    generalize loopG (fun _ _ => none) (ref02_Pieces_s1 s j) m = ag
    unfold ref02_Pieces_s1
    exact condFI (decide_eq_false (by rw [h]; simp)) (hj Q q h)
  | t :: ts, Q, q, m, h, hm => by
    obtain ⟨m, rfl⟩ : ∃ k, m = k + 1 := ⟨m - 1, by simp at hm; omega⟩
    have ih := r2_go s hs j hj ts (Q ++ [q]) t m (by rw [h]; simp) (by simp at hm; omega)
    rw [loopI]
    generalize loopG (fun _ _ => none) (ref02_Pieces_s1 s j) m = ag at ih ⊢
    have hn := (pcs_next _ _ _ _ h).2 t ts rfl
    have hq := pcs_pos s.data.toList q (by rw [h]; simp)
    have ht := pcs_pos s.data.toList t (by rw [h]; simp)
    have hc := pcs_count s.data.toList (Q ++ [q]).length (Q ++ [q]) t ts (Nat.le_refl _) (by rw [h]; simp)
    have hsz := size_listP s
    have hx : (pcs s.data.toList)[Q.length + 1]? = some t := by rw [h]; simp
    unfold ref02_Pieces_s1
    refine condTI (decide_eq_true ((List.getElem?_eq_some_iff.1 hx).1)) (thenI hx (joinI (condTI (decide_eq_true (by rw [List.length_append]; simp)) ?_)))
    have hl : (((Q.map p2 ++ [p2z q]).length : Nat) : Int) = (Q.length : Int) + 1 := by simp
    rw [List.length_append] at hc
    simp only [List.length_cons, List.length_nil] at hc
    refine grdI ⟨by omega, by omega⟩ (grdI ⟨by omega, by omega⟩ (thenI (get_last _ _) (grdI ⟨?_, ?_⟩ ?_)))
    · show -9223372036854775808 ≤ (t.i : Int) - (q.i : Int); omega
    · show (t.i : Int) - (q.i : Int) ≤ 9223372036854775807; omega
    · rw [set_last]
      have e : (⟨(p2z q).At, (t.i : Int) - (p2z q).At, (p2z q).Rune⟩ : Gref02_Piece) = p2 q := by
        show (⟨(q.i : Int), (t.i : Int) - (q.i : Int), (q.r : Int)⟩ : Gref02_Piece) = ⟨q.i, q.w, q.r⟩
        rw [hn, show ((q.i + q.w : Nat) : Int) - (q.i : Int) = (q.w : Int) by omega]
      rw [e]
      have hm2 : Q.map p2 ++ [p2 q] = (Q ++ [q]).map p2 := by simp
      rw [hm2]
      refine grdI (by rw [List.length_map, List.length_append]; show Q.length + 1 + 1 ≤ _; omega) ?_
      rw [show (Q ++ [q]).length = Q.length + 1 by simp] at ih
      exact ih
def r2J (s : ByteArray) : List Gref02_Piece → Option (List Gref02_Piece) := fun (l1 : List Gref02_Piece) => joinK (fun (j3 : (List Gref02_Piece) → Option (List Gref02_Piece)) => bcond (decide ((0 : Int) < (l1.length : Int))) (grd (I64 ((l1.length : Int) - 1)) <| grd (I64 ((l1.length : Int) - 1)) <| andThen (getO l1 ((l1.length : Int) - 1)) fun (q2 : Gref02_Piece) =>
      grd (I64 ((s.size : Int) - q2.At)) <| j3 (l1.set ((l1.length : Int) - 1 : Int).toNat (⟨q2.At, (s.size : Int) - q2.At, q2.Rune⟩ : Gref02_Piece))) (j3 l1)) (fun (l6 : List Gref02_Piece) => some l6)
theorem r2_v (s : ByteArray) (hs : s.size ≤ 2147483647) : ref02_Pieces_v s = some ((pcs s.data.toList).map p2) := by
  unfold ref02_Pieces_v
  refine joinI ?_
  change loopG (fun _ _ => none) (ref02_Pieces_s1 s (r2J s)) fuel ([] : List Gref02_Piece) 0 = _
  have hsz := size_listP s
  have hj : ∀ Q q, pcs s.data.toList = Q ++ [q] → r2J s (Q.map p2 ++ [p2z q]) = some ((pcs s.data.toList).map p2) := by
    intro Q q h
    have hn := (pcs_next _ _ _ _ h).1 rfl
    have hq := pcs_pos s.data.toList q (by rw [h]; simp)
    have hc := pcs_count s.data.toList Q.length Q q [] (Nat.le_refl _) h
    have hl : (((Q.map p2 ++ [p2z q]).length : Nat) : Int) = (Q.length : Int) + 1 := by simp
    refine joinI (condTI (decide_eq_true (by omega)) (grdI ⟨by omega, by omega⟩ (grdI ⟨by omega, by omega⟩ (thenI (get_last _ _) (grdI ⟨?_, ?_⟩ ?_)))))
    · show -9223372036854775808 ≤ (s.size : Int) - (q.i : Int); omega
    · show (s.size : Int) - (q.i : Int) ≤ 9223372036854775807; omega
    · rw [set_last]
      have e : (⟨(p2z q).At, (s.size : Int) - (p2z q).At, (p2z q).Rune⟩ : Gref02_Piece) = p2 q := by
        show (⟨(q.i : Int), (s.size : Int) - (q.i : Int), (q.r : Int)⟩ : Gref02_Piece) = ⟨q.i, q.w, q.r⟩
        rw [← hsz, ← hn, show ((q.i + q.w : Nat) : Int) - (q.i : Int) = (q.w : Int) by omega]
      rw [e, h]; simp
  cases hP : pcs s.data.toList with
  | nil =>
    obtain ⟨F, hF, _⟩ := fuel_eq 1 (by decide)
    rw [hF, loopI]
    generalize loopG (fun _ _ => none) (ref02_Pieces_s1 s _) F = ag
    unfold ref02_Pieces_s1
    exact condFI (decide_eq_false (by rw [hP]; simp)) (joinI (condFI rfl rfl))
  | cons q ts =>
    rw [← hP]
    have hg := fun m hm => r2_go s hs _ hj ts [] q m hP hm
    have hlen : ts.length ≤ 2147483647 := by
      have := pcs_count s.data.toList _ _ _ _ (Nat.le_refl _) (show pcs s.data.toList = ([] : List Pc) ++ q :: ts from hP)
      rcases List.eq_nil_or_concat ts with rfl | ⟨D, z, rfl⟩
      · simp
      · rw [List.concat_eq_append] at hP ⊢
        have h1 := pcs_count s.data.toList _ (q :: D) z [] (Nat.le_refl _) (by rw [hP]; simp)
        have h2 := pcs_pos s.data.toList z (by rw [hP]; simp)
        simp at h1 ⊢; omega
    obtain ⟨F, hF, hF2⟩ := fuel_eq 1 (by decide)
    rw [hF, loopI]
    have hg := hg F (by omega)
    generalize loopG (fun _ _ => none) (ref02_Pieces_s1 s _) F = ag at hg ⊢
    unfold ref02_Pieces_s1
    refine condTI (decide_eq_true (by rw [hP]; simp)) (thenI (a := q) (by rw [hP]; rfl) (joinI (condFI rfl (grdI (by decide) ?_))))
    exact hg
/-! ### Wide runes, reference 05 -/
def PW : List (Int × Int) := [(4352, 4447), (11904, 12350), (12353, 19903), (19968, 42191), (44032, 55203), (63744, 64255), (65072, 65135), (65280, 65376), (65504, 65510), (127744, 128591), (129280, 129535), (131072, 262141)]
def inW (r : Int) (p : Int × Int) : Bool := decide (p.1 ≤ r) && decide (r ≤ p.2)
def srt : Int → List (Int × Int) → Prop
  | _, [] => True
  | a, p :: ps => a < p.1 ∧ p.1 ≤ p.2 ∧ srt p.2 ps
theorem srt_low (r : Int) : ∀ (ps : List (Int × Int)) (a : Int), srt a ps → r ≤ a → ps.any (inW r) = false
  | [], a, _, _ => rfl
  | p :: ps, a, ⟨h1, h2, h3⟩, h => by
    rw [List.any_cons, srt_low r ps p.2 h3 (by omega), Bool.or_false]
    unfold inW
    rw [decide_eq_false (by omega)]; rfl
theorem wideL_any (r : Int) : ∀ (ps : List (Int × Int)) (a : Int), srt a ps → wideL r false (ps.flatMap fun p => [p.1, p.2]) = ps.any (inW r)
  | [], a, _ => rfl
  | p :: ps, a, ⟨h1, h2, h3⟩ => by
    show wideL r false (p.1 :: p.2 :: ps.flatMap fun p => [p.1, p.2]) = _
    rw [List.any_cons]
    unfold wideL
    by_cases e1 : r < p.1
    · rw [if_pos e1, srt_low r ps p.2 h3 (by omega)]
      unfold inW; rw [decide_eq_false (by omega)]; rfl
    · rw [if_neg e1]
      unfold wideL
      by_cases e2 : r ≤ p.2
      · rw [if_pos e2]; unfold inW; rw [decide_eq_true (by omega), decide_eq_true e2]; rfl
      · rw [if_neg e2, wideL_any r ps p.2 h3]; unfold inW; rw [decide_eq_false e2, Bool.and_false, Bool.false_or]
theorem wEdges_eq : wEdges = PW.flatMap fun p => [p.1, p.2] := by decide +kernel
theorem wideB_any (r : Int) : wideB r = PW.any (inW r) := by
  unfold wideB
  rw [wEdges_eq]
  exact wideL_any r PW 0 (by unfold PW; simp [srt])
theorem rwide_v (r : Int) : ref05_wide_v r = some (wideB r) := by
  unfold ref05_wide_v
  refine joinI ?_
  have key : ∀ (d k n : Nat), k + d = 12 → d < n → loopG (fun _ => none) (ref05_wide_s1 r (some false)) n (k : Int) = some ((PW.drop k).any (inW r)) := by
    intro d
    induction d with
    | zero =>
      intro k n hk hn
      obtain ⟨n, rfl⟩ : ∃ q, n = q + 1 := ⟨n - 1, by omega⟩
      rw [loopI]
      generalize loopG (fun _ => none) (ref05_wide_s1 r (some false)) n = ag
      unfold ref05_wide_s1
      refine condFI (decide_eq_false (by omega)) ?_
      rw [show k = PW.length by show k = 12; omega, List.drop_length]; rfl
    | succ d ih =>
      intro k n hk hn
      obtain ⟨n, rfl⟩ : ∃ q, n = q + 1 := ⟨n - 1, by omega⟩
      have ih' := ih (k + 1) n (by omega) (by omega)
      rw [loopI]
      rw [show ((k + 1 : Nat) : Int) = (k : Int) + 1 by omega] at ih'
      generalize loopG (fun _ => none) (ref05_wide_s1 r (some false)) n = ag at ih' ⊢
      have hkl : k < PW.length := by show k < 12; omega
      have hx : PW[k]? = some PW[k] := List.getElem?_eq_getElem hkl
      have hd := List.drop_eq_getElem_cons hkl
      generalize PW[k] = p at hx hd
      have hA : getO ([4352, 11904, 12353, 19968, 44032, 63744, 65072, 65280, 65504, 127744, 129280, 131072] : List Int) (k : Int) = some p.1 := by
        refine getO_nat (xs := PW.map Prod.fst) ?_
        rw [List.getElem?_map, hx]; rfl
      have hB : getO ([4447, 12350, 19903, 42191, 55203, 64255, 65135, 65376, 65510, 128591, 129535, 262141] : List Int) (k : Int) = some p.2 := by
        refine getO_nat (xs := PW.map Prod.snd) ?_
        rw [List.getElem?_map, hx]; rfl
      unfold ref05_wide_s1
      rw [hd, List.any_cons]
      refine condTI (decide_eq_true (by omega)) (joinI (thenI hA ?_))
      by_cases e1 : p.1 ≤ r
      · refine condTI (decide_eq_true e1) (thenI hB ?_)
        by_cases e2 : r ≤ p.2
        · refine condTI (decide_eq_true e2) ?_
          unfold inW; rw [decide_eq_true e1, decide_eq_true e2]; rfl
        · refine condFI (decide_eq_false e2) (grdI ⟨by omega, by omega⟩ (ih'.trans ?_))
          show _ = some ((decide (p.1 ≤ r) && decide (r ≤ p.2)) || _)
          rw [decide_eq_false e2, Bool.and_false, Bool.false_or]
      · refine condFI (decide_eq_false e1) (grdI ⟨by omega, by omega⟩ (ih'.trans ?_))
        show _ = some ((decide (p.1 ≤ r) && decide (r ≤ p.2)) || _)
        rw [decide_eq_false e1, Bool.false_and, Bool.false_or]
  have := key 12 0 fuel rfl (big_fuel (by decide))
  rw [wideB_any]
  exact this
end Go.Proofs.Ytnhdnpdbmgeheaa
namespace Go.Proofs.Ytnhdnpdbmgeheaa
open Go.RowKit Go.Lib
set_option linter.unusedVariables false
set_option linter.unusedSimpArgs false
theorem kind_rng (r : Int) : 0 ≤ kind r ∧ kind r ≤ 10 := by
  unfold kind kindP
  repeat' split
  all_goals omega
abbrev jnP (p : Pc) : Bool := !p.broken && decide ((p.r : Int) = 8205)
def p5 (p : Pc) : Gref05_Piece := ⟨p.i, (p.i : Int) + (p.w : Int), kdP (pcG p), jnP p, colP (pcG p)⟩
theorem kd_br {p : Pc} (h : p.broken = true) : kdP (pcG p) = 11 := by unfold kdP kindOf pcG; rw [if_pos h]
theorem kd_nb {p : Pc} (h : p.broken = false) : kdP (pcG p) = kind (p.r : Int) := by show (if p.broken = true then (11 : Int) else kind (p.r : Int)) = _; rw [h]; exact if_neg Bool.false_ne_true
theorem br_iff (p : Pc) : p.broken = true ↔ (p.r : Int) = 65533 ∧ (p.w : Int) = 1 := by
  unfold Pc.broken
  simp only [Bool.and_eq_true, beq_iff_eq]
  omega
theorem r5_step {α : Type} (r1 : List Gref02_Piece) (i3 : Int) (p : Pc) (hg : getO r1 i3 = some (p2 p)) (h32 : I32 (p.r : Int)) (hb : p.broken = false) (J : Gref02_Piece → Gref02_Piece → Int → Option α) :
    (andThen (getO r1 i3) fun (q3 : Gref02_Piece) => grd (I32 q3.Rune) <| andThen (getO r1 i3) fun (q4 : Gref02_Piece) => bcond ((q4.Rune : Int) == 8205) (J q3 q4 0) (bcond (((kind q3.Rune) : Int) == 2) (J q3 q4 0) (bcond (((kind q3.Rune) : Int) == 4) (J q3 q4 0) (bcond (((kind q3.Rune) : Int) == 9) (J q3 q4 0)
      (andThen (getO r1 i3) fun (q5 : Gref02_Piece) => andThen (ref05_wide_v q5.Rune) fun (r2 : Bool) => bcond (r2) (J q3 q4 2) (J q3 q4 1)))))) = J (p2 p) (p2 p) (colP (pcG p)) := by
  refine thenI hg (grdI h32 (thenI hg ?_))
  have hr : (p2 p).Rune = (p.r : Int) := rfl
  have hk := kd_nb hb
  have hkr := kind_rng (p.r : Int)
  have hrg : (pcG p).Rune = (p.r : Int) := rfl
  rw [hr]
  unfold colP
  rw [hk, if_neg (by omega), hrg]
  by_cases h0 : (p.r : Int) = 8205
  · refine condTI (beqI h0) ?_
    rw [if_pos (.inr (.inr (by rw [h0]; decide)))]
  refine condFI (beqF h0) ?_
  by_cases h2 : kind (p.r : Int) = 2
  · rw [if_pos (.inl h2)]; exact condTI (beqI h2) rfl
  refine condFI (beqF h2) ?_
  by_cases h4 : kind (p.r : Int) = 4
  · rw [if_pos (.inr (.inl h4))]; exact condTI (beqI h4) rfl
  refine condFI (beqF h4) ?_
  by_cases h9 : kind (p.r : Int) = 9
  · rw [if_pos (.inr (.inr h9))]; exact condTI (beqI h9) rfl
  rw [if_neg (by omega)]
  refine condFI (beqF h9) (thenI hg (thenI (rwide_v _) ?_))
  rw [hr]
  cases wideB (p.r : Int) <;> rfl
theorem r5_go (X : List Pc) (hX : ∀ p ∈ X, I32 (p.r : Int) ∧ p.i ≤ 2147483647 ∧ p.w ≤ 2147483647) (hl : X.length ≤ 2147483646) (j : List Gref05_Piece → Option (List Gref05_Piece)) : ∀ (ts pre : List Pc) (m : Nat), X = pre ++ ts → ts.length < m →
    loopG (fun _ _ => none) (ref05_Pieces_s1 j (X.map p2)) m (pre.map p5) (pre.length : Int) = j (X.map p5)
  | [], pre, m, h, hm => by
    obtain ⟨m, rfl⟩ : ∃ q, m = q + 1 := ⟨m - 1, by simp at hm; omega⟩
    rw [List.append_nil] at h; subst h
    rw [loopI]
    generalize loopG (fun _ _ => none) (ref05_Pieces_s1 j (X.map p2)) m = ag
    unfold ref05_Pieces_s1
    exact condFI (decide_eq_false (by simp)) rfl
  | p :: ts, pre, m, h, hm => by
    obtain ⟨m, rfl⟩ : ∃ q, m = q + 1 := ⟨m - 1, by simp at hm; omega⟩
    have ih := r5_go X hX hl j ts (pre ++ [p]) m (by rw [h]; simp) (by simp at hm; omega)
    rw [loopI]
    generalize loopG (fun _ _ => none) (ref05_Pieces_s1 j (X.map p2)) m = ag at ih ⊢
    have hx : (X.map p2)[pre.length]? = some (p2 p) := by rw [List.getElem?_map, h]; simp
    have hg := lp_get hx
    obtain ⟨o1, o2, o3⟩ := hX p (by rw [h]; simp)
    have hpl : pre.length < X.length := by rw [h]; simp
    have hJ : ∀ c, c = colP (pcG p) → ∀ k, k = kdP (pcG p) → ∀ b, b = jnP p → (grd ((pre.map p5).length + 1 ≤ 2147483648) <| grd (I64 ((pre.length : Int) + 1)) <| ag (pre.map p5 ++ [(⟨(p2 p).At, (p2 p).At + (p2 p).Width, k, b, c⟩ : Gref05_Piece)]) ((pre.length : Int) + 1)) = j (X.map p5) := by
      rintro c rfl k rfl b rfl
      refine grdI (by rw [List.length_map]; omega) (grdI ⟨by omega, by omega⟩ ?_)
      rw [← ih]
      have e1 : (pre ++ [p]).map p5 = pre.map p5 ++ [p5 p] := by simp
      rw [e1, show (((pre ++ [p]).length : Nat) : Int) = (pre.length : Int) + 1 by simp]; rfl
    unfold ref05_Pieces_s1
    refine condTI (lp_lt hx) (joinI (thenI hg (grdI ⟨?_, ?_⟩ (thenI hg ?_))))
    · show -9223372036854775808 ≤ (p.i : Int) + (p.w : Int); omega
    · show (p.i : Int) + (p.w : Int) ≤ 9223372036854775807; omega
    have nb := fun (hb : p.broken = false) => (r5_step (X.map p2) (pre.length : Int) p hg o1 hb (fun q3 q4 (c : Int) => (grd ((pre.map p5).length + 1 ≤ 2147483648) <| grd (I64 ((pre.length : Int) + 1)) <| ag (pre.map p5 ++ [(⟨(p2 p).At, (p2 p).At + (p2 p).Width, kind q3.Rune, (q4.Rune : Int) == 8205, c⟩ : Gref05_Piece)]) ((pre.length : Int) + 1)))).trans (hJ _ rfl _ (kd_nb hb).symm _ (by
      show ((p.r : Int) == 8205) = (!p.broken && decide ((p.r : Int) = 8205))
      rw [hb]; rfl))
    cases hb : p.broken with
    | true =>
      obtain ⟨e1, e2⟩ := (br_iff p).1 hb
      have hj1 := hJ 1 (by unfold colP; rw [if_pos (kd_br hb)]) 11 (kd_br hb).symm false (by show false = (!p.broken && _); rw [hb]; rfl)
      refine condTI ?_ (condTI ?_ ?_)
      · exact beqI e1
      · exact beqI e2
      · exact hj1
    | false =>
      have hn : ¬ ((p.r : Int) = 65533 ∧ (p.w : Int) = 1) := fun e => by rw [(br_iff p).2 e] at hb; cases hb
      by_cases e1 : (p.r : Int) = 65533
      · refine condTI ?_ (condFI ?_ (nb hb))
        · exact beqI e1
        · exact beqF (fun e => hn ⟨e1, e⟩)
      · refine condFI ?_ (nb hb)
        exact beqF e1
theorem pcs_small (s : ByteArray) (hs : s.size ≤ 2147483646) : (∀ p ∈ pcs s.data.toList, I32 (p.r : Int) ∧ p.i ≤ 2147483647 ∧ p.w ≤ 2147483647) ∧ (pcs s.data.toList).length ≤ s.size := by
  have hsz := size_listP s
  constructor
  · intro p hp
    obtain ⟨h1, h2, h3⟩ := pcs_pos s.data.toList p hp
    have := h3.valid
    exact ⟨⟨by omega, by omega⟩, by omega, by omega⟩
  · rcases List.eq_nil_or_concat (pcs s.data.toList) with h | ⟨D, z, h⟩
    · rw [h]; simp
    · rw [List.concat_eq_append] at h
      have h1 := pcs_count s.data.toList _ D z [] (Nat.le_refl _) h
      have h2 := pcs_pos s.data.toList z (by rw [h]; simp)
      rw [h, List.length_append]; simp; omega
theorem r5p_v (s : ByteArray) (hs : s.size ≤ 2147483646) : ref05_Pieces_v s = some ((pcs s.data.toList).map p5) := by
  obtain ⟨h1, h2⟩ := pcs_small s hs
  unfold ref05_Pieces_v
  refine joinI (thenI (r2_v s (by omega)) ?_)
  exact r5_go (pcs s.data.toList) h1 (by omega) (fun out1 => some out1) (pcs s.data.toList) [] fuel rfl (big_fuel (by omega))
/-! ### A piece's first byte -/
theorem piece_byte (s : ByteArray) {p : Pc} (hp : p ∈ pcs s.data.toList) (n : Nat) (hn : n < 128) : ∃ c : Int, getB s (p.i : Int) = some c ∧ (c = (n : Int) ↔ p.r = n) := by
  obtain ⟨h1, h2, h3⟩ := pcs_pos s.data.toList p hp
  have hsz := size_listP s
  have hb := getB_by (s := s) (a := p.i) (i := 0) (by omega)
  rw [show (p.i : Int) + ((0 : Nat) : Int) = (p.i : Int) by omega] at hb
  refine ⟨_, hb, ?_⟩
  have hen : encodeRune ((n : Nat) : Int) = [UInt8.ofNat n] := by
    have : ∀ n : Fin 128, encodeRune ((n.val : Nat) : Int) = [UInt8.ofNat n.val] := by decide +kernel
    exact this ⟨n, hn⟩
  cases hl : s.data.toList.drop p.i with
  | nil => have := congrArg List.length hl; rw [List.length_drop] at this; simp at this; omega
  | cons b l =>
    have hby : byI (b :: l) 0 = (b.toNat : Int) := rfl
    rw [hby]
    rw [hl] at h3
    constructor
    · intro e
      have hbn : b = UInt8.ofNat n := by
        have : b.toNat = n := by omega
        rw [← this]; simp
      have hd := dec_enc n (by omega) l
      rw [hen] at hd
      have : [UInt8.ofNat n] ++ l = b :: l := by rw [hbn]; rfl
      rw [this, h3.eq] at hd
      exact (Prod.mk.inj hd).1
    · intro e
      have hnb : ¬ (p.r = 65533 ∧ p.w = 1) := by omega
      have hby := h3.bytes hnb
      rw [e, hen] at hby
      have hw : 1 ≤ p.w := h3.pos
      obtain ⟨w, hw'⟩ : ∃ w, p.w = w + 1 := ⟨p.w - 1, by omega⟩
      rw [hw', List.take_succ_cons] at hby
      have := (List.cons.inj hby).1
      rw [← this]
      have : (UInt8.ofNat n).toNat = n := by simp; omega
      omega
end Go.Proofs.Ytnhdnpdbmgeheaa
namespace Go.Proofs.Ytnhdnpdbmgeheaa
open Go.RowKit Go.Lib
set_option linter.unusedVariables false
set_option linter.unusedSimpArgs false
/-! ### What is taken, as the program takes it -/
def tkN (h : Int) : Pc → List Pc → Nat
  | _, [] => 0
  | l, t :: ts => if joinB h (l.r : Int) (pcG t) = true then tkN h t ts + 1 else 0
def endT (e : Int) : List Pc → Int
  | [] => e
  | t :: ts => endT ((t.i : Int) + (t.w : Int)) ts
def maxC (c : Int) : List Pc → Int
  | [] => c
  | t :: ts => maxC (max c (colP (pcG t))) ts
def stopK (h : Int) : Prop := h = 11 ∨ h = 4 ∨ h = 9
instance (h : Int) : Decidable (stopK h) := by unfold stopK; infer_instance
def nTk (x : Pc) (ts : List Pc) : Nat :=
  if (x.r : Int) = 13 then (match ts with | y :: _ => if (y.r : Int) = 10 then 1 else 0 | [] => 0) else if stopK (kdP (pcG x)) then 0 else tkN (kdP (pcG x)) x ts
theorem tkN_cons (h : Int) (l t : Pc) (ts : List Pc) : tkN h l (t :: ts) = if joinB h (l.r : Int) (pcG t) = true then tkN h t ts + 1 else 0 := rfl
theorem tkN_le (h : Int) : ∀ (ts : List Pc) (l : Pc), tkN h l ts ≤ ts.length
  | [], _ => Nat.le_refl _
  | t :: ts, l => by
    unfold tkN
    have := tkN_le h ts t
    split
    · rw [List.length_cons]; omega
    · exact Nat.zero_le _
theorem nTk_le (x : Pc) (ts : List Pc) : nTk x ts ≤ ts.length := by
  unfold nTk
  split
  · cases ts with
    | nil => exact Nat.le_refl _
    | cons y ts =>
      simp only
      split
      · rw [List.length_cons]; omega
      · exact Nat.zero_le _
  split
  · exact Nat.zero_le _
  · exact tkN_le _ _ _
theorem takes_stop {h : Int} (hs : stopK h) (l : Int) (x : Gapi_Piece) : takesB h l x = false := by
  unfold takesB
  rcases hs with rfl | rfl | rfl <;> rfl
theorem takes_go {h : Int} (hs : ¬ stopK h) (l : Int) (x : Gapi_Piece) : takesB h l x = joinB h l x := by
  unfold takesB
  unfold stopK at hs
  rw [neqI (by omega : h ≠ 11), neqI (by omega : h ≠ 4), neqI (by omega : h ≠ 9)]; rfl
theorem kd13 {p : Pc} (h : (p.r : Int) = 13 ∨ (p.r : Int) = 10) : kdP (pcG p) = 4 := by
  have hb : p.broken = false := by
    cases hb : p.broken with
    | false => rfl
    | true => have := (br_iff p).1 hb; omega
  rw [kd_nb hb]
  rcases h with h | h <;> rw [h] <;> decide
theorem join13 {h l : Int} {p : Pc} (hj : joinB h l (pcG p) = true) : (p.r : Int) ≠ 13 := by
  intro e
  have hk := kd13 (p := p) (.inl e)
  unfold joinB at hj
  rw [hk] at hj
  have hr : (pcG p).Rune = (p.r : Int) := rfl
  rw [hr, e] at hj
  simp at hj
theorem cf_take {h : Int} (hs : ¬ stopK h) : ∀ (ts : List Pc) (c : Gapi_Cell) (l : Pc), (l.r : Int) ≠ 13 →
    cellsF c h (l.r : Int) (ts.map pcG) = ⟨c.Span_From, endT c.Span_To (ts.take (tkN h l ts)), maxC c.Columns (ts.take (tkN h l ts))⟩ :: cellsP ((ts.drop (tkN h l ts)).map pcG)
  | [], c, l, _ => rfl
  | t :: ts, c, l, hl => by
    have hr : (pcG t).Rune = (t.r : Int) := rfl
    rw [List.map_cons, cellsF_cons, if_neg (fun e => hl e.1), takes_go hs]
    unfold tkN
    by_cases hj : joinB h (l.r : Int) (pcG t) = true
    · rw [if_pos hj, if_pos hj, hr, cf_take hs ts _ t (join13 hj)]
      rfl
    · rw [if_neg hj, if_neg hj]; rfl
theorem cf_stop {h : Int} (hs : stopK h) (ts : List Pc) (c : Gapi_Cell) (l : Int) (hl : l ≠ 13) : cellsF c h l (ts.map pcG) = c :: cellsP (ts.map pcG) := by
  cases ts with
  | nil => rfl
  | cons t ts =>
    rw [List.map_cons, cellsF_cons, if_neg (fun e => hl e.1), takes_stop hs, if_neg (by decide)]; rfl
theorem cells_one (x : Pc) (ts : List Pc) : cellsP ((x :: ts).map pcG) =
    ⟨x.i, endT ((x.i : Int) + (x.w : Int)) (ts.take (nTk x ts)), maxC (colP (pcG x)) (ts.take (nTk x ts))⟩ :: cellsP ((ts.drop (nTk x ts)).map pcG) := by
  show cellsF ⟨x.i, (x.i : Int) + (x.w : Int), colP (pcG x)⟩ (kdP (pcG x)) (x.r : Int) (ts.map pcG) = _
  unfold nTk
  by_cases h13 : (x.r : Int) = 13
  · rw [if_pos h13]
    have hk := kd13 (p := x) (.inl h13)
    have hst : stopK (kdP (pcG x)) := by rw [hk]; exact .inr (.inl rfl)
    have hc0 : ∀ p : Pc, ((p.r : Int) = 13 ∨ (p.r : Int) = 10) → colP (pcG p) = 0 := by
      intro p hp
      unfold colP
      rw [kd13 hp]; rfl
    cases ts with
    | nil => rfl
    | cons y ts =>
      simp only
      have hr : (pcG y).Rune = (y.r : Int) := rfl
      rw [List.map_cons, cellsF_cons, hr]
      by_cases h10 : (y.r : Int) = 10
      · rw [if_pos ⟨h13, h10⟩, if_pos h10, cf_stop hst ts _ _ (by omega)]
        have e1 := hc0 x (.inl h13)
        have e2 := hc0 y (.inr h10)
        show (⟨(x.i : Int), (y.i : Int) + (y.w : Int), colP (pcG x)⟩ : Gapi_Cell) :: _ = ⟨(x.i : Int), (y.i : Int) + (y.w : Int), max (colP (pcG x)) (colP (pcG y))⟩ :: _
        rw [e1, e2]; rfl
      · rw [if_neg (fun e => h10 e.2), if_neg h10, takes_stop hst, if_neg (by decide)]; rfl
  · rw [if_neg h13]
    by_cases hs : stopK (kdP (pcG x))
    · rw [if_pos hs, cf_stop hs ts _ _ h13]; rfl
    · rw [if_neg hs, cf_take hs ts _ x h13]
/-! ### As the reference takes it -/
theorem ref_join (h : Int) (l t : Pc) : joinB h (l.r : Int) (pcG t) = (decide (kdP (pcG t) = 2) || (jnP t || (decide (h = 10) && (decide (kdP (pcG t) = 10) && jnP l)))) := by
  have hr : (pcG t).Rune = (t.r : Int) := rfl
  have hbr : (pcG t).Broken = t.broken := rfl
  unfold joinB
  rw [hr, hbr]
  cases hb : t.broken with
  | true =>
    rw [kd_br hb]
    simp [jnP, hb]
  | false =>
    have hjn : jnP t = decide ((t.r : Int) = 8205) := by unfold jnP; rw [hb]; rfl
    have hjl : jnP l = decide ((l.r : Int) = 8205) := by
      unfold jnP
      cases hlb : l.broken with
      | false => rfl
      | true =>
        have := (br_iff l).1 hlb
        rw [decide_eq_false (by omega)]; rfl
    rw [hjn, hjl]
    simp only [Bool.false_eq_true, if_false]
    by_cases h2 : kdP (pcG t) = 2
    · rw [if_pos h2, decide_eq_true h2]; rfl
    rw [if_neg h2, decide_eq_false h2, Bool.false_or]
    by_cases hj : (t.r : Int) = 8205
    · rw [if_pos hj, decide_eq_true hj]; rfl
    rw [if_neg hj, decide_eq_false hj, Bool.false_or]
    by_cases hh : h = 10
    · rw [if_pos hh, decide_eq_true hh, Bool.true_and]
      by_cases h10 : kdP (pcG t) = 10
      · rw [if_pos h10, decide_eq_true h10, Bool.true_and]
      · rw [if_neg h10, decide_eq_false h10]; rfl
    · rw [if_neg hh, decide_eq_false hh]; rfl
theorem join_go (X : List Pc) (hX : X.length ≤ 2147483646) (j2 : Int → Option (List Gapi_Cell)) (q1 : Gref05_Piece) : ∀ (ts pre : List Pc) (l : Pc) (m : Nat), X = pre ++ l :: ts → ts.length < m →
    loopG (fun _ => none) (ref05_Cells_s4 (X.map p5) j2 q1) m ((pre.length : Int) + 1) = j2 ((pre.length : Int) + 1 + (tkN q1.Kind l ts : Int))
  | [], pre, l, m, h, hm => by
    obtain ⟨m, rfl⟩ : ∃ q, m = q + 1 := ⟨m - 1, by simp at hm; omega⟩
    rw [loopI]
    generalize loopG (fun _ => none) (ref05_Cells_s4 (X.map p5) j2 q1) m = ag
    unfold ref05_Cells_s4
    refine joinI (condFI (decide_eq_false (by rw [List.length_map, h]; simp)) ?_)
    show j2 _ = j2 ((pre.length : Int) + 1 + 0)
    rw [Int.add_zero]
  | t :: ts, pre, l, m, h, hm => by
    obtain ⟨m, rfl⟩ : ∃ q, m = q + 1 := ⟨m - 1, by simp at hm; omega⟩
    have ih := join_go X hX j2 q1 ts (pre ++ [l]) t m (by rw [h]; simp) (by simp at hm; omega)
    rw [loopI]
    generalize loopG (fun _ => none) (ref05_Cells_s4 (X.map p5) j2 q1) m = ag at ih ⊢
    have hx : (X.map p5)[pre.length + 1]? = some (p5 t) := by rw [List.getElem?_map, h]; simp
    have hg := lp_get hx
    have hlt := lp_lt hx
    rw [show ((pre.length + 1 : Nat) : Int) = (pre.length : Int) + 1 by omega] at hg hlt
    have hy : getO (X.map p5) ((pre.length : Int) + 1 - 1) = some (p5 l) := getO_of (n := pre.length) (by omega) (by rw [List.getElem?_map, h]; simp)
    have hxl : X.length = pre.length + (ts.length + 2) := by rw [h]; simp
    have e0 : (((pre ++ [l]).length : Nat) : Int) + 1 = (pre.length : Int) + 1 + 1 := by simp
    rw [e0] at ih
    have go : joinB q1.Kind (l.r : Int) (pcG t) = true → (grd (I64 ((pre.length : Int) + 1 + 1)) <| ag ((pre.length : Int) + 1 + 1)) = j2 ((pre.length : Int) + 1 + (tkN q1.Kind l (t :: ts) : Int)) := by
      intro hj
      refine grdI ⟨by omega, by omega⟩ (ih.trans ?_)
      rw [tkN_cons, if_pos hj]
      congr 1
      push_cast; omega
    have no : joinB q1.Kind (l.r : Int) (pcG t) = false → j2 ((pre.length : Int) + 1) = j2 ((pre.length : Int) + 1 + (tkN q1.Kind l (t :: ts) : Int)) := by
      intro hj
      rw [tkN_cons, if_neg (by rw [hj]; decide)]
      show j2 _ = j2 ((pre.length : Int) + 1 + 0)
      rw [Int.add_zero]
    rw [ref_join] at go no
    unfold ref05_Cells_s4
    refine joinI (condTI hlt (thenI hg ?_))
    have hK : (p5 t).Kind = kdP (pcG t) := rfl
    have hJ : (p5 t).Joiner = jnP t := rfl
    have hJl : (p5 l).Joiner = jnP l := rfl
    rw [hK, hJ]
    by_cases h2 : kdP (pcG t) = 2
    · rw [decide_eq_true h2] at go
      exact condTI (beqI h2) (go rfl)
    rw [decide_eq_false h2, Bool.false_or] at go no
    refine condFI (beqF h2) ?_
    cases hj : jnP t with
    | true =>
      rw [hj] at go
      exact condTI rfl (go rfl)
    | false =>
      rw [hj, Bool.false_or] at go no
      refine condFI rfl ?_
      by_cases hh : q1.Kind = 10
      · rw [decide_eq_true hh, Bool.true_and] at go no
        refine condTI (beqI hh) ?_
        by_cases h10 : kdP (pcG t) = 10
        · rw [decide_eq_true h10, Bool.true_and] at go no
          refine condTI (beqI h10) (grdI ⟨by omega, by omega⟩ (thenI hy ?_))
          rw [hJl]
          cases hl : jnP l with
          | true => rw [hl] at go; exact condTI rfl (go rfl)
          | false => rw [hl] at no; exact condFI rfl (no rfl)
        · rw [decide_eq_false h10] at no
          exact condFI (beqF h10) (no rfl)
      · rw [decide_eq_false hh] at no
        exact condFI (beqF hh) (no rfl)
theorem max_go (X : List Pc) (hX : X.length ≤ 2147483646) (k : Int) (j6 : Int → Int → Int → Int → Option (List Gapi_Cell)) (q10 q11 : Gref05_Piece) (rest : List Pc) : ∀ (seg pre : List Pc) (m : Nat) (c : Int), X = pre ++ (seg ++ rest) → k = (pre.length : Int) + (seg.length : Int) → seg.length < m →
    loopG (fun _ _ => none) (ref05_Cells_s5 (X.map p5) k j6 q10 q11) m (pre.length : Int) c = j6 k q10.Span_From q11.Span_To (maxC c seg)
  | [], pre, m, c, h, hk, hm => by
    obtain ⟨m, rfl⟩ : ∃ q, m = q + 1 := ⟨m - 1, by simp at hm; omega⟩
    rw [loopI]
    generalize loopG (fun _ _ => none) (ref05_Cells_s5 (X.map p5) k j6 q10 q11) m = ag
    unfold ref05_Cells_s5
    have : k = (pre.length : Int) := by rw [hk]; simp
    refine condFI (decide_eq_false (by omega)) ?_
    rw [← this]; rfl
  | t :: seg, pre, m, c, h, hk, hm => by
    obtain ⟨m, rfl⟩ : ∃ q, m = q + 1 := ⟨m - 1, by simp at hm; omega⟩
    rw [List.length_cons] at hk hm
    have ih := max_go X hX k j6 q10 q11 rest seg (pre ++ [t]) m (max c (colP (pcG t))) (by rw [h]; simp) (by rw [hk, List.length_append]; simp; omega) (by omega)
    rw [loopI]
    generalize loopG (fun _ _ => none) (ref05_Cells_s5 (X.map p5) k j6 q10 q11) m = ag at ih ⊢
    have hx : (X.map p5)[pre.length]? = some (p5 t) := by rw [List.getElem?_map, h]; simp
    have hxl : X.length = pre.length + (seg.length + 1 + rest.length) := by rw [h]; simp; omega
    rw [show (((pre ++ [t]).length : Nat) : Int) = (pre.length : Int) + 1 by simp] at ih
    unfold ref05_Cells_s5
    exact condTI (decide_eq_true (by omega)) (thenI (lp_get hx) (grdI ⟨by omega, by omega⟩ ih))
theorem seg_last : ∀ (seg pre : List Pc) (x : Pc), ∃ z, (pre ++ x :: seg)[pre.length + seg.length]? = some z ∧ (z.i : Int) + (z.w : Int) = endT ((x.i : Int) + (x.w : Int)) seg
  | [], pre, x => ⟨x, by simp, rfl⟩
  | t :: seg, pre, x => by
    obtain ⟨z, h1, h2⟩ := seg_last seg (pre ++ [x]) t
    refine ⟨z, ?_, h2⟩
    rw [← h1]
    congr 1
    · simp
    · simp; omega
theorem max0 (x : Pc) (seg : List Pc) : maxC 0 (x :: seg) = maxC (colP (pcG x)) seg := by
  have := col_rng (pcG x)
  show maxC (max 0 (colP (pcG x))) seg = _
  rw [show max 0 (colP (pcG x)) = colP (pcG x) by omega]
theorem rc_go (s : ByteArray) (hs : s.size ≤ 2147483646) (j : List Gapi_Cell → Option (List Gapi_Cell)) : ∀ (d : Nat) (ts pre : List Pc) (m : Nat) (out : List Gapi_Cell), ts.length ≤ d → pcs s.data.toList = pre ++ ts → d < m → out.length ≤ pre.length →
    loopG (fun _ _ => none) (ref05_Cells_s1 s j ((pcs s.data.toList).map p5)) m out (pre.length : Int) = j (out ++ cellsP (ts.map pcG)) := by
  obtain ⟨hX, hXl⟩ := pcs_small s hs
  have end_ : ∀ (pre : List Pc) (m : Nat) (out : List Gapi_Cell), pcs s.data.toList = pre → 0 < m → loopG (fun _ _ => none) (ref05_Cells_s1 s j ((pcs s.data.toList).map p5)) m out (pre.length : Int) = j (out ++ cellsP (([] : List Pc).map pcG)) := by
    intro pre m out h hm
    obtain ⟨m, rfl⟩ : ∃ q, m = q + 1 := ⟨m - 1, by omega⟩
    rw [loopI]
    generalize loopG (fun _ _ => none) (ref05_Cells_s1 s j ((pcs s.data.toList).map p5)) m = ag
    unfold ref05_Cells_s1
    refine condFI (decide_eq_false (by rw [List.length_map, h]; omega)) ?_
    show j out = j (out ++ [])
    rw [List.append_nil]
  intro d
  induction d with
  | zero =>
    intro ts pre m out hd h hm ho
    have : ts = [] := List.length_eq_zero_iff.1 (by omega)
    subst this
    exact end_ pre m out (by simpa using h) (by omega)
  | succ d ih =>
    intro ts pre m out hd h hm ho
    cases ts with
    | nil => exact end_ pre m out (by simpa using h) (by omega)
    | cons x ts =>
      obtain ⟨m, rfl⟩ : ∃ q, m = q + 1 := ⟨m - 1, by omega⟩
      rw [List.length_cons] at hd
      have hn := nTk_le x ts
      have hone := cells_one x ts
      have ih' := ih (ts.drop (nTk x ts)) (pre ++ x :: ts.take (nTk x ts)) m (out ++ [⟨x.i, endT ((x.i : Int) + (x.w : Int)) (ts.take (nTk x ts)), maxC (colP (pcG x)) (ts.take (nTk x ts))⟩]) (by rw [List.length_drop]; omega) (by rw [h]; simp) (by omega) (by simp; omega)
      rw [show (((pre ++ x :: ts.take (nTk x ts)).length : Nat) : Int) = (pre.length : Int) + 1 + (nTk x ts : Int) by rw [List.length_append, List.length_cons, List.length_take, Nat.min_eq_left hn]; omega, List.append_assoc] at ih'
      rw [hone]
      rw [loopI]
      generalize loopG (fun _ _ => none) (ref05_Cells_s1 s j ((pcs s.data.toList).map p5)) m = ag at ih' ⊢
      have hxl : (pcs s.data.toList).length = pre.length + (ts.length + 1) := by rw [h]; simp
      have hx : ((pcs s.data.toList).map p5)[pre.length]? = some (p5 x) := by rw [List.getElem?_map, h]; simp
      have hg := lp_get hx
      -- what comes behind the end that was found
      have hrest : ∀ k : Int, k = (pre.length : Int) + 1 + (nTk x ts : Int) → (joinK (fun (j6 : Int → Int → Int → Int → Option (List Gapi_Cell)) => andThen (getO ((pcs s.data.toList).map p5) (pre.length : Int)) fun (q10 : Gref05_Piece) => grd (I64 (k - 1)) <| andThen (getO ((pcs s.data.toList).map p5) (k - 1)) fun (q11 : Gref05_Piece) =>
          loopG (fun _ _ => none) (ref05_Cells_s5 ((pcs s.data.toList).map p5) k j6 q10 q11) fuel (pre.length : Int) 0) (fun (i4 : Int) (c3 : Int) (c4 : Int) (c5 : Int) => grd (out.length + 1 ≤ 2147483648) <| ag (out ++ [(⟨c3, c4, c5⟩ : Gapi_Cell)]) i4)) =
          j (out ++ ⟨x.i, endT ((x.i : Int) + (x.w : Int)) (ts.take (nTk x ts)), maxC (colP (pcG x)) (ts.take (nTk x ts))⟩ :: cellsP ((ts.drop (nTk x ts)).map pcG)) := by
        rintro k rfl
        obtain ⟨z, hz1, hz2⟩ := seg_last (ts.take (nTk x ts)) pre x
        have hz : ((pcs s.data.toList).map p5)[pre.length + nTk x ts]? = some (p5 z) := by
          rw [List.getElem?_map]
          rw [List.length_take, Nat.min_eq_left hn] at hz1
          have : (pcs s.data.toList)[pre.length + nTk x ts]? = some z := by
            rw [h, ← hz1, show pre ++ x :: ts = (pre ++ x :: ts.take (nTk x ts)) ++ ts.drop (nTk x ts) by simp]
            exact List.getElem?_append_left (by rw [List.length_append, List.length_cons, List.length_take, Nat.min_eq_left hn]; omega)
          rw [this]; rfl
        refine joinI (thenI hg (grdI ⟨by omega, by omega⟩ (thenI (getO_of (n := pre.length + nTk x ts) (by push_cast; omega) hz) ?_)))
        refine (max_go (pcs s.data.toList) (by omega) _ _ (p5 x) (p5 z) (ts.drop (nTk x ts)) (x :: ts.take (nTk x ts)) pre fuel 0 (by rw [h]; simp) (by rw [List.length_cons, List.length_take, Nat.min_eq_left hn]; push_cast; omega) (by rw [List.length_cons, List.length_take, Nat.min_eq_left hn]; exact big_fuel (by omega))).trans ?_
        rw [max0]
        refine grdI (by omega) ?_
        have e1 : (p5 x).Span_From = (x.i : Int) := rfl
        have e2 : (p5 z).Span_To = endT ((x.i : Int) + (x.w : Int)) (ts.take (nTk x ts)) := hz2
        rw [e1, e2]
        exact ih'
      obtain ⟨b, hb1, hb2⟩ := piece_byte s (p := x) (by rw [h]; simp) 13 (by decide)
      have hK : (p5 x).Kind = kdP (pcG x) := rfl
      have hbx : getB s (p5 x).Span_From = some b := hb1
      -- no line end
      have hno : (x.r : Int) ≠ 13 → ∀ J : Int → Option (List Gapi_Cell), (∀ k : Int, k = (pre.length : Int) + 1 + (nTk x ts : Int) → J k = j (out ++ ⟨x.i, endT ((x.i : Int) + (x.w : Int)) (ts.take (nTk x ts)), maxC (colP (pcG x)) (ts.take (nTk x ts))⟩ :: cellsP ((ts.drop (nTk x ts)).map pcG))) →
          bcond (((p5 x).Kind : Int) == 11) (J ((pre.length : Int) + 1)) (bcond (((p5 x).Kind : Int) == 4) (J ((pre.length : Int) + 1)) (bcond (((p5 x).Kind : Int) == 9) (J ((pre.length : Int) + 1)) (loopG (fun _ => none) (ref05_Cells_s4 ((pcs s.data.toList).map p5) J (p5 x)) fuel ((pre.length : Int) + 1)))) =
          j (out ++ ⟨x.i, endT ((x.i : Int) + (x.w : Int)) (ts.take (nTk x ts)), maxC (colP (pcG x)) (ts.take (nTk x ts))⟩ :: cellsP ((ts.drop (nTk x ts)).map pcG)) := by
        intro h13 J hJ
        have hstop : stopK (kdP (pcG x)) → J ((pre.length : Int) + 1) = j (out ++ ⟨x.i, endT ((x.i : Int) + (x.w : Int)) (ts.take (nTk x ts)), maxC (colP (pcG x)) (ts.take (nTk x ts))⟩ :: cellsP ((ts.drop (nTk x ts)).map pcG)) := fun hs => hJ _ (by
          have : nTk x ts = 0 := by unfold nTk; rw [if_neg h13, if_pos hs]
          rw [this]; simp)
        rw [hK]
        by_cases k11 : kdP (pcG x) = 11
        · exact condTI (beqI k11) (hstop (.inl k11))
        refine condFI (beqF k11) ?_
        by_cases k4 : kdP (pcG x) = 4
        · exact condTI (beqI k4) (hstop (.inr (.inl k4)))
        refine condFI (beqF k4) ?_
        by_cases k9 : kdP (pcG x) = 9
        · exact condTI (beqI k9) (hstop (.inr (.inr k9)))
        refine condFI (beqF k9) ?_
        have hns : ¬ stopK (kdP (pcG x)) := by unfold stopK; omega
        rw [join_go (pcs s.data.toList) (by omega) J (p5 x) ts pre x fuel h (big_fuel (by omega))]
        refine hJ _ ?_
        unfold nTk
        rw [if_neg h13, if_neg hns]; rfl
      have hI : I64 ((pre.length : Int) + 1) := ⟨by omega, by omega⟩
      unfold ref05_Cells_s1
      refine condTI (lp_lt hx) (joinI (grdI hI (thenI hg (thenI hg (thenI hbx ?_)))))
      by_cases h13 : (x.r : Int) = 13
      · refine condTI (beqI (hb2.2 (by omega))) ?_
        have hk4 : (p5 x).Kind = 4 := kd13 (.inl h13)
        cases ts with
        | nil =>
          have hn0 : nTk x [] = 0 := by unfold nTk; rw [if_pos h13]
          refine condFI (decide_eq_false (by rw [List.length_map, hxl]; simp)) (condFI (by rw [hk4]; rfl) (condTI (by rw [hk4]; rfl) ?_))
          exact hrest _ (by rw [hn0]; simp)
        | cons y ts =>
          have hy : ((pcs s.data.toList).map p5)[pre.length + 1]? = some (p5 y) := by rw [List.getElem?_map, h]; simp
          have hgy := lp_get hy
          have hly := lp_lt hy
          rw [show ((pre.length + 1 : Nat) : Int) = (pre.length : Int) + 1 by omega] at hgy hly
          obtain ⟨b', hc1, hc2⟩ := piece_byte s (p := y) (by rw [h]; simp) 10 (by decide)
          refine condTI hly (thenI hgy (thenI hc1 ?_))
          by_cases h10 : (y.r : Int) = 10
          · have hn1 : nTk x (y :: ts) = 1 := by unfold nTk; rw [if_pos h13]; simp only; rw [if_pos h10]
            rw [List.length_cons] at hxl
            refine condTI (beqI (hc2.2 (by omega))) (grdI ⟨by omega, by omega⟩ ?_)
            exact hrest _ (by rw [hn1]; simp)
          · have hn0 : nTk x (y :: ts) = 0 := by unfold nTk; rw [if_pos h13]; simp only; rw [if_neg h10]
            refine condFI (beqF (fun e => h10 (by have := hc2.1 e; omega))) (condFI (by rw [hk4]; rfl) (condTI (by rw [hk4]; rfl) ?_))
            exact hrest _ (by rw [hn0]; simp)
      · refine condFI (beqF (fun e => h13 (by have := hb2.1 e; omega))) ?_
        exact hno h13 _ hrest
theorem rcells_v (s : ByteArray) (hs : s.size ≤ 2147483646) : ref05_Cells_v s = some (cellsS s) := by
  obtain ⟨h1, h2⟩ := pcs_small s hs
  unfold ref05_Cells_v
  refine joinI (thenI (r5p_v s hs) ?_)
  exact rc_go s hs (fun out1 => some out1) _ (pcs s.data.toList) [] fuel [] (Nat.le_refl _) rfl (big_fuel (by omega)) (Nat.le_refl _)
end Go.Proofs.Ytnhdnpdbmgeheaa
namespace Go.Proofs.Ytnhdnpdbmgeheaa
open Go.RowKit Go.Lib
set_option linter.unusedVariables false
set_option linter.unusedSimpArgs false
def okC (s : ByteArray) (c : Cell) : Prop := 0 ≤ c.Span_From ∧ c.Span_From < c.Span_To ∧ c.Span_To ≤ (s.size : Int) ∧ 0 ≤ c.Columns ∧ c.Columns ≤ 2
theorem cells_okC (s : ByteArray) : ∀ c ∈ cellsS s, okC s c := (cellsS_cov s).mem
theorem rspace_v (s : ByteArray) (hs : s.size ≤ 100000) (c : Cell) (hc : okC s c) : ref30_Space_v s c = some (spB s c) := by
  obtain ⟨h1, h2, h3, h4, h5⟩ := hc
  unfold ref30_Space_v spB
  refine grdI ⟨by omega, by omega⟩ ?_
  by_cases h : c.Span_To = c.Span_From + 1
  · rw [if_pos h]
    obtain ⟨m, hm⟩ : ∃ m : Nat, c.Span_From = m := ⟨c.Span_From.toNat, by omega⟩
    have hg := getB_of hm (show m < s.size by omega)
    refine condTI (beqI (by omega)) (thenI hg ?_)
    rw [hg]
    show some _ = some _
    congr 1
  · rw [if_neg h]; exact condFI (beqF (by omega)) rfl
theorem take_some {α : Type} {l : List α} {k : Nat} (h : k < l.length) : l.take (k + 1) = l.take k ++ [l[k]] := take_snocP (List.getElem?_eq_getElem h)
theorem rcol1 (s : ByteArray) (hs : s.size ≤ 100000) (l : List Cell) (hl : ∀ c ∈ l, okC s c) (hn : l.length ≤ 100000) (j : Int → Option Int) : ∀ (n m : Nat), n ≤ l.length → n < m → loopG (fun _ => none) (ref30_Columns_s1 s l j) m (n : Int) = j (eN (spB s) (l.take n) : Int)
  | 0, m, h, hm => by
    obtain ⟨m, rfl⟩ : ∃ q, m = q + 1 := ⟨m - 1, by omega⟩
    rw [loopI]
    generalize loopG (fun _ => none) (ref30_Columns_s1 s l j) m = ag
    unfold ref30_Columns_s1
    exact condFI rfl rfl
  | n + 1, m, h, hm => by
    obtain ⟨m, rfl⟩ : ∃ q, m = q + 1 := ⟨m - 1, by omega⟩
    have ih := rcol1 s hs l hl hn j n m (by omega) (by omega)
    rw [loopI]
    generalize loopG (fun _ => none) (ref30_Columns_s1 s l j) m = ag at ih ⊢
    have hx : l[n]? = some l[n] := List.getElem?_eq_getElem (by omega)
    unfold ref30_Columns_s1
    rw [take_some (by omega), eN_snoc]
    refine condTI (decide_eq_true (by omega)) (grdI ⟨by omega, by omega⟩ (thenI (getO_of (n := n) (by omega) hx) (thenI (rspace_v s hs _ (hl _ (List.mem_of_getElem? hx))) ?_)))
    cases hsp : spB s l[n] with
    | true =>
      refine condTI rfl (grdI ⟨by omega, by omega⟩ ?_)
      rw [if_pos rfl, show ((n + 1 : Nat) : Int) - 1 = (n : Int) by omega]
      exact ih
    | false =>
      refine condFI rfl ?_
      rw [if_neg (by decide), List.length_take, Nat.min_eq_left (by omega)]
theorem rcol2 (l : List Cell) (hl : ∀ c ∈ l, 0 ≤ c.Columns ∧ c.Columns ≤ 2) (n : Nat) (hn : n ≤ l.length) (hn2 : l.length ≤ 100000) (j : Int → Option Int) : ∀ (d k m : Nat), k + d = n → d < m → loopG (fun _ _ => none) (ref30_Columns_s2 l (n : Int) j) m (colsum (l.take k)) (k : Int) = j (colsum (l.take n))
  | 0, k, m, h, hm => by
    obtain ⟨m, rfl⟩ : ∃ q, m = q + 1 := ⟨m - 1, by omega⟩
    rw [loopI]
    generalize loopG (fun _ _ => none) (ref30_Columns_s2 l (n : Int) j) m = ag
    unfold ref30_Columns_s2
    refine condFI (decide_eq_false (by omega)) ?_
    rw [show k = n by omega]
  | d + 1, k, m, h, hm => by
    obtain ⟨m, rfl⟩ : ∃ q, m = q + 1 := ⟨m - 1, by omega⟩
    have ih := rcol2 l hl n hn hn2 j d (k + 1) m (by omega) (by omega)
    rw [loopI]
    generalize loopG (fun _ _ => none) (ref30_Columns_s2 l (n : Int) j) m = ag at ih ⊢
    have hx : l[k]? = some l[k] := List.getElem?_eq_getElem (by omega)
    rw [take_some (by omega), colsum_app, colsum_one, show ((k + 1 : Nat) : Int) = (k : Int) + 1 by omega] at ih
    have h1 := colsum_rng (l := l.take k) fun c hc => hl c (List.mem_of_mem_take hc)
    have h2 := hl _ (List.mem_of_getElem? hx)
    have h3 : (l.take k).length ≤ 100000 := by rw [List.length_take]; omega
    unfold ref30_Columns_s2
    exact condTI (decide_eq_true (by omega)) (thenI (lp_get hx) (grdI ⟨by omega, by omega⟩ (grdI ⟨by omega, by omega⟩ ih)))
theorem rcolumns_v (s : ByteArray) (hs : s.size ≤ 100000) (l : List Cell) (hl : ∀ c ∈ l, okC s c) (hn : l.length ≤ 100000) : ref30_Columns_v s l = some (colsum (l.take (eN (spB s) l))) := by
  unfold ref30_Columns_v
  refine joinI ((rcol1 s hs l hl hn _ l.length fuel (Nat.le_refl _) (big_fuel (by omega))).trans (joinI ?_))
  rw [List.take_length]
  exact rcol2 l (fun c hc => (hl c hc).2.2.2) (eN (spB s) l) (eN_le _ _) hn _ (eN (spB s) l) 0 fuel (by omega) (big_fuel (by have := eN_le (spB s) l; omega))
theorem rroom_v (l : Gapi_Layout) (i : Int) (f : Nat) (h1 : I64 (l.Width - i)) (h2 : I64 (l.Width - l.Turn)) : ref30_Room_v l i ((f : Int) == 0) = some (roomN (max 1 (l.Width - i)) (l.Width - l.Turn) f) := by
  unfold ref30_Room_v roomN
  by_cases h : f = 0
  · rw [if_pos h, beqI (by omega)]
    refine condFI rfl (grdI h1 ?_)
    by_cases h3 : l.Width - i < 1
    · refine condTI (decide_eq_true h3) ?_
      rw [show max 1 (l.Width - i) = 1 by omega]
    · refine condFI (decide_eq_false h3) (grdI h1 ?_)
      rw [show max 1 (l.Width - i) = l.Width - i by omega]
  · rw [if_neg h, beqF (by omega)]
    exact condTI rfl (grdI h2 rfl)
/-! ### Segments -/
def segL (C : List Cell) (f t : Nat) : List Cell := (C.drop f).take (t - f)
theorem cutL_seg (C : List Cell) (f t : Nat) (h : f ≤ t) : cutL C (f : Int) (t : Int) = segL C f t := by
  unfold cutL segL
  rw [Int.toNat_natCast, Int.toNat_natCast]
theorem seg_len (C : List Cell) (f t : Nat) (h : t ≤ C.length) : (segL C f t).length = t - f := by
  unfold segL; rw [List.length_take, List.length_drop]; omega
theorem seg_get (C : List Cell) (f t k : Nat) (h : k < t - f) : (segL C f t)[k]? = C[f + k]? := by
  unfold segL; rw [List.getElem?_take, if_pos h, List.getElem?_drop]
theorem seg_eN (sp : Cell → Bool) (C : List Cell) (f : Nat) : ∀ (d : Nat), f + d ≤ C.length → eN sp (segL C f (f + d)) = eN sp (C.take (f + d)) - f
  | 0, h => by
    have := eN_le sp (C.take f)
    rw [List.length_take] at this
    have e : segL C f (f + 0) = [] := by unfold segL; simp
    rw [e, eN_nil]
    show 0 = eN sp (C.take f) - f
    omega
  | d + 1, h => by
    have ih := seg_eN sp C f d (by omega)
    have hx : C[f + d]? = some C[f + d] := List.getElem?_eq_getElem (by omega)
    have e : segL C f (f + (d + 1)) = segL C f (f + d) ++ [C[f + d]] := by
      unfold segL
      rw [show f + (d + 1) - f = d + 1 by omega, show f + d - f = d by omega]
      exact take_snocP (by rw [List.getElem?_drop]; exact hx)
    have hl := seg_len C f (f + d) (by omega)
    rw [e, eN_snoc, ih, show f + (d + 1) = f + d + 1 by omega, take_snocP hx, eN_snoc]
    split
    · rfl
    · rw [hl, List.length_take]; omega
theorem seg_sum (C : List Cell) (f t m : Nat) (hf : f ≤ C.length) (h : m ≤ t - f) : colsum ((segL C f t).take m) = colsum (C.take (f + m)) - colsum (C.take f) := by
  have e : C.take (f + m) = C.take f ++ (segL C f t).take m := by
    unfold segL
    rw [List.take_take, Nat.min_eq_left h, List.take_add]
  rw [e, colsum_app]; omega
theorem all_eN (sp : Cell → Bool) (k : Nat) : ∀ (l : List Cell), (l.drop k).all sp = decide (eN sp l ≤ k) := by
  intro l
  rcases List.eq_nil_or_concat l with rfl | ⟨D, x, rfl⟩
  · simp [eN_nil]
  · rw [List.concat_eq_append, eN_snoc]
    have ih := all_eN sp k D
    by_cases h : k ≤ D.length
    · rw [List.drop_append_of_le_length h, List.all_append, ih]
      cases hx : sp x with
      | true => rw [if_pos rfl]; simp [hx]
      | false => rw [if_neg (by decide), decide_eq_false (show ¬ D.length + 1 ≤ k by omega)]; simp [hx]
    · have h1 := eN_le sp (D ++ [x])
      rw [eN_snoc, List.length_append] at h1
      simp only [List.length_cons, List.length_nil] at h1
      rw [List.drop_of_length_le (by simp; omega), decide_eq_true (by omega)]; rfl
termination_by l => l.length
decreasing_by rename_i e; subst e; simp
theorem seg_okC {s : ByteArray} (f t : Nat) : ∀ c ∈ segL (cellsS s) f t, okC s c := fun c hc => cells_okC s c (List.mem_of_mem_drop (List.mem_of_mem_take hc))
section
variable {s : ByteArray} (hs : s.size ≤ 100000)
include hs
theorem rcolN (f t : Nat) (hf : f < t) (ht : t ≤ (cellsS s).length) : ref30_Columns_v s (segL (cellsS s) f t) = some (colN (spB s) (cellsS s) f t) := by
  have hle := cs_le hs
  have hl := seg_len (cellsS s) f t ht
  have he := seg_eN (spB s) (cellsS s) f (t - f) (by omega)
  rw [show f + (t - f) = t by omega] at he
  have h2 := eN_le (spB s) ((cellsS s).take t)
  rw [List.length_take] at h2
  rw [rcolumns_v s hs _ (seg_okC f t) (by omega), he, seg_sum _ _ _ _ (by omega) (by omega)]
  unfold colN
  rw [show f + (eN (spB s) ((cellsS s).take t) - f) = max f (eN (spB s) ((cellsS s).take t)) by omega]
theorem rrow_go (l : List Cell) (hl : ∀ c ∈ l, okC s c) (hn : l.length ≤ 100000) : ∀ (d k m : Nat), k + d = l.length → d < m → loopG (fun _ => none) (ref30_Row_s1 s l (some true)) m (k : Int) = some ((l.drop k).all (spB s))
  | 0, k, m, h, hm => by
    obtain ⟨m, rfl⟩ : ∃ q, m = q + 1 := ⟨m - 1, by omega⟩
    rw [loopI]
    generalize loopG (fun _ => none) (ref30_Row_s1 s l (some true)) m = ag
    unfold ref30_Row_s1
    refine condFI (decide_eq_false (by omega)) ?_
    rw [List.drop_of_length_le (by omega)]; rfl
  | d + 1, k, m, h, hm => by
    obtain ⟨m, rfl⟩ : ∃ q, m = q + 1 := ⟨m - 1, by omega⟩
    have ih := rrow_go l hl hn d (k + 1) m (by omega) (by omega)
    rw [loopI]
    generalize loopG (fun _ => none) (ref30_Row_s1 s l (some true)) m = ag at ih ⊢
    have hx : l[k]? = some l[k] := List.getElem?_eq_getElem (by omega)
    rw [show ((k + 1 : Nat) : Int) = (k : Int) + 1 by omega] at ih
    unfold ref30_Row_s1
    rw [List.drop_eq_getElem_cons (show k < l.length by omega), List.all_cons]
    refine condTI (decide_eq_true (by omega)) (thenI (lp_get hx) (thenI (rspace_v s hs _ (hl _ (List.mem_of_getElem? hx))) ?_))
    cases spB s l[k] with
    | true => exact condFI rfl (grdI ⟨by omega, by omega⟩ ih)
    | false => exact condTI rfl rfl
theorem rrow_v {a b : Int} (f t : Nat) (hf : f < t) (ht : t ≤ (cellsS s).length) : ref30_Row_v s (cutL (cellsS s) (f : Int) (t : Int)) (roomN a b f) ((f : Int) == 0) = some (rowN (spB s) (cellsS s) a b f t) := by
  have hle := cs_le hs
  rw [cutL_seg _ _ _ (by omega)]
  have hl := seg_len (cellsS s) f t ht
  have hok := seg_okC (s := s) f t
  have hx : (segL (cellsS s) f t)[0]? = some (cellsS s)[f] := by rw [seg_get _ _ _ _ (by omega)]; exact List.getElem?_eq_getElem (by omega)
  have he := seg_eN (spB s) (cellsS s) f (t - f) (by omega)
  rw [show f + (t - f) = t by omega] at he
  have hsp : spAt (spB s) (cellsS s) f = spB s (cellsS s)[f] := by unfold spAt; rw [List.getElem?_eq_getElem (by omega)]
  unfold ref30_Row_v rowN
  have tail : (andThen (ref30_Columns_v s (segL (cellsS s) f t)) fun (r2 : Int) => bcond (decide ((r2 : Int) ≤ (roomN a b f))) (some true) (joinK (fun (j2 : Option Bool) => loopG (fun _ => none) (ref30_Row_s1 s (segL (cellsS s) f t) j2) fuel 1) (some true))) = some (decide (colN (spB s) (cellsS s) f t ≤ roomN a b f) || decide (eN (spB s) ((cellsS s).take t) ≤ f + 1)) := by
    refine thenI (rcolN hs f t hf ht) ?_
    by_cases h : colN (spB s) (cellsS s) f t ≤ roomN a b f
    · rw [decide_eq_true h]; exact condTI rfl rfl
    · rw [decide_eq_false h]
      refine condFI rfl (joinI ((rrow_go hs (segL (cellsS s) f t) hok (by omega) (t - f - 1) 1 fuel (by omega) (big_fuel (by omega))).trans ?_))
      rw [all_eN, he, Bool.false_or]
      congr 1
      by_cases h2 : eN (spB s) ((cellsS s).take t) ≤ f + 1
      · rw [decide_eq_true h2, decide_eq_true (by omega)]
      · rw [decide_eq_false h2, decide_eq_false (by omega)]
  refine joinI (condFI (beqF (by omega)) ?_)
  by_cases h0 : 0 < f
  · rw [decide_eq_true h0, beqF (by omega : (f : Int) ≠ 0), hsp]
    refine condTI rfl (thenI (getO_of (n := 0) rfl hx) (thenI (rspace_v s hs _ (cells_okC s _ (List.getElem_mem _))) ?_))
    cases spB s (cellsS s)[f] with
    | true => exact condTI rfl rfl
    | false => exact condFI rfl tail
  · rw [decide_eq_false h0, beqI (by omega : (f : Int) = 0)]
    exact condFI rfl tail
theorem rcost_v {a b : Int} (ha : 0 ≤ a ∧ a ≤ 1000000) (hb : 0 ≤ b ∧ b ≤ 1000000) (f t : Nat) (hf : f < t) (ht : t ≤ (cellsS s).length) : ref30_RowCost_v s (cutL (cellsS s) (f : Int) (t : Int)) (roomN a b f) = some (costN (spB s) (cellsS s) a b f t) := by
  have hle := cs_le hs
  have h1 := room_rng ha hb f
  have h2 := colN_rng hs f t
  have h3 := costN_rng hs ha hb f t
  rw [cutL_seg _ _ _ (by omega)]
  have hl := seg_len (cellsS s) f t ht
  have hx : (segL (cellsS s) f t)[t - f - 1]? = some (cellsS s)[t - 1] := by
    rw [seg_get _ _ _ _ (by omega), show f + (t - f - 1) = t - 1 by omega]; exact List.getElem?_eq_getElem (by omega)
  have hsp : spAt (spB s) (cellsS s) (t - 1) = spB s (cellsS s)[t - 1] := by unfold spAt; rw [List.getElem?_eq_getElem (by omega)]
  unfold ref30_RowCost_v
  refine joinI (thenI (rcolN hs f t hf ht) (grdI ⟨by omega, by omega⟩ ?_))
  have tail : ∀ n : Int, 0 ≤ n → n ≤ 2000000000000 → joinK (fun (j2 : Int → Option Int) => grd (I64 (((segL (cellsS s) f t).length : Int) - 1)) <| andThen (getO (segL (cellsS s) f t) (((segL (cellsS s) f t).length : Int) - 1)) fun (q1 : Gapi_Cell) => andThen (ref30_Space_v s q1) fun (r2 : Bool) => bcond (!r2) (grd (I64 (n + 1000)) <| j2 (n + 1000)) (j2 n)) (fun (n2 : Int) => some n2) = some (n + (if spAt (spB s) (cellsS s) (t - 1) then 0 else 1000)) := by
    intro n hn1 hn2
    refine joinI (grdI ⟨by omega, by omega⟩ (thenI (getO_of (n := t - f - 1) (by omega) hx) (thenI (rspace_v s hs _ (cells_okC s _ (List.getElem_mem _))) ?_)))
    rw [hsp]
    cases spB s (cellsS s)[t - 1] with
    | true => exact condFI rfl (congrArg some (Int.add_zero n).symm)
    | false => exact condTI rfl (grdI ⟨by omega, by omega⟩ rfl)
  unfold costN at h3 ⊢
  have hq : (if spAt (spB s) (cellsS s) (t - 1) then (0 : Int) else 1000) ≤ 1000 ∧ 0 ≤ (if spAt (spB s) (cellsS s) (t - 1) then (0 : Int) else 1000) := by split <;> omega
  by_cases h : 0 < roomN a b f - colN (spB s) (cellsS s) f t
  · rw [if_pos h] at h3 ⊢
    have hm : 0 ≤ (roomN a b f - colN (spB s) (cellsS s) f t) * (roomN a b f - colN (spB s) (cellsS s) f t) := Int.mul_nonneg (by omega) (by omega)
    refine condTI (decide_eq_true h) (grdI ⟨by omega, by omega⟩ (tail _ hm (by omega)))
  · rw [if_neg h]
    exact condFI (decide_eq_false h) (tail 0 (by omega) (by omega))
end
end Go.Proofs.Ytnhdnpdbmgeheaa
namespace Go.Proofs.Ytnhdnpdbmgeheaa
open Go.RowKit Go.Lib
set_option linter.unusedVariables false
set_option linter.unusedSimpArgs false
/-- The better one; the right one where they are alike. -/
def opB (a b : Bst) : Bst := if b.rows < 0 then a else if a.rows < 0 ∨ b.cost < a.cost ∨ (b.cost = a.cost ∧ b.rows ≤ a.rows) then b else a
theorem opB_assoc (x y z : Bst) (hy : 0 ≤ y.rows) : opB (opB x y) z = opB x (opB y z) := by
  unfold opB
  repeat' split
  all_goals first | rfl | omega
section
variable {R : Nat → Nat → Bool} {K : Nat → Nat → Int} {n : Nat}
def addB (x : Bst) : Option Bst → Bst
  | none => x
  | some y => opB y x
def foldD (R : Nat → Nat → Bool) (K : Nat → Nat → Int) (n : Nat) (T : Nat → Bst) (f : Nat) : Nat → Nat → Bst
  | 0, _ => bm
  | d + 1, t => addB (foldD R K n T f d (t + 1)) (cndB R K n T f t)
theorem fold_down {T : Nat → Bst} {f : Nat} (hT : ∀ t y, cndB R K n T f t = some y → 0 ≤ y.rows) : ∀ (d t : Nat) (x : Bst), foldB R K n T f d t x = opB x (foldD R K n T f d t)
  | 0, t, x => by
    show x = opB x bm
    unfold opB
    rw [if_pos (show bm.rows < 0 by decide)]
  | d + 1, t, x => by
    have ih := fold_down hT d (t + 1)
    unfold foldB foldD
    rw [ih]
    cases hc : cndB R K n T f t with
    | none => rfl
    | some y =>
      have hy := hT t y hc
      show opB (updB x (some y)) _ = opB x (opB y _)
      rw [← opB_assoc _ _ _ hy]
      have e : updB x (some y) = opB x y := by
        rw [updB_some]
        unfold opB
        rw [if_neg (show ¬ y.rows < 0 by omega)]
      rw [e]
theorem foldD_rows {T : Nat → Bst} {f : Nat} (hT : ∀ t y, cndB R K n T f t = some y → 0 ≤ y.rows) : ∀ (d t : Nat), foldD R K n T f d t = bm ∨ 0 ≤ (foldD R K n T f d t).rows
  | 0, t => .inl rfl
  | d + 1, t => by
    have ih := foldD_rows hT d (t + 1)
    unfold foldD
    cases hc : cndB R K n T f t with
    | none => exact ih
    | some y =>
      have hy := hT t y hc
      refine .inr ?_
      show 0 ≤ (opB y _).rows
      unfold opB
      split
      · exact hy
      · split
        · omega
        · exact hy
theorem fold_bm {T : Nat → Bst} {f : Nat} (hT : ∀ t y, cndB R K n T f t = some y → 0 ≤ y.rows) (d t : Nat) : foldB R K n T f d t bm = foldD R K n T f d t := by
  rw [fold_down hT]
  rcases foldD_rows hT d t with h | h
  · rw [h]; rfl
  · unfold opB
    rw [if_neg (by omega), if_pos (.inl (by decide))]
theorem Bf_end : ∀ (k : Nat), Bf R K n k n = b0
  | 0 => rfl
  | k + 1 => by rw [Bf_succ, if_neg (by omega)]; exact Bf_end k
end
/-! ### Three lists for one -/
def tC (T : Nat → Bst) (n : Nat) : List Int := (tabB T n).map (·.cost)
def tR (T : Nat → Bst) (n : Nat) : List Int := (tabB T n).map (·.rows)
def tN (T : Nat → Bst) (n : Nat) : List Int := (tabB T n).map (·.to_)
theorem t_get (g : Bst → Int) (T : Nat → Bst) (n k : Nat) (h : k ≤ n) : ((tabB T n).map g)[k]? = some (g (T k)) := by rw [List.getElem?_map, tabB_get T n k h]; rfl
theorem t_ne (g : Bst → Int) (T : Nat → Bst) (n f k : Nat) (x : Int) (h : k ≤ n) (hne : f ≠ k) : getO (((tabB T n).map g).set f x) (k : Int) = some (g (T k)) := lp_get (by rw [List.getElem?_set_ne hne]; exact t_get g T n k h)
theorem t_eq (g : Bst → Int) (T : Nat → Bst) (n f : Nat) (x : Int) (h : f ≤ n) : getO (((tabB T n).map g).set f x) (f : Int) = some x := lp_get (by rw [List.getElem?_set_self (by rw [List.length_map, tabB_len]; omega)])
section
variable {s : ByteArray} {a b : Int} (hs : s.size ≤ 100000) (ha : 0 ≤ a ∧ a ≤ 1000000) (hb : 0 ≤ b ∧ b ≤ 1000000)
include hs ha hb
theorem rt_in (k f : Nat) (hf : f < (cellsS s).length) (hk : k ≤ 100000) (j2 : List Int → List Int → List Int → Option ((List ByteArray) × Int)) :
    ∀ (e t m : Nat) (x : Bst), t = f + e → t ≤ (cellsS s).length → e < m → x = foldD (Rs s a b) (Ks s a b) (cellsS s).length (Bf (Rs s a b) (Ks s a b) (cellsS s).length k) f ((cellsS s).length - t) (t + 1) →
    loopG (fun _ _ _ _ => none) (ref30_Turn_s2 s (cellsS s) (f : Int) j2 (roomN a b f)) m ((tC (Bf (Rs s a b) (Ks s a b) (cellsS s).length k) (cellsS s).length).set f x.cost) ((tR (Bf (Rs s a b) (Ks s a b) (cellsS s).length k) (cellsS s).length).set f x.rows) ((tN (Bf (Rs s a b) (Ks s a b) (cellsS s).length k) (cellsS s).length).set f x.to_) (t : Int) =
    (let y := foldD (Rs s a b) (Ks s a b) (cellsS s).length (Bf (Rs s a b) (Ks s a b) (cellsS s).length k) f ((cellsS s).length - f) (f + 1); j2 ((tC (Bf (Rs s a b) (Ks s a b) (cellsS s).length k) (cellsS s).length).set f y.cost) ((tR (Bf (Rs s a b) (Ks s a b) (cellsS s).length k) (cellsS s).length).set f y.rows) ((tN (Bf (Rs s a b) (Ks s a b) (cellsS s).length k) (cellsS s).length).set f y.to_)) := by
  have hle := cs_le hs
  have hK := costN_rng hs ha hb
  have hok := Bf_ok (R := Rs s a b) (K := Ks s a b) (n := (cellsS s).length) hK k
  have hTn := Bf_end (R := Rs s a b) (K := Ks s a b) (n := (cellsS s).length) k
  intro e
  induction e with
  | zero =>
    intro t m x ht htn hm hx
    obtain ⟨m, rfl⟩ : ∃ q, m = q + 1 := ⟨m - 1, by omega⟩
    rw [loopI]
    generalize loopG (fun _ _ _ _ => none) (ref30_Turn_s2 s (cellsS s) (f : Int) j2 (roomN a b f)) m = ag
    have : t = f := by omega
    subst this; subst hx
    unfold ref30_Turn_s2
    exact condFI (decide_eq_false (by omega)) rfl
  | succ e ih =>
    intro t m x ht htn hm hx
    obtain ⟨m, rfl⟩ : ∃ q, m = q + 1 := ⟨m - 1, by omega⟩
    have ih' := fun y => ih (t - 1) m y (by omega) (by omega) (by omega)
    rw [loopI]
    rw [show (cellsS s).length - (t - 1) = (cellsS s).length - t + 1 by omega, show t - 1 + 1 = t by omega] at ih'
    rw [show ((t - 1 : Nat) : Int) = (t : Int) - 1 by omega] at ih'
    generalize loopG (fun _ _ _ _ => none) (ref30_Turn_s2 s (cellsS s) (f : Int) j2 (roomN a b f)) m = ag at ih' ⊢
    have hstep : foldD (Rs s a b) (Ks s a b) (cellsS s).length (Bf (Rs s a b) (Ks s a b) (cellsS s).length k) f ((cellsS s).length - t + 1) t = addB x (cndB (Rs s a b) (Ks s a b) (cellsS s).length (Bf (Rs s a b) (Ks s a b) (cellsS s).length k) f t) := by rw [hx]; rfl
    rw [hstep] at ih'
    have hcnd : cndB (Rs s a b) (Ks s a b) (cellsS s).length (Bf (Rs s a b) (Ks s a b) (cellsS s).length k) f t = if rowN (spB s) (cellsS s) a b f t = true then (if t < (cellsS s).length then (if (Bf (Rs s a b) (Ks s a b) (cellsS s).length k t).rows < 0 then none else some ⟨Ks s a b f t + (Bf (Rs s a b) (Ks s a b) (cellsS s).length k t).cost, (Bf (Rs s a b) (Ks s a b) (cellsS s).length k t).rows + 1, (t : Int)⟩) else some ⟨0, 1, (t : Int)⟩) else none := rfl
    generalize hT : Bf (Rs s a b) (Ks s a b) (cellsS s).length k = T at *
    generalize foldD (Rs s a b) (Ks s a b) (cellsS s).length T f ((cellsS s).length - f) (f + 1) = yy at ih' ⊢
    clear hstep hx
    have gRt := fun x => t_ne (·.rows) T (cellsS s).length f t x htn (by omega)
    have gCt := fun x => t_ne (·.cost) T (cellsS s).length f t x htn (by omega)
    have gRf := fun x => t_eq (·.rows) T (cellsS s).length f x (by omega)
    have gCf := fun x => t_eq (·.cost) T (cellsS s).length f x (by omega)
    have gNf := fun x => t_eq (·.to_) T (cellsS s).length f x (by omega)
    have hnext : ∀ y : Bst, y = addB x (cndB (Rs s a b) (Ks s a b) (cellsS s).length T f t) → (grd (I64 ((t : Int) - 1)) <| ag ((tC T (cellsS s).length).set f y.cost) ((tR T (cellsS s).length).set f y.rows) ((tN T (cellsS s).length).set f y.to_) ((t : Int) - 1)) = j2 ((tC T (cellsS s).length).set f yy.cost) ((tR T (cellsS s).length).set f yy.rows) ((tN T (cellsS s).length).set f yy.to_) := fun y hy => grdI ⟨by omega, by omega⟩ (ih' y hy)
    obtain ⟨o1, o2, o3, o4⟩ := hok t
    have hk2 := hK f t
    have hI : I64 ((T t).rows + 1) := ⟨by omega, by omega⟩
    have hsets : ∀ (L : List Int) (u v : Int), (L.set f u).set ((f : Int).toNat) v = L.set f v := fun L u v => by rw [Int.toNat_natCast, List.set_set]
    unfold ref30_Turn_s2
    refine condTI (decide_eq_true (by omega)) (joinI (grdI ⟨by omega, by omega, by omega⟩ (thenI (rrow_v hs f t (by omega) htn) ?_)))
    cases hR : rowN (spB s) (cellsS s) a b f t with
    | false => exact condTI rfl (hnext x (by rw [hcnd, hR, if_neg (by decide)]; rfl))
    | true =>
      rw [hR, if_pos rfl] at hcnd
      refine condFI rfl (thenI (gRt _) ?_)
      by_cases hn : (T t).rows < 0
      · refine condTI (decide_eq_true hn) (hnext x ?_)
        have htn2 : t < (cellsS s).length := by
          rcases Nat.lt_or_ge t (cellsS s).length with h | h
          · exact h
          · have e : t = (cellsS s).length := by omega
            rw [e, hTn] at hn; exact absurd hn (by decide)
        rw [hcnd, if_pos htn2, if_pos hn]; rfl
      refine condFI (decide_eq_false hn) ?_
      -- the candidate
      have hy : ∃ y : Bst, cndB (Rs s a b) (Ks s a b) (cellsS s).length T f t = some y ∧ y.rows = (T t).rows + 1 ∧ y.to_ = (t : Int) ∧ y.cost = (if t < (cellsS s).length then (T t).cost + Ks s a b f t else (T t).cost) := by
        by_cases htn2 : t < (cellsS s).length
        · rw [if_pos htn2] at hcnd ⊢
          rw [if_neg hn] at hcnd
          exact ⟨_, hcnd, rfl, rfl, Int.add_comm _ _⟩
        · rw [if_neg htn2] at hcnd ⊢
          have e : t = (cellsS s).length := by omega
          refine ⟨_, hcnd, ?_, rfl, ?_⟩ <;> rw [e, hTn] <;> rfl
      obtain ⟨y, hc, y1, y2, y3⟩ := hy
      rw [hc] at hnext
      have main : ∀ c1 : Int, c1 = y.cost → (andThen (getO ((tR T (cellsS s).length).set f x.rows) (f : Int)) fun (q4 : Int) => bcond (decide ((q4 : Int) < 0)) (andThen (getO ((tR T (cellsS s).length).set f x.rows) (t : Int)) fun (q5 : Int) => grd (I64 (q5 + 1)) <| andThen (getO ((tC T (cellsS s).length).set f x.cost) (f : Int)) fun (q6 : Int) => andThen (getO ((tR T (cellsS s).length).set f x.rows) (f : Int)) fun (q7 : Int) => andThen (getO ((tN T (cellsS s).length).set f x.to_) (f : Int)) fun (q8 : Int) =>
            grd (I64 ((t : Int) - 1)) <| ag (((tC T (cellsS s).length).set f x.cost).set (f : Int).toNat c1) (((tR T (cellsS s).length).set f x.rows).set (f : Int).toNat (q5 + 1)) (((tN T (cellsS s).length).set f x.to_).set (f : Int).toNat (t : Int)) ((t : Int) - 1))
          (andThen (getO ((tC T (cellsS s).length).set f x.cost) (f : Int)) fun (q9 : Int) => bcond (decide ((c1 : Int) < q9)) (andThen (getO ((tR T (cellsS s).length).set f x.rows) (t : Int)) fun (q10 : Int) => grd (I64 (q10 + 1)) <| andThen (getO ((tC T (cellsS s).length).set f x.cost) (f : Int)) fun (q11 : Int) => andThen (getO ((tR T (cellsS s).length).set f x.rows) (f : Int)) fun (q12 : Int) => andThen (getO ((tN T (cellsS s).length).set f x.to_) (f : Int)) fun (q13 : Int) =>
            grd (I64 ((t : Int) - 1)) <| ag (((tC T (cellsS s).length).set f x.cost).set (f : Int).toNat c1) (((tR T (cellsS s).length).set f x.rows).set (f : Int).toNat (q10 + 1)) (((tN T (cellsS s).length).set f x.to_).set (f : Int).toNat (t : Int)) ((t : Int) - 1))
          (bcond ((c1 : Int) == q9) (andThen (getO ((tR T (cellsS s).length).set f x.rows) (t : Int)) fun (q14 : Int) => grd (I64 (q14 + 1)) <| bcond (decide (((q14 + 1) : Int) < q4)) (andThen (getO ((tR T (cellsS s).length).set f x.rows) (t : Int)) fun (q15 : Int) => grd (I64 (q15 + 1)) <| andThen (getO ((tC T (cellsS s).length).set f x.cost) (f : Int)) fun (q16 : Int) => andThen (getO ((tR T (cellsS s).length).set f x.rows) (f : Int)) fun (q17 : Int) => andThen (getO ((tN T (cellsS s).length).set f x.to_) (f : Int)) fun (q18 : Int) =>
            grd (I64 ((t : Int) - 1)) <| ag (((tC T (cellsS s).length).set f x.cost).set (f : Int).toNat c1) (((tR T (cellsS s).length).set f x.rows).set (f : Int).toNat (q15 + 1)) (((tN T (cellsS s).length).set f x.to_).set (f : Int).toNat (t : Int)) ((t : Int) - 1))
            (grd (I64 ((t : Int) - 1)) <| ag ((tC T (cellsS s).length).set f x.cost) ((tR T (cellsS s).length).set f x.rows) ((tN T (cellsS s).length).set f x.to_) ((t : Int) - 1)))
            (grd (I64 ((t : Int) - 1)) <| ag ((tC T (cellsS s).length).set f x.cost) ((tR T (cellsS s).length).set f x.rows) ((tN T (cellsS s).length).set f x.to_) ((t : Int) - 1))))) = j2 ((tC T (cellsS s).length).set f yy.cost) ((tR T (cellsS s).length).set f yy.rows) ((tN T (cellsS s).length).set f yy.to_) := by
        rintro c1 rfl
        have hput : (grd (I64 ((t : Int) - 1)) <| ag (((tC T (cellsS s).length).set f x.cost).set (f : Int).toNat y.cost) (((tR T (cellsS s).length).set f x.rows).set (f : Int).toNat ((T t).rows + 1)) (((tN T (cellsS s).length).set f x.to_).set (f : Int).toNat (t : Int)) ((t : Int) - 1)) = (grd (I64 ((t : Int) - 1)) <| ag ((tC T (cellsS s).length).set f y.cost) ((tR T (cellsS s).length).set f y.rows) ((tN T (cellsS s).length).set f y.to_) ((t : Int) - 1)) := by
          rw [hsets, hsets, hsets, y1, y2]
        have hadd : addB x (some y) = opB y x := rfl
        rw [hadd] at hnext
        unfold opB at hnext
        refine thenI (gRf _) ?_
        by_cases h1 : x.rows < 0
        · rw [if_pos h1] at hnext
          exact condTI (decide_eq_true h1) (thenI (gRt _) (grdI hI (thenI (gCf _) (thenI (gRf _) (thenI (gNf _) (hput.trans (hnext y rfl)))))))
        rw [if_neg h1] at hnext
        refine condFI (decide_eq_false h1) (thenI (gCf _) ?_)
        by_cases h2 : y.cost < x.cost
        · rw [if_neg (by omega)] at hnext
          exact condTI (decide_eq_true h2) (thenI (gRt _) (grdI hI (thenI (gCf _) (thenI (gRf _) (thenI (gNf _) (hput.trans (hnext y rfl)))))))
        refine condFI (decide_eq_false h2) ?_
        by_cases h3 : y.cost = x.cost
        · refine condTI (beqI h3) (thenI (gRt _) (grdI hI ?_))
          by_cases h4 : (T t).rows + 1 < x.rows
          · rw [if_neg (by omega)] at hnext
            exact condTI (decide_eq_true h4) (thenI (gRt _) (grdI hI (thenI (gCf _) (thenI (gRf _) (thenI (gNf _) (hput.trans (hnext y rfl)))))))
          · rw [if_pos (by omega)] at hnext
            exact condFI (decide_eq_false h4) (hnext x rfl)
        · rw [if_pos (by omega)] at hnext
          exact condFI (beqF h3) (hnext x rfl)
      refine joinI (thenI (gCt _) ?_)
      by_cases htn2 : t < (cellsS s).length
      · rw [if_pos htn2] at y3
        have hk3 : 0 ≤ Ks s a b f t ∧ Ks s a b f t ≤ 2000000000000 := hk2
        refine condTI (decide_eq_true (by omega)) (grdI ⟨by omega, by omega, by omega⟩ (thenI (rcost_v hs ha hb f t (by omega) htn) (grdI ⟨?_, ?_⟩ (main _ y3.symm))))
        · show -9223372036854775808 ≤ (T t).cost + Ks s a b f t; omega
        · show (T t).cost + Ks s a b f t ≤ 9223372036854775807; omega
      · rw [if_neg htn2] at y3
        exact condFI (decide_eq_false (by omega)) (main _ y3.symm)
end
end Go.Proofs.Ytnhdnpdbmgeheaa
namespace Go.Proofs.Ytnhdnpdbmgeheaa
open Go.RowKit Go.Lib
set_option linter.unusedVariables false
set_option linter.unusedSimpArgs false
theorem t_succ (g : Bst → Int) {T T' : Nat → Bst} {n f : Nat} (hf : f ≤ n) (h1 : ∀ j, j ≠ f → T' j = T j) : ((tabB T n).map g).set f (g (T' f)) = (tabB T' n).map g := by
  rw [← tab_succ hf h1, List.map_set]
theorem t_same (g : Bst → Int) {T : Nat → Bst} {n f : Nat} (hf : f ≤ n) {v : Int} (h : v = g (T f)) : ((tabB T n).map g).set f v = (tabB T n).map g := by
  subst h; exact set_same (t_get g T n f hf)
theorem tab_b0 (R : Nat → Nat → Bool) (K : Nat → Nat → Int) (n : Nat) : tabB (Bf R K n 0) n = List.replicate (n + 1) b0 := by
  apply List.ext_getElem?
  intro j
  by_cases hj : j ≤ n
  · rw [tabB_get _ _ j hj, List.getElem?_replicate, if_pos (by omega)]; rfl
  · rw [List.getElem?_eq_none (by rw [tabB_len]; omega), List.getElem?_eq_none (by rw [List.length_replicate]; omega)]
section
variable {s : ByteArray} {a b : Int} (hs : s.size ≤ 100000) (ha : 0 ≤ a ∧ a ≤ 1000000) (hb : 0 ≤ b ∧ b ≤ 1000000)
include hs ha hb
theorem rt_out (i : Int) (l : Gapi_Layout) (hI : I64 (l.Width - i)) (hI2 : I64 (l.Width - l.Turn)) (ea : a = max 1 (l.Width - i)) (eb : b = l.Width - l.Turn) (j1 : List Gapi_Cell → Int → List Int → List Int → Option ((List ByteArray) × Int)) : ∀ (d k m : Nat), k + d = (cellsS s).length → d < m →
    loopG (fun _ _ _ _ => none) (ref30_Turn_s1 s i l j1 (cellsS s)) m (tC (Bf (Rs s a b) (Ks s a b) (cellsS s).length k) (cellsS s).length) (tR (Bf (Rs s a b) (Ks s a b) (cellsS s).length k) (cellsS s).length) (tN (Bf (Rs s a b) (Ks s a b) (cellsS s).length k) (cellsS s).length) (((cellsS s).length : Int) - 1 - (k : Int)) =
    j1 (cellsS s) ((cellsS s).length : Int) (tC (TT s a b) (cellsS s).length) (tN (TT s a b) (cellsS s).length) := by
  have hle := cs_le hs
  have hK := costN_rng hs ha hb
  intro d
  induction d with
  | zero =>
    intro k m hk hm
    obtain ⟨m, rfl⟩ : ∃ q, m = q + 1 := ⟨m - 1, by omega⟩
    rw [loopI]
    generalize loopG (fun _ _ _ _ => none) (ref30_Turn_s1 s i l j1 (cellsS s)) m = ag
    unfold ref30_Turn_s1
    refine condFI (decide_eq_false (by omega)) ?_
    rw [show k = (cellsS s).length by omega]; rfl
  | succ d ih =>
    intro k m hk hm
    obtain ⟨m, rfl⟩ : ∃ q, m = q + 1 := ⟨m - 1, by omega⟩
    have ih' := ih (k + 1) m (by omega) (by omega)
    rw [loopI]
    generalize loopG (fun _ _ _ _ => none) (ref30_Turn_s1 s i l j1 (cellsS s)) m = ag at ih' ⊢
    obtain ⟨f, hf⟩ : ∃ f : Nat, f + (k + 1) = (cellsS s).length := ⟨d, by omega⟩
    rw [show ((cellsS s).length : Int) - 1 - (k : Int) = (f : Int) by omega]
    rw [show ((cellsS s).length : Int) - 1 - ((k + 1 : Nat) : Int) = (f : Int) - 1 by omega] at ih'
    have hb0 : Bf (Rs s a b) (Ks s a b) (cellsS s).length k f = b0 := Bf_lt k f (by omega)
    have hcand : ∀ t y, cndB (Rs s a b) (Ks s a b) (cellsS s).length (Bf (Rs s a b) (Ks s a b) (cellsS s).length k) f t = some y → 0 ≤ y.rows := fun t y h => (cndB_ok hK (Bf_ok hK k) h).2
    have hfold := fold_bm (R := Rs s a b) (K := Ks s a b) (n := (cellsS s).length) hcand ((cellsS s).length - f) (f + 1)
    have hin := rt_in hs ha hb k f (by omega) (by omega) (fun (cost5 : List Int) (rows4 : List Int) (next5 : List Int) => grd (I64 ((f : Int) - 1)) <| ag cost5 rows4 next5 ((f : Int) - 1)) ((cellsS s).length - f) (cellsS s).length fuel bm (by omega) (Nat.le_refl _) (big_fuel (by omega)) (by rw [Nat.sub_self]; rfl)
    simp only at hin
    rw [← hfold] at hin
    have e1 : Bf (Rs s a b) (Ks s a b) (cellsS s).length (k + 1) f = foldB (Rs s a b) (Ks s a b) (cellsS s).length (Bf (Rs s a b) (Ks s a b) (cellsS s).length k) f ((cellsS s).length - f) (f + 1) bm := by rw [Bf_succ, if_pos hf]
    rw [← e1] at hin
    have hne : ∀ j, j ≠ f → Bf (Rs s a b) (Ks s a b) (cellsS s).length (k + 1) j = Bf (Rs s a b) (Ks s a b) (cellsS s).length k j := fun j hj => by rw [Bf_succ, if_neg (by omega)]
    unfold tC tR tN at hin ih' ⊢
    rw [t_succ (·.cost) (by omega) hne, t_succ (·.rows) (by omega) hne, t_succ (·.to_) (by omega) hne, t_same (·.cost) (by omega) (by rw [hb0]; rfl), t_same (·.to_) (by omega) (by rw [hb0]; rfl)] at hin
    unfold ref30_Turn_s1
    have hgR : getO ((tabB (Bf (Rs s a b) (Ks s a b) (cellsS s).length k) (cellsS s).length).map (·.rows)) (f : Int) = some ((Bf (Rs s a b) (Ks s a b) (cellsS s).length k f).rows) := lp_get (t_get (·.rows) _ _ f (by omega))
    refine condTI (decide_eq_true (by omega)) (joinI (thenI hgR (thenI (rroom_v l i f hI hI2) ?_)))
    rw [← ea, ← eb, Int.toNat_natCast]
    refine hin.trans (grdI ⟨by omega, by omega⟩ ih')
theorem rt_ext (j5 : List ByteArray → Option ((List ByteArray) × Int)) : ∀ (m f N : Nat) (out : List ByteArray), feasA s a b f → (cellsS s).length ≤ f + m → m < N → out.length ≤ f → f ≤ (cellsS s).length → loopG (fun _ _ => none) (ref30_Turn_s3 s (cellsS s) ((cellsS s).length : Int) (tN (TT s a b) (cellsS s).length) j5) N out (f : Int) = j5 (out ++ textsF s f (endsF s a b m f)) := by
  have hle := cs_le hs
  intro m
  induction m with
  | zero =>
    intro f N out hfe hm hN ho hf
    obtain ⟨N, rfl⟩ : ∃ q, N = q + 1 := ⟨N - 1, by omega⟩
    rw [loopI]
    generalize loopG (fun _ _ => none) (ref30_Turn_s3 s (cellsS s) ((cellsS s).length : Int) (tN (TT s a b) (cellsS s).length) j5) N = ag
    unfold ref30_Turn_s3
    refine condFI (decide_eq_false (by omega)) ?_
    show j5 out = j5 (out ++ [])
    rw [List.append_nil]
  | succ m ih =>
    intro f N out hfe hm hN ho hf
    obtain ⟨N, rfl⟩ : ∃ q, N = q + 1 := ⟨N - 1, by omega⟩
    rw [loopI]
    have ih' := fun t out => ih t N out
    generalize loopG (fun _ _ => none) (ref30_Turn_s3 s (cellsS s) ((cellsS s).length : Int) (tN (TT s a b) (cellsS s).length) j5) N = ag at ih' ⊢
    unfold ref30_Turn_s3 endsF
    by_cases h : f < (cellsS s).length
    · obtain ⟨t, h1, h2, h3, h4, h5, _⟩ := feas_to hs ha hb hfe h
      have hg : getO (tN (TT s a b) (cellsS s).length) (f : Int) = some (t : Int) := by rw [← h1]; exact lp_get (t_get (·.to_) _ _ f (by omega))
      have hx : (cellsS s)[f]? = some (cellsS s)[f] := List.getElem?_eq_getElem (by omega)
      have hy : (cellsS s)[t - 1]? = some (cellsS s)[t - 1] := List.getElem?_eq_getElem (by omega)
      obtain ⟨x1, x2, x3, x4, x5⟩ := stN_to s hx
      obtain ⟨y1, y2, y3, y4, y5⟩ := stN_to s hy
      rw [show t - 1 + 1 = t by omega] at y2
      have hl := stN_le s (t - f) f (by omega)
      rw [show f + (t - f) = t by omega] at hl
      rw [if_pos h, h1, Int.toNat_natCast]
      refine condTI (decide_eq_true (by omega)) (thenI hg (thenI (lp_get hx) (grdI ⟨by omega, by omega⟩ (thenI (getO_of (n := t - 1) (by omega) hy) (grdI ⟨by omega, by omega, by omega⟩ (grdI (by omega) ?_))))))
      rw [← x1, ← y2]
      rw [ih' t (out ++ [cutB s (stN s f) (stN s t)]) h5 (by omega) (by omega) (by rw [List.length_append]; simp; omega) h3, List.append_assoc]; rfl
    · rw [if_neg h]
      refine condFI (decide_eq_false (by omega)) ?_
      show j5 out = j5 (out ++ [])
      rw [List.append_nil]
/-- What the rows that are taken cost. -/
theorem cost_texts : ∀ (m f : Nat), feasA s a b f → f ≤ (cellsS s).length → (cellsS s).length ≤ f + m → costF s a b f (textsF s f (endsF s a b m f)) = some (TT s a b f).cost
  | 0, f, hfe, hf, hm => by
    have : f = (cellsS s).length := by omega
    subst this
    show some (0 : Int) = some (BB _ _ _ _).cost
    rw [BB_n]; rfl
  | m + 1, f, hfe, hf, hm => by
    unfold endsF
    by_cases h : f < (cellsS s).length
    · obtain ⟨t, h1, h2, h3, h4, h5, h6, h7⟩ := feas_to hs ha hb hfe h
      rw [if_pos h, h1, Int.toNat_natCast]
      have ih := cost_texts m t h5 h3 (by omega)
      have hl := stN_le s (t - f) f (by omega)
      rw [show f + (t - f) = t by omega] at hl
      have r1 := stN_rng s (k := f) (by omega)
      have r2 := stN_rng s (k := t) h3
      have hsz : ((textN s f t).size : Int) = stN s t - stN s f := by
        unfold textN
        obtain ⟨p, hp⟩ : ∃ p : Nat, stN s f = p := ⟨(stN s f).toNat, by omega⟩
        obtain ⟨q, hq⟩ : ∃ q : Nat, stN s t = (p : Int) + q := ⟨(stN s t - p).toNat, by omega⟩
        have hc := congrArg List.length (cutB_list s p q)
        rw [List.length_take, List.length_drop] at hc
        simp only [Array.length_toList] at hc
        rw [hp, hq]
        show ((cutB s p ((p : Int) + q)).data.size : Int) = _
        have : s.data.size = s.size := rfl
        rw [hc]; omega
      have hseek : seekN s (stN s f + ((textN s f t).size : Int)) ((cellsS s).length - f) f = t := by
        obtain ⟨g1, g2, g3, g4⟩ := seek_facts s (stN s f + ((textN s f t).size : Int)) ((cellsS s).length - f) f
        generalize seekN s (stN s f + ((textN s f t).size : Int)) ((cellsS s).length - f) f = t' at *
        rcases Nat.lt_trichotomy t' t with h' | h' | h'
        · rcases g3 with g3 | g3
          · omega
          · have := stN_le s (t - t') t' (by omega)
            rw [show t' + (t - t') = t by omega] at this
            omega
        · exact h'
        · have := g4 t (by omega) h'
          omega
      show costF s a b f (textN s f t :: textsF s t (endsF s a b m t)) = _
      unfold costF
      rw [if_neg (by intro e; rw [e] at hsz; have : ((⟨#[]⟩ : ByteArray).size : Int) = 0 := rfl; omega)]
      simp only
      rw [hseek, if_neg (by omega), if_pos h4, ih]
      show some ((if textsF s t (endsF s a b m t) = [] then (0 : Int) else Ks s a b f t) + (TT s a b t).cost) = _
      by_cases htn : t < (cellsS s).length
      · have hm1 : 1 ≤ m := by omega
        have hne : textsF s t (endsF s a b m t) ≠ [] := by
          obtain ⟨m', rfl⟩ : ∃ m', m = m' + 1 := ⟨m - 1, by omega⟩
          unfold endsF
          rw [if_pos htn]
          exact List.cons_ne_nil _ _
        rw [if_neg hne, h6 htn]
      · have e : t = (cellsS s).length := by omega
        have he : endsF s a b m t = [] := by
          cases m with
          | zero => rfl
          | succ m' => unfold endsF; rw [if_neg htn]
        rw [he]
        have hz : (TT s a b t).cost = 0 := by
          show (BB _ _ _ _).cost = 0
          rw [e, BB_n]; rfl
        rw [hz, h7 e]; rfl
    · rw [if_neg h]
      have : f = (cellsS s).length := by omega
      subst this
      show some (0 : Int) = some (BB _ _ _ _).cost
      rw [BB_n]; rfl
end
/-! ### The rows are the text -/
theorem cutB_full (s : ByteArray) : cutB s 0 (s.size : Int) = s := by
  apply ByteArray.ext; apply Array.toList_inj.1
  have := cutB_list s 0 s.size
  rw [show ((0 : Nat) : Int) = 0 from rfl, Int.zero_add, List.drop_zero] at this
  rw [this, List.take_of_length_le (by simp)]
theorem cutB_join (s : ByteArray) (a b c : Int) (h : 0 ≤ a ∧ a ≤ b ∧ b ≤ c) : cutB s a b ++ cutB s b c = cutB s a c := by
  obtain ⟨p, rfl⟩ : ∃ p : Nat, a = p := ⟨a.toNat, by omega⟩
  obtain ⟨m, rfl⟩ : ∃ m : Nat, b = (p : Int) + m := ⟨(b - p).toNat, by omega⟩
  obtain ⟨n, rfl⟩ : ∃ n : Nat, c = ((p + m : Nat) : Int) + n := ⟨(c - p - m).toNat, by omega⟩
  apply ByteArray.ext; apply Array.toList_inj.1
  have h1 := cutB_list s p m
  have h2 := cutB_list s (p + m) n
  have h3 := cutB_list s p (m + n)
  rw [show (p : Int) + ((m + n : Nat) : Int) = ((p + m : Nat) : Int) + (n : Int) by omega] at h3
  rw [show ((p + m : Nat) : Int) = (p : Int) + (m : Int) by omega] at h2 h3 ⊢
  rw [ByteArray.data_append, Array.toList_append, h1, h2, h3, List.take_add, List.drop_drop]
theorem cutB_nil (s : ByteArray) (a : Int) (h : 0 ≤ a) : cutB s a a = ⟨#[]⟩ := by
  obtain ⟨p, rfl⟩ : ∃ p : Nat, a = p := ⟨a.toNat, by omega⟩
  apply ByteArray.ext; apply Array.toList_inj.1
  have := cutB_list s p 0
  rw [show (p : Int) + ((0 : Nat) : Int) = (p : Int) by omega] at this
  rw [this]; rfl
theorem cat_texts (s : ByteArray) : ∀ (ts : List Nat) (f : Nat), Rise (cellsS s).length f ts → f ≤ (cellsS s).length → catL (textsF s f ts) = cutB s (stN s f) (stN s (ts.getLastD f))
  | [], f, _, hf => by
    have := stN_rng s hf
    show (⟨#[]⟩ : ByteArray) = cutB s (stN s f) (stN s f)
    rw [cutB_nil s _ this.1]
  | t :: ts, f, ⟨h1, h2, h3⟩, hf => by
    have ih := cat_texts s ts t h3 h2
    have hl := stN_le s (t - f) f (by omega)
    rw [show f + (t - f) = t by omega] at hl
    have hr := stN_rng s hf
    have hmono : ∀ (ts : List Nat) (t : Nat), Rise (cellsS s).length t ts → t ≤ (cellsS s).length → stN s t ≤ stN s (ts.getLastD t) := by
      intro ts
      induction ts with
      | nil => intro t _ _; exact Int.le_refl _
      | cons u us ih =>
        intro t ⟨g1, g2, g3⟩ _
        have := ih u g3 g2
        have hl := stN_le s (u - t) t (by omega)
        rw [show t + (u - t) = u by omega] at hl
        rw [List.getLastD_cons]; omega
    have := hmono ts t h3 h2
    show cutB s (stN s f) (stN s t) ++ catL (textsF s t ts) = _
    rw [ih, List.getLastD_cons, cutB_join s _ _ _ ⟨hr.1, by omega, this⟩]
section
variable {s : ByteArray} {a b : Int} (hs : s.size ≤ 100000) (ha : 0 ≤ a ∧ a ≤ 1000000) (hb : 0 ≤ b ∧ b ≤ 1000000)
include hs ha hb
theorem ends_last : ∀ (m f : Nat), feasA s a b f → f ≤ (cellsS s).length → (cellsS s).length ≤ f + m → (endsF s a b m f).getLastD f = (cellsS s).length
  | 0, f, _, hf, hm => by show f = _; omega
  | m + 1, f, hfe, hf, hm => by
    unfold endsF
    split
    · rename_i h
      obtain ⟨t, h1, h2, h3, h4, h5, _⟩ := feas_to hs ha hb hfe h
      rw [h1, Int.toNat_natCast, List.getLastD_cons]
      exact ends_last m t h5 h3 (by omega)
    · show f = _; omega
theorem cat_rows : catL (textsF s 0 (endsS s a b)) = s := by
  rw [cat_texts s _ 0 (ends_rise hs ha hb _ 0 (feas0 hs ha hb) (Nat.zero_le _)) (Nat.zero_le _), ends_last hs ha hb _ 0 (feas0 hs ha hb) (Nat.zero_le _) (by omega), stN_0, stN_n, cutB_full]
end
theorem rTurn_v (s : ByteArray) (hs : s.size ≤ 100000) (i : Int) (l : Gapi_Layout) (h1 : I64 (l.Width - i)) (ha : 0 ≤ max 1 (l.Width - i) ∧ max 1 (l.Width - i) ≤ 1000000) (hb : 0 ≤ l.Width - l.Turn ∧ l.Width - l.Turn ≤ 1000000) :
    ref30_Turn_v s i l = some (textsF s 0 (endsS s (max 1 (l.Width - i)) (l.Width - l.Turn)), (TT s (max 1 (l.Width - i)) (l.Width - l.Turn) 0).cost) := by
  have hle := cs_le hs
  unfold ref30_Turn_v
  refine joinI (thenI (rcells_v s (by omega)) (grdI ⟨by omega, by omega⟩ (grdI ⟨by omega, by omega⟩ (grdI ⟨by omega, by omega⟩ (grdI ⟨by omega, by omega⟩ (grdI ⟨by omega, by omega⟩ (grdI ⟨by omega, by omega⟩ (grdI ⟨by omega, by omega⟩ ?_))))))))
  have ho := rt_out hs ha hb i l h1 ⟨by omega, by omega⟩ rfl rfl (fun (cells1 : List Gapi_Cell) (n1 : Int) (cost1 : List Int) (next1 : List Int) => joinK (fun (j5 : (List ByteArray) → Option ((List ByteArray) × Int)) => loopG (fun _ _ => none) (ref30_Turn_s3 s cells1 n1 next1 j5) fuel ([] : List ByteArray) 0) (fun (out1 : List ByteArray) => andThen (getO cost1 0) fun (q22 : Int) => some (out1, q22))) (cellsS s).length 0 fuel (by omega) (big_fuel (by omega))
  have er : ∀ g : Bst → Int, g b0 = 0 → (tabB (Bf (Rs s (max 1 (l.Width - i)) (l.Width - l.Turn)) (Ks s (max 1 (l.Width - i)) (l.Width - l.Turn)) (cellsS s).length 0) (cellsS s).length).map g = List.replicate (((cellsS s).length : Int) + 1 : Int).toNat 0 := by
    intro g hg
    rw [tab_b0, List.map_replicate, hg, show (((cellsS s).length : Int) + 1 : Int).toNat = (cellsS s).length + 1 by omega]
  unfold tC tR tN at ho
  rw [er _ rfl, er _ rfl, er _ rfl, show ((cellsS s).length : Int) - 1 - ((0 : Nat) : Int) = ((cellsS s).length : Int) - 1 by omega] at ho
  refine ho.trans (joinI ?_)
  have hext := rt_ext hs ha hb (fun (out1 : List ByteArray) => andThen (getO (tC (TT s (max 1 (l.Width - i)) (l.Width - l.Turn)) (cellsS s).length) 0) fun (q22 : Int) => some (out1, q22)) (cellsS s).length 0 fuel [] (feas0 hs ha hb) (by omega) (big_fuel (by omega)) (Nat.zero_le _) (Nat.zero_le _)
  refine hext.trans (thenI (getO_of (n := 0) rfl (t_get (·.cost) _ _ 0 (Nat.zero_le _))) rfl)
end Go.Proofs.Ytnhdnpdbmgeheaa
namespace Go.Proofs.Ytnhdnpdbmgeheaa
open Go.RowKit Go.Lib
set_option linter.unusedVariables false
set_option linter.unusedSimpArgs false
def law30_PageTurns_s1 (r2 : ((List ByteArray) × Int × Int)) (j2 : ByteArray → Option Bool) (ag1 : ByteArray → Int → Option Bool) (all4 : ByteArray) (i3 : Int) : Option Bool := bcond (decide ((i3 : Int) < (r2.1.length : Int))) ( andThen (getO r2.1 i3) fun (q1 : ByteArray) => grd (all4.size + q1.size ≤ 9223372036854775807) <| grd (I64 (i3 + 1)) <| ag1 (all4 ++ q1) (i3 + 1)
) ( j2 all4
)
def law30_PageTurns_v (text1 : ByteArray) (indent1 : Int) (l1 : Gapi_Layout) : Option Bool := andThen (law30_live_v) fun (r1 : Bool) => bcond (!r1) ( some false
) ( joinK (fun (j1 : Option Bool) => bcond (decide ((400 : Int) < (text1.size : Int))) ( bcond (decide (((text1.size : Int) : Int) ≤ 1024)) ( some true
) ( j1
)
) ( j1
)
) ( andThen (page_Turn_v text1 indent1 l1) fun (r2 : ((List ByteArray) × Int × Int)) => andThen (law30_fine_v (text1.size : Int) indent1 l1) fun (r3 : Bool) => bcond (!r3) ( bcond (((r2.1.length : Int) : Int) == 0) ( bcond ((r2.2.1 : Int) == 0) ( some ((r2.2.2 : Int) == 2)
) ( some false
)
) ( some false
)
) ( andThen (ref30_Turn_v text1 indent1 l1) fun (r4 : ((List ByteArray) × Int)) => bcond ((r2.2.2 : Int) != 0) ( some false
) ( bcond ((r2.2.1 : Int) != r4.2) ( some false
) ( andThen (law30_same_v r2.1 r4.1) fun (r5 : Bool) => bcond (!r5) ( some false
) ( joinK (fun (j2 : ByteArray → Option Bool) => loopG (fun _ _ => none) (law30_PageTurns_s1 r2 j2) fuel (⟨#[]⟩ : ByteArray) 0
) (fun (all1 : ByteArray) => andThen (page_Cost_v r2.1 indent1 l1) fun (r6 : (Int × Int)) => bcond (decide (all1 = text1)) ( bcond ((r6.2 : Int) == 0) ( some ((r6.1 : Int) == r2.2.1)
) ( some false
)
) ( some false
)
)
)
)
)
)
)
)
set_option maxRecDepth 100000 in
set_option maxHeartbeats 4000000 in
theorem law30_PageTurns_fn {text1 : ByteArray} {indent1 : Int} {l1 : Gapi_Layout} {r : Bool} (h : law30_PageTurns_v text1 indent1 l1 = some r) : FnP Try.prog 3 [.string text1, .int .i64 indent1, .agg #[.int .i64 l1.Width, .int .i64 l1.Height, .int .i64 l1.Turn, .int .i64 l1.Every]] (.bool r) := by
 unfold law30_PageTurns_v at h
 refine FnP.intro Try.func3 rfl Try.ntmps3 (by simp) ?_
 intro w0 K
 refine TC.seq (TC.region ?_)
 refine TO.box rfl dc rfl (fun b1 => ?_)
 refine TO.assign rfl dc rfl (TO.nil (TX.next (TC.seq (TC.seq (TC.region ?_)))))
 obtain ⟨r1, hq1, h⟩ := andE h
 refine TO.callP (v := .bool r1) (vs := []) rfl dc rfl rfl rfl en_6 (law30_live_fn hq1) (TO.un rfl dc rfl un_not (TO.nil (TX.next ?_)))
 refine TC.condB rfl (fun hb1 => ?_) (fun hb1 => ?_)
 ·
  have h := condT hb1 h
  refine TC.seq (TC.region (TO.assign rfl dc rfl (TO.nil (TX.next (TC.ret (TX.thenRet ?_))))))
  cases h
  exact TX.fin (rs := [.tmp 6]) () (.inl rfl) Try.results3 (.cons (.tmp rfl) .nil) rfl Splits.nil
 ·
  have h := condF hb1 h
  refine TC.skip (TX.next ?_)
  obtain ⟨j1, hj1, h⟩ := joinE h
  refine TC.cutN (β := Unit) 0 rfl (fun b => j1 = some r) (fun b => []) (fun b => [(0, .string text1), (1, .int .i64 indent1), (5, .pointer (some ⟨b1, 0, none⟩))]) (fun b => [cells b1 [.int .i64 l1.Width, .int .i64 l1.Height, .int .i64 l1.Turn, .int .i64 l1.Every] 23]) (fun cut => ?_) ?_
  ·
   refine cut (TC.seq (TC.region (TO.move rfl dc rfl (TO.lenStr rfl dc rfl Try.underlying9 (TO.bin rfl dc rfl rfl bin_gtr (TO.move rfl dc rfl ?_))))))
   refine TO.split (s := 22) rfl (fun hb2 => ?_) (fun hb2 => ?_)
   ·
    have h := condT hb2 h
    refine TO.move rfl dc rfl (TO.lenStr rfl dc rfl Try.underlying9 (TO.bin rfl dc rfl rfl bin_leq (TO.pick (b := true) rfl dc rfl rfl (TO.nil (TX.next ?_)))))
    refine TC.condB rfl (fun hb3 => ?_) (fun hb3 => ?_)
    ·
     have h := condT hb3 h
     refine TC.seq (TC.region (TO.assign rfl dc rfl (TO.nil (TX.next (TC.ret (TX.thenRet ?_))))))
     cases h
     exact TX.fin (rs := [.tmp 6]) () (.inl rfl) Try.results3 (.cons (.tmp rfl) .nil) rfl Splits.nil
    ·
     have h := condF hb3 h
     refine TC.skip ?_
     exact TX.meetD () h rfl (Sbs.cons rfl (Sbs.cons rfl (Sbs.cons rfl (Sbs.nil)))) (Splits.of [0] kr rfl)
   ·
    have h := condF hb2 h
    refine TO.skip rfl dc (TO.skip rfl dc (TO.skip rfl dc (TO.pick (b := false) rfl dc rfl rfl (TO.nil (TX.next (TC.condF rfl (TC.skip ?_)))))))
    exact TX.meetD () h rfl (Sbs.cons rfl (Sbs.cons rfl (Sbs.cons rfl (Sbs.nil)))) (Splits.of [0] kr rfl)
  ·
   rintro _ h
   rw [hj1] at h
   show TC _ _ _ _ _ ([]) _ _ [(0, .string text1), (1, .int .i64 indent1), (5, .pointer (some ⟨b1, 0, none⟩))] [cells b1 [.int .i64 l1.Width, .int .i64 l1.Height, .int .i64 l1.Turn, .int .i64 l1.Every] 23]
   refine TC.seq (TC.region (TO.move rfl dc rfl (TO.move rfl dc rfl (TO.loads (k := 0) (cs := [.int .i64 l1.Width, .int .i64 l1.Height, .int .i64 l1.Turn, .int .i64 l1.Every]) rw_23 rfl dc rfl rfl rfl rfl ?_))))
   obtain ⟨r2, hq2, h⟩ := andE h
   refine TO.call (vs := [.string text1, .int .i64 indent1, .agg #[.int .i64 l1.Width, .int .i64 l1.Height, .int .i64 l1.Turn, .int .i64 l1.Every]]) rfl dc rfl rfl rfl en_7 (page_Turn_fn (l1 := l1) hq2) Splits.nil ?_
   rintro v1
   show TO _ _ _ _ _ _ _ _ _ _ [cells b1 [.int .i64 l1.Width, .int .i64 l1.Height, .int .i64 l1.Turn, .int .i64 l1.Every] 23, vec encS 9 1 v1 r2.1]
   refine TO.move rfl dc rfl (TO.extract rfl dc rfl rfl (TO.extract rfl dc rfl rfl (TO.extract rfl dc rfl rfl (TO.assign rfl dc rfl (TO.assign rfl dc rfl (TO.assign rfl dc rfl (TO.nil (TX.next (TC.seq (TC.region (TO.move rfl dc rfl (TO.lenStr rfl dc rfl Try.underlying9 (TO.move rfl dc rfl ?_)))))))))))))
   refine TO.loads (k := 0) (cs := [.int .i64 l1.Width, .int .i64 l1.Height, .int .i64 l1.Turn, .int .i64 l1.Every]) rw_23 rfl dc rfl rfl rfl rfl ?_
   obtain ⟨r3, hq3, h⟩ := andE h
   refine TO.callP (v := .bool r3) (vs := [.int .i64 (text1.size : Int), .int .i64 indent1, .agg #[.int .i64 l1.Width, .int .i64 l1.Height, .int .i64 l1.Turn, .int .i64 l1.Every]]) rfl dc rfl rfl rfl en_8 (law30_fine_fn (l1 := l1) hq3) (TO.assign rfl dc rfl (TO.nil (TX.next (TC.seq (TC.seq (TC.region (TO.move rfl dc rfl (TO.un rfl dc rfl un_not (TO.nil (TX.next ?_))))))))))
   refine TC.condB rfl (fun hb4 => ?_) (fun hb4 => ?_)
   ·
    have h := condT hb4 h
    refine TC.seq (TC.region (TO.move rfl dc rfl (TO.lenVec (k := 1) rfl dc rfl rfl Try.underlying25 (TO.bin rfl dc rfl rfl bin_eql (TO.move rfl dc rfl ?_)))))
    refine TO.split (s := 45) rfl (fun hb5 => ?_) (fun hb5 => ?_)
    ·
     have h := condT hb5 h
     refine TO.move rfl dc rfl (TO.bin rfl dc rfl rfl bin_eql (TO.pick (b := true) rfl dc rfl rfl (TO.move rfl dc rfl ?_)))
     refine TO.split (s := 49) rfl (fun hb6 => ?_) (fun hb6 => ?_)
     ·
      have h := condT hb6 h
      refine TO.move rfl dc rfl (TO.bin rfl dc rfl rfl bin_eql (TO.pick (b := true) rfl dc rfl rfl (TO.assign rfl dc rfl (TO.nil (TX.next (TC.ret (TX.thenRet ?_)))))))
      cases h
      exact TX.fin (rs := [.tmp 6]) () (.inl rfl) Try.results3 (.cons (.tmp rfl) .nil) rfl Splits.nil
     ·
      have h := condF hb6 h
      refine TO.skip rfl dc (TO.skip rfl dc (TO.pick (b := false) rfl dc rfl rfl (TO.assign rfl dc rfl (TO.nil (TX.next (TC.ret (TX.thenRet ?_)))))))
      cases h
      exact TX.fin (rs := [.tmp 6]) () (.inl rfl) Try.results3 (.cons (.tmp rfl) .nil) rfl Splits.nil
    ·
     have h := condF hb5 h
     refine TO.skip rfl dc (TO.skip rfl dc (TO.pick (b := false) rfl dc rfl rfl (TO.move rfl dc rfl (TO.skip rfl dc (TO.skip rfl dc (TO.pick (b := false) rfl dc rfl rfl (TO.assign rfl dc rfl (TO.nil (TX.next (TC.ret (TX.thenRet ?_)))))))))))
     cases h
     exact TX.fin (rs := [.tmp 6]) () (.inl rfl) Try.results3 (.cons (.tmp rfl) .nil) rfl Splits.nil
   ·
    have h := condF hb4 h
    refine TC.skip (TX.next (TC.seq (TC.region (TO.move rfl dc rfl (TO.move rfl dc rfl (TO.loads (k := 0) (cs := [.int .i64 l1.Width, .int .i64 l1.Height, .int .i64 l1.Turn, .int .i64 l1.Every]) rw_23 rfl dc rfl rfl rfl rfl ?_))))))
    obtain ⟨r4, hq4, h⟩ := andE h
    refine TO.call (vs := [.string text1, .int .i64 indent1, .agg #[.int .i64 l1.Width, .int .i64 l1.Height, .int .i64 l1.Turn, .int .i64 l1.Every]]) rfl dc rfl rfl rfl en_9 (ref30_Turn_fn (l1 := l1) hq4) Splits.nil ?_
    rintro v2
    show TO _ _ _ _ _ _ _ _ _ _ [cells b1 [.int .i64 l1.Width, .int .i64 l1.Height, .int .i64 l1.Turn, .int .i64 l1.Every] 23, vec encS 9 1 v1 r2.1, vec encS 9 1 v2 r4.1]
    refine TO.move rfl dc rfl (TO.extract rfl dc rfl rfl (TO.extract rfl dc rfl rfl (TO.assign rfl dc rfl (TO.assign rfl dc rfl (TO.nil (TX.next (TC.seq (TC.seq (TC.region (TO.move rfl dc rfl (TO.bin rfl dc rfl rfl bin_neq (TO.move rfl dc rfl ?_))))))))))))
    refine TO.split (s := 62) rfl (fun hb7 => ?_) (fun hb7 => ?_)
    ·
     have h := condT hb7 h
     refine TO.skip rfl dc (TO.skip rfl dc (TO.skip rfl dc (TO.pick (b := true) rfl dc rfl rfl (TO.move rfl dc rfl (TO.skip rfl dc (TO.skip rfl dc (TO.skip rfl dc (TO.skip rfl dc (TO.pick (b := true) rfl dc rfl rfl (TO.nil (TX.next (TC.condT rfl (TC.seq ?_)))))))))))))
     refine TC.region (TO.assign rfl dc rfl (TO.nil (TX.next (TC.ret (TX.thenRet ?_)))))
     cases h
     exact TX.fin (rs := [.tmp 6]) () (.inl rfl) Try.results3 (.cons (.tmp rfl) .nil) rfl Splits.nil
    ·
     have h := condF hb7 h
     refine TO.move rfl dc rfl (TO.move rfl dc rfl (TO.bin rfl dc rfl rfl bin_neq (TO.pick (b := false) rfl dc rfl rfl (TO.move rfl dc rfl ?_))))
     refine TO.split (s := 67) rfl (fun hb8 => ?_) (fun hb8 => ?_)
     ·
      have h := condT hb8 h
      refine TO.skip rfl dc (TO.skip rfl dc (TO.skip rfl dc (TO.skip rfl dc (TO.pick (b := true) rfl dc rfl rfl (TO.nil (TX.next (TC.condT rfl (TC.seq (TC.region (TO.assign rfl dc rfl (TO.nil (TX.next (TC.ret ?_)))))))))))))
      refine TX.thenRet ?_
      cases h
      exact TX.fin (rs := [.tmp 6]) () (.inl rfl) Try.results3 (.cons (.tmp rfl) .nil) rfl Splits.nil
     ·
      have h := condF hb8 h
      refine TO.move rfl dc rfl (TO.move rfl dc rfl ?_)
      refine TO.vecVw (k := 1) rfl (fun hw1 => ?_)
      refine TO.vecVw (k := 2) rfl (fun hw2 => ?_)
      obtain ⟨r5, hq5, h⟩ := andE h
      refine TO.callK (v := .bool r5) (vs := [v1, v2]) rfl dc rfl rfl rfl en_10 (law30_same_fn hw1 hw2 hq5) [1, 2] kr rfl (TO.un rfl dc rfl un_not (TO.pick (b := false) rfl dc rfl rfl (TO.nil (TX.next ?_))))
      refine TC.condB rfl (fun hb9 => ?_) (fun hb9 => ?_)
      ·
       have h := condT hb9 h
       refine TC.seq (TC.region (TO.assign rfl dc rfl (TO.nil (TX.next (TC.ret (TX.thenRet ?_))))))
       cases h
       exact TX.fin (rs := [.tmp 6]) () (.inl rfl) Try.results3 (.cons (.tmp rfl) .nil) rfl Splits.nil
      ·
       have h := condF hb9 h
       refine TC.skip (TX.next ?_)
       obtain ⟨j2, hj2, h⟩ := joinE h
       refine TC.cutN (β := ByteArray) 1 rfl (fun b => j2 b = some r) (fun b => []) (fun b => [(0, .string text1), (1, .int .i64 indent1), (5, .pointer (some ⟨b1, 0, none⟩)), (7, v1), (8, .int .i64 r2.2.1), (13, .string b)]) (fun b => [cells b1 [.int .i64 l1.Width, .int .i64 l1.Height, .int .i64 l1.Turn, .int .i64 l1.Every] 23, vec encS 9 1 v1 r2.1]) (fun cut => ?_) ?_
       ·
        refine TC.seq (TC.region (TO.assign rfl dc rfl (TO.nil (TX.next (cut (TC.seq (TC.region (TO.assign rfl dc rfl (TO.nil (TX.next (TC.block ?_)))))))))))
        refine TC.loopD (β := Nat × ByteArray × Int) (fun b => loopG (fun _ _ => none) (law30_PageTurns_s1 r2 j2) b.1 b.2.1 b.2.2 = some r) (fun b => []) (fun b => [(0, .string text1), (1, .int .i64 indent1), (5, .pointer (some ⟨b1, 0, none⟩)), (7, v1), (8, .int .i64 r2.2.1), (13, .string b.2.1), (14, .int .i64 b.2.2)]) (fun b => [cells b1 [.int .i64 l1.Width, .int .i64 l1.Height, .int .i64 l1.Turn, .int .i64 l1.Every] 23, vec encS 9 1 v1 r2.1]) (fun b => b.1) (fuel, (⟨#[]⟩ : ByteArray), 0) h rfl (Sbs.cons rfl (Sbs.cons rfl (Sbs.cons rfl (Sbs.cons rfl (Sbs.cons rfl (Sbs.cons rfl (Sbs.cons rfl (Sbs.nil)))))))) (Splits.of [0, 1] kr rfl) ?_
        rintro ⟨n1, all4, i3⟩ h
        cases n1 with
        | zero => exact noneE h
        | succ n1 =>
         obtain ⟨ag1, hag1⟩ : ∃ ag, ag = loopG (fun _ _ => none) (law30_PageTurns_s1 r2 j2) n1 := ⟨_, rfl⟩
         have h : law30_PageTurns_s1 r2 j2 ag1 all4 i3 = some r := by rw [hag1]; exact h
         unfold law30_PageTurns_s1 at h
         show TC _ _ _ _ _ ([]) _ _ [(0, .string text1), (1, .int .i64 indent1), (5, .pointer (some ⟨b1, 0, none⟩)), (7, v1), (8, .int .i64 r2.2.1), (13, .string all4), (14, .int .i64 i3)] [cells b1 [.int .i64 l1.Width, .int .i64 l1.Height, .int .i64 l1.Turn, .int .i64 l1.Every] 23, vec encS 9 1 v1 r2.1]
         refine TC.seq (TC.seq (TC.region (TO.move rfl dc rfl (TO.move rfl dc rfl (TO.lenVec (k := 1) rfl dc rfl rfl Try.underlying25 (TO.bin rfl dc rfl rfl bin_lss (TO.nil (TX.next ?_))))))))
         refine TC.condB rfl (fun hb10 => ?_) (fun hb10 => ?_)
         ·
          have h := condT hb10 h
          refine TC.skip (TX.next (TC.seq (TC.block (TC.region (TO.move rfl dc rfl (TO.move rfl dc rfl (TO.move rfl dc rfl ?_)))))))
          obtain ⟨q1, hq6, h⟩ := andE h
          refine TO.indexVecI (k := 1) hq6 Try.underlying25 sz_9 rfl dc rfl rfl rfl rfl (TO.loadVec (i := (i3 : Int).toNat) (j := 0) (k := 1) (q := q1) sc_9 encS_len rfl dc rfl rfl (getO_get hq6) rfl dc rfl ?_)
          obtain ⟨hg1, h⟩ := grdE h
          refine TO.bin rfl dc rfl rfl (bin_sadd hg1) (TO.assign rfl dc rfl (TO.nil (TX.blockNormal (TX.next (TC.region (TO.move rfl dc rfl ?_))))))
          obtain ⟨hg2, h⟩ := grdE h
          refine TO.bin rfl dc rfl rfl (bin_add (r := i3 + 1) (IntWalk.i64_in _ hg2)) (TO.assign rfl dc rfl (TO.nil ?_))
          subst hag1
          exact TX.againD (n1, all4 ++ q1, i3 + 1) h (Nat.lt_succ_self _) rfl (Sbs.cons rfl (Sbs.cons rfl (Sbs.cons rfl (Sbs.cons rfl (Sbs.cons rfl (Sbs.cons rfl (Sbs.cons rfl (Sbs.nil)))))))) (Splits.of [0, 1] kr rfl)
         ·
          have h := condF hb10 h
          refine TC.exit (TX.thenExit (TX.thenExit (TX.blockHere ?_)))
          exact TX.meetD all4 h rfl (Sbs.cons rfl (Sbs.cons rfl (Sbs.cons rfl (Sbs.cons rfl (Sbs.cons rfl (Sbs.cons rfl (Sbs.nil))))))) (Splits.of [0, 1] kr rfl)
       ·
        rintro all1 h
        rw [hj2] at h
        show TC _ _ _ _ _ ([]) _ _ [(0, .string text1), (1, .int .i64 indent1), (5, .pointer (some ⟨b1, 0, none⟩)), (7, v1), (8, .int .i64 r2.2.1), (13, .string all1)] [cells b1 [.int .i64 l1.Width, .int .i64 l1.Height, .int .i64 l1.Turn, .int .i64 l1.Every] 23, vec encS 9 1 v1 r2.1]
        refine TC.seq (TC.region (TO.move rfl dc rfl (TO.move rfl dc rfl (TO.loads (k := 0) (cs := [.int .i64 l1.Width, .int .i64 l1.Height, .int .i64 l1.Turn, .int .i64 l1.Every]) rw_23 rfl dc rfl rfl rfl rfl ?_))))
        refine TO.vecVw (k := 1) rfl (fun hw3 => ?_)
        obtain ⟨r6, hq7, h⟩ := andE h
        refine TO.callK (v := .tuple #[.int .i64 r6.1, .int .i64 r6.2]) (vs := [v1, .int .i64 indent1, .agg #[.int .i64 l1.Width, .int .i64 l1.Height, .int .i64 l1.Turn, .int .i64 l1.Every]]) rfl dc rfl rfl rfl en_11 (page_Cost_fn (l1 := l1) hw3 hq7) [1] kr rfl (TO.move rfl dc rfl (TO.extract rfl dc rfl rfl (TO.extract rfl dc rfl rfl (TO.assign rfl dc rfl (TO.assign rfl dc rfl (TO.nil (TX.next (TC.seq (TC.region (TO.move rfl dc rfl (TO.move rfl dc rfl (TO.bin rfl dc rfl rfl bin_seql (TO.move rfl dc rfl ?_)))))))))))))
        refine TO.split (s := 95) rfl (fun hb11 => ?_) (fun hb11 => ?_)
        ·
         have h := condT hb11 h
         refine TO.move rfl dc rfl (TO.bin rfl dc rfl rfl bin_eql (TO.pick (b := true) rfl dc rfl rfl (TO.move rfl dc rfl ?_)))
         refine TO.split (s := 99) rfl (fun hb12 => ?_) (fun hb12 => ?_)
         ·
          have h := condT hb12 h
          refine TO.move rfl dc rfl (TO.move rfl dc rfl (TO.bin rfl dc rfl rfl bin_eql (TO.pick (b := true) rfl dc rfl rfl (TO.assign rfl dc rfl (TO.nil (TX.next (TC.ret ?_)))))))
          cases h
          exact TX.fin (rs := [.tmp 6]) () (.inl rfl) Try.results3 (.cons (.tmp rfl) .nil) rfl Splits.nil
         ·
          have h := condF hb12 h
          refine TO.skip rfl dc (TO.skip rfl dc (TO.skip rfl dc (TO.pick (b := false) rfl dc rfl rfl (TO.assign rfl dc rfl (TO.nil (TX.next (TC.ret ?_)))))))
          cases h
          exact TX.fin (rs := [.tmp 6]) () (.inl rfl) Try.results3 (.cons (.tmp rfl) .nil) rfl Splits.nil
        ·
         have h := condF hb11 h
         refine TO.skip rfl dc (TO.skip rfl dc (TO.pick (b := false) rfl dc rfl rfl (TO.move rfl dc rfl (TO.skip rfl dc (TO.skip rfl dc (TO.skip rfl dc (TO.pick (b := false) rfl dc rfl rfl (TO.assign rfl dc rfl (TO.nil (TX.next (TC.ret ?_)))))))))))
         cases h
         exact TX.fin (rs := [.tmp 6]) () (.inl rfl) Try.results3 (.cons (.tmp rfl) .nil) rfl Splits.nil
end Go.Proofs.Ytnhdnpdbmgeheaa
namespace Go.Proofs.Ytnhdnpdbmgeheaa
open Go.RowKit Go.Lib
set_option linter.unusedVariables false
set_option linter.unusedSimpArgs false
section
variable {α : Type} {enc : α → List Value} {size k : Nat} {vv : Value} {xs : List α}
variable {F : Fence} {P : Program} {w0 : World} {K : Nat → Prop} {N : Nat} {dfs : List Deferred} {ops : Array Oper} {Q : Exit → Act → World → Prop} {rest : List Oper} {σ : List (Nat × Value)} {L RD : List Asn} {v : Value}
  {d i : Nat} {t ty : TypeId} {pos : String} {aft : Array Edge} {g : Option (Nat × Bool)} {x : Operand}
end
end Go.Proofs.Ytnhdnpdbmgeheaa
namespace Go.Proofs.Ytnhdnpdbmgeheaa
open Go.RowKit Go.Lib Go.ChangeShapes Go.WideShapes
set_option linter.unusedVariables false
set_option linter.unusedSimpArgs false
theorem FnR.p {P : Program} {f : FuncId} {vs : List Value} {RD : List Asn} {v : Value} (h : FnR P f vs RD [] (fun _ : Unit => v) (fun _ => [])) (w : World) (hr : Rd w (fun _ => False) RD) : Calls P f vs.toArray w fun e w' => e = .returned v ∧ Below w.heap.size w w' :=
  (h w (fun _ => False) hr (fun _ h => h)).mono fun e w' ⟨_, h1, C', h2, h3⟩ => ⟨h1, h3.toBelow (Nat.le_refl _) (fun _ _ h => h)⟩
section
variable {H : Type} {enc : TypeId × Value → H} {P : Program} {w : World} {base : Nat} {held : Bool} {fuel : Nat} {t e : TypeId} {cs : List Value} {x : DataW H × List MemPlace}
/-- A record of four whole numbers. -/
theorem see_four {q : IntKind} {fs : Array Field} (ht : P.underlying t = some (.struct fs)) (hfs : fs.toList.map (fun f => (f.type, f.offset)) = [(e, 0), (e, 1), (e, 2), (e, 3)]) (hsz : P.cellsOf t = 4) (h1 : P.cellsOf e = 1) (he : P.underlying e = some (.int q)) {sp : Nat → Bool} (h : DataW.trod enc P w base sp held fuel t cs = some x) :
    ∃ a b c d : Int, cs = [.int q a, .int q b, .int q c, .int q d] ∧ (Lit.int q a).wf = true ∧ (Lit.int q b).wf = true ∧ (Lit.int q c).wf = true ∧ (Lit.int q d).wf = true := by
  obtain ⟨xs, n, rfl, rfl, hl, hx, hf⟩ := DataW.trod_struct ht h
  rw [hsz] at hl
  have key : ∀ i, i < 4 → ∃ z, DataW.trod enc P w base sp held n e ((cs.drop i).take 1) = some z := by
    intro i hi
    have hg : (fs.toList.map (fun f => (f.type, f.offset)))[i]? = some (e, i) := by
      rw [hfs]
      have : i = 0 ∨ i = 1 ∨ i = 2 ∨ i = 3 := by omega
      rcases this with rfl | rfl | rfl | rfl <;> rfl
    rw [List.getElem?_map] at hg
    cases hq : fs.toList[i]? with
    | none => rw [hq] at hg; cases hg
    | some f =>
      rw [hq] at hg
      have hfe : (f.type, f.offset) = (e, i) := Option.some.inj hg
      have h2 := hf i f (by rw [← Array.getElem?_toList]; exact hq)
      rw [(Prod.mk.inj hfe).1, (Prod.mk.inj hfe).2, h1] at h2
      have hsz4 : fs.size = 4 := by have := congrArg List.length hfs; simpa using this
      rw [List.getElem?_eq_getElem (by omega)] at h2
      exact ⟨_, h2⟩
  match cs, hl with
  | [c0, c1, c2, c3], _ =>
    obtain ⟨z0, k0⟩ := key 0 (by decide)
    obtain ⟨z1, k1⟩ := key 1 (by decide)
    obtain ⟨z2, k2⟩ := key 2 (by decide)
    obtain ⟨z3, k3⟩ := key 3 (by decide)
    obtain ⟨a, ea, _, wa⟩ := DataW.trod_int he k0
    obtain ⟨b, eb, _, wb⟩ := DataW.trod_int he k1
    obtain ⟨c, ec, _, wc⟩ := DataW.trod_int he k2
    obtain ⟨d, ed, _, wd⟩ := DataW.trod_int he k3
    simp at ea eb ec ed
    exact ⟨a, b, c, d, by rw [ea, eb, ec, ed], wa, wb, wc, wd⟩
theorem see_layout {q : IntKind} {fs : Array Field} {v : Value} {d : DataW H} {ps : List MemPlace} {r : Reach} {b0 : Nat} {sp : Nat → Bool} (ht : P.underlying t = some (.struct fs)) (hfs : fs.toList.map (fun f => (f.type, f.offset)) = [(e, 0), (e, 1), (e, 2), (e, 3)]) (hsz : P.cellsOf t = 4) (h1 : P.cellsOf e = 1) (he : P.underlying e = some (.int q)) (hval : Value.okWide P w r b0 t v) (h : DataW.Trod enc P w base sp held t v d ps) :
    ∃ a b c g : Int, v = .agg #[.int q a, .int q b, .int q c, .int q g] := by
  obtain ⟨cs, rfl, hcs⟩ := okWide_struct ht hval
  obtain ⟨fuel, h⟩ := h
  have h : DataW.trod enc P w base sp held fuel t cs.toList = some (d, ps) := h
  obtain ⟨a, b, c, g, h2, _⟩ := see_four ht hfs hsz h1 he h
  exact ⟨a, b, c, g, by rw [← h2]⟩
end
end Go.Proofs.Ytnhdnpdbmgeheaa
namespace Go.Proofs.Ytnhdnpdbmgeheaa
open Go.RowKit Go.Lib
set_option linter.unusedVariables false
set_option linter.unusedSimpArgs false
theorem same_v (L : List ByteArray) (hl : L.length ≤ 100000) : law30_same_v L L = some true := by
  unfold law30_same_v
  refine condFI (bne_self_eq_false _) (joinI ?_)
  have key : ∀ (d k m : Nat), k + d = L.length → d < m → loopG (fun _ => none) (law30_same_s1 L L (some true)) m (k : Int) = some true := by
    intro d
    induction d with
    | zero =>
      intro k m hk hm
      obtain ⟨m, rfl⟩ : ∃ q, m = q + 1 := ⟨m - 1, by omega⟩
      rw [loopI]
      generalize loopG (fun _ => none) (law30_same_s1 L L (some true)) m = ag
      unfold law30_same_s1
      exact condFI (decide_eq_false (by omega)) rfl
    | succ d ih =>
      intro k m hk hm
      obtain ⟨m, rfl⟩ : ∃ q, m = q + 1 := ⟨m - 1, by omega⟩
      have ih' := ih (k + 1) m (by omega) (by omega)
      rw [show ((k + 1 : Nat) : Int) = (k : Int) + 1 by omega] at ih'
      rw [loopI]
      generalize loopG (fun _ => none) (law30_same_s1 L L (some true)) m = ag at ih' ⊢
      have hx : L[k]? = some L[k] := List.getElem?_eq_getElem (by omega)
      unfold law30_same_s1
      exact condTI (lp_lt hx) (thenI (lp_get hx) (thenI (lp_get hx) (condFI (by simp) (grdI ⟨by omega, by omega⟩ ih'))))
  exact key L.length 0 fuel (by omega) (big_fuel (by omega))
theorem turns_loop (L : List ByteArray) (c e : Int) (hl : L.length ≤ 100000) (hz : sizL L ≤ 100000000) (j : ByteArray → Option Bool) : ∀ (ts pre : List ByteArray) (m : Nat), L = pre ++ ts → ts.length < m → loopG (fun _ _ => none) (law30_PageTurns_s1 (L, c, e) j) m (catL pre) (pre.length : Int) = j (catL L)
  | [], pre, m, h, hm => by
    obtain ⟨m, rfl⟩ : ∃ q, m = q + 1 := ⟨m - 1, by simp at hm; omega⟩
    rw [List.append_nil] at h; subst h
    rw [loopI]
    generalize loopG (fun _ _ => none) (law30_PageTurns_s1 (L, c, e) j) m = ag
    unfold law30_PageTurns_s1
    exact condFI lp_ge rfl
  | t :: ts, pre, m, h, hm => by
    obtain ⟨m, rfl⟩ : ∃ q, m = q + 1 := ⟨m - 1, by simp at hm; omega⟩
    have ih := turns_loop L c e hl hz j ts (pre ++ [t]) m (by rw [h]; simp) (by simp at hm; omega)
    rw [loopI]
    generalize loopG (fun _ _ => none) (law30_PageTurns_s1 (L, c, e) j) m = ag at ih ⊢
    have hx : L[pre.length]? = some t := by rw [h]; simp
    have hpl := lp_lt' hx
    have h2 : sizL L = sizL pre + (t.size + sizL ts) := by rw [h, sizL_app]; rfl
    have hcs := catL_size pre
    have hap : ∀ A : List ByteArray, catL (A ++ [t]) = catL A ++ t := by
      intro A
      induction A with
      | nil =>
        show t ++ (⟨#[]⟩ : ByteArray) = (⟨#[]⟩ : ByteArray) ++ t
        rw [app_empty, empty_app]
      | cons x A ih => show x ++ catL (A ++ [t]) = (x ++ catL A) ++ t; rw [ih, ByteArray.append_assoc]
    rw [hap, show (((pre ++ [t]).length : Nat) : Int) = (pre.length : Int) + 1 by simp] at ih
    unfold law30_PageTurns_s1
    exact condTI (lp_lt hx) (thenI (lp_get hx) (grdI (by omega) (grdI ⟨by omega, by omega⟩ ih)))
theorem pageTurns_v (s : ByteArray) (i : Int) (l : Gapi_Layout) : law30_PageTurns_v s i l = some true := by
  unfold law30_PageTurns_v
  refine thenI live_v (condFI rfl ?_)
  have main : (s.size ≤ 400 ∨ 1024 < s.size) → (andThen (page_Turn_v s i l) fun (r2 : ((List ByteArray) × Int × Int)) => andThen (law30_fine_v (s.size : Int) i l) fun (r3 : Bool) => bcond (!r3) (bcond (((r2.1.length : Int) : Int) == 0) (bcond ((r2.2.1 : Int) == 0) (some ((r2.2.2 : Int) == 2)) (some false)) (some false))
      (andThen (ref30_Turn_v s i l) fun (r4 : ((List ByteArray) × Int)) => bcond ((r2.2.2 : Int) != 0) (some false) (bcond ((r2.2.1 : Int) != r4.2) (some false) (andThen (law30_same_v r2.1 r4.1) fun (r5 : Bool) => bcond (!r5) (some false) (joinK (fun (j2 : ByteArray → Option Bool) => loopG (fun _ _ => none) (law30_PageTurns_s1 r2 j2) fuel (⟨#[]⟩ : ByteArray) 0)
        (fun (all1 : ByteArray) => andThen (page_Cost_v r2.1 i l) fun (r6 : (Int × Int)) => bcond (decide (all1 = s)) (bcond ((r6.2 : Int) == 0) (some ((r6.1 : Int) == r2.2.1)) (some false)) (some false))))))) = some true := by
    intro hsz
    refine thenI (Turn_v s i l) (thenI (fine_v _ _ _) ?_)
    by_cases hf : mayB l = true ∧ 0 ≤ i ∧ i ≤ 1024 ∧ s.size ≤ 1024
    · rw [if_pos hf]
      obtain ⟨f1, f2, f3, f4⟩ := hf
      rw [f1, decide_eq_true f2, decide_eq_true f3, decide_eq_true (show (s.size : Int) ≤ 1024 by omega)]
      obtain ⟨g1, g2, g3⟩ := w_rng f1 (i := i) ⟨f2, f3⟩
      have hs : s.size ≤ 100000 := by omega
      have hle := cs_le hs
      have hcat : catL (rowsS s i l) = s := cat_rows hs g2 g3
      have hz := catL_size (rowsS s i l)
      rw [hcat] at hz
      have hlen : (rowsS s i l).length ≤ 100000 := by
        have hr := ends_rise hs g2 g3 (cellsS s).length 0 (feas0 hs g2 g3) (Nat.zero_le _)
        have h1 : 0 + (endsS s (fstW i l) (nxtW l)).length ≤ max (cellsS s).length 0 := rise_len hr
        have h2 : ∀ (ts : List Nat) (f : Nat), (textsF s f ts).length = ts.length := by
          intro ts
          induction ts with
          | nil => intro f; rfl
          | cons t ts ih => intro f; show (textsF s t ts).length + 1 = ts.length + 1; rw [ih]
        show (textsF s 0 (endsS s (fstW i l) (nxtW l))).length ≤ 100000
        rw [h2]
        omega
      have hmem : ∀ x ∈ rowsS s i l, x.size ≤ 140737488355328 := by
        have key : ∀ (L : List ByteArray) (x : ByteArray), x ∈ L → x.size ≤ sizL L := by
          intro L
          induction L with
          | nil => intro x h; cases h
          | cons y L ih =>
            intro x h
            show x.size ≤ y.size + sizL L
            rcases List.mem_cons.1 h with rfl | h
            · omega
            · have := ih x h; omega
        intro x hx
        have := key _ x hx
        omega
      have hC := Cost_v (rowsS s i l) hlen hmem i l
      rw [if_pos ⟨f1, f2, f3, by omega⟩, hcat] at hC
      have hct : costF s (fstW i l) (nxtW l) 0 (rowsS s i l) = some (TT s (fstW i l) (nxtW l) 0).cost := cost_texts hs g2 g3 (cellsS s).length 0 (feas0 hs g2 g3) (Nat.zero_le _) (by omega)
      rw [hct] at hC
      refine condFI rfl (thenI (rTurn_v s hs i l g1 g2 g3) (condFI rfl (condFI (bne_self_eq_false _) (thenI (same_v _ hlen) (condFI rfl (joinI ?_))))))
      have ht := turns_loop (rowsS s i l) (TT s (fstW i l) (nxtW l) 0).cost 0 hlen (by omega) (fun (all1 : ByteArray) => andThen (page_Cost_v (rowsS s i l) i l) fun (r6 : (Int × Int)) => bcond (decide (all1 = s)) (bcond ((r6.2 : Int) == 0) (some ((r6.1 : Int) == (TT s (fstW i l) (nxtW l) 0).cost)) (some false)) (some false)) (rowsS s i l) [] fuel rfl (big_fuel (by omega))
      refine ht.trans (thenI hC (condTI (decide_eq_true hcat) (condTI rfl ?_)))
      show some ((TT s (fstW i l) (nxtW l) 0).cost == (TT s (fstW i l) (nxtW l) 0).cost) = some true
      rw [beq_self_eq_true]
    · rw [if_neg hf]
      have hb : (mayB l && (decide ((0 : Int) ≤ i) && (decide ((i : Int) ≤ 1024) && decide ((s.size : Int) ≤ 1024)))) = false := by
        cases h : (mayB l && (decide ((0 : Int) ≤ i) && (decide ((i : Int) ≤ 1024) && decide ((s.size : Int) ≤ 1024)))) with
        | false => rfl
        | true =>
          simp only [Bool.and_eq_true, decide_eq_true_eq] at h
          exact absurd ⟨h.1, h.2.1, h.2.2.1, by omega⟩ hf
      rw [hb]
      exact condTI rfl (condTI rfl (condTI rfl rfl))
  refine joinI ?_
  by_cases h1 : (400 : Int) < (s.size : Int)
  · refine condTI (decide_eq_true h1) ?_
    by_cases h2 : (s.size : Int) ≤ 1024
    · exact condTI (decide_eq_true h2) rfl
    · exact condFI (decide_eq_false h2) (main (.inr (by omega)))
  · exact condFI (decide_eq_false h1) (main (.inl (by omega)))
theorem pageTurns_any (s : ByteArray) (i w0 h0 t0 e0 : Int) (w : World) : Calls Try.prog 3 #[.string s, .int .i64 i, .agg #[.int .i64 w0, .int .i64 h0, .int .i64 t0, .int .i64 e0]] w fun e w' => e = .returned (.bool true) ∧ Below w.heap.size w w' :=
  law30_PageTurns_fn (l1 := ⟨w0, h0, t0, e0⟩) (pageTurns_v s i ⟨w0, h0, t0, e0⟩) w
end Go.Proofs.Ytnhdnpdbmgeheaa
